import Derived.Test.YtoieegmebadfkaaM1
import Derived.Test.YtoieegmebadfkaaM2
import Derived.Test.YtoieegmebadfkaaM3
import Derived.Test.YtoieegmebadfkaaM5
/- The merge in place, one step. No conditions. -/
namespace Go.Proofs.Ytoieegmebadfkaa
open Go.Am
variable {P_ : Int → Prop}
def symMergeB_l1 (i : Int) : Nat → Int → (List Int) → List Int
  | 0, _, _ => default
  | nn + 1, k, vc => (bif (decide (k < (IntKind.i64.wrap (i - 1)))) then symMergeB_l1 i nn (IntKind.i64.wrap (k + 1)) ((vc.set k.toNat (vc[(IntKind.i64.wrap (k + 1)).toNat]!)).set ((IntKind.i64.wrap (k + 1)).toNat) (vc[k.toNat]!)) else vc)
def symMergeB_l0 (data : List Int) (a : Int) (cmp : Int → Int → Int) : Nat → Int → Int → List Int
  | 0, _, _ => default
  | nn + 1, i, j => (bif (decide (i < j)) then (bif (decide ((cmp (data[(IntKind.i64.wrap (shrI .u64 (IntKind.u64.wrap (IntKind.i64.wrap (i + j))) 1)).toNat]!) (data[a.toNat]!)) < 0)) then symMergeB_l0 data a cmp nn (IntKind.i64.wrap ((IntKind.i64.wrap (shrI .u64 (IntKind.u64.wrap (IntKind.i64.wrap (i + j))) 1)) + 1)) j else symMergeB_l0 data a cmp nn i (IntKind.i64.wrap (shrI .u64 (IntKind.u64.wrap (IntKind.i64.wrap (i + j))) 1))) else symMergeB_l1 i ((IntKind.i64.wrap (i - 1) - a).toNat + 1) a data)
def symMergeB_l3 (i1 : Int) : Nat → Int → (List Int) → List Int
  | 0, _, _ => default
  | nn + 1, k1, vc1 => (bif (decide (k1 > i1)) then symMergeB_l3 i1 nn (IntKind.i64.wrap (k1 - 1)) ((vc1.set k1.toNat (vc1[(IntKind.i64.wrap (k1 - 1)).toNat]!)).set ((IntKind.i64.wrap (k1 - 1)).toNat) (vc1[k1.toNat]!)) else vc1)
def symMergeB_l2 (data : List Int) (m : Int) (cmp : Int → Int → Int) : Nat → Int → Int → List Int
  | 0, _, _ => default
  | nn + 1, i1, j1 => (bif (decide (i1 < j1)) then (bif (!(decide ((cmp (data[m.toNat]!) (data[(IntKind.i64.wrap (shrI .u64 (IntKind.u64.wrap (IntKind.i64.wrap (i1 + j1))) 1)).toNat]!)) < 0))) then symMergeB_l2 data m cmp nn (IntKind.i64.wrap ((IntKind.i64.wrap (shrI .u64 (IntKind.u64.wrap (IntKind.i64.wrap (i1 + j1))) 1)) + 1)) j1 else symMergeB_l2 data m cmp nn i1 (IntKind.i64.wrap (shrI .u64 (IntKind.u64.wrap (IntKind.i64.wrap (i1 + j1))) 1))) else symMergeB_l3 i1 ((m - i1).toNat + 1) m data)
def symMergeB_l4 (rec : List Int → Int → Int → Int → (Int → Int → Int) → List Int) (data : List Int) (a : Int) (m : Int) (b : Int) (cmp : Int → Int → Int) : Nat → Int → Int → List Int
  | 0, _, _ => default
  | nn + 1, start, r => (bif (decide (start < r)) then (bif (!(decide ((cmp (data[(IntKind.i64.wrap ((IntKind.i64.wrap ((IntKind.i64.wrap ((IntKind.i64.wrap (shrI .u64 (IntKind.u64.wrap (IntKind.i64.wrap (a + b))) 1)) + m)) - 1)) - (IntKind.i64.wrap (shrI .u64 (IntKind.u64.wrap (IntKind.i64.wrap (start + r))) 1)))).toNat]!) (data[(IntKind.i64.wrap (shrI .u64 (IntKind.u64.wrap (IntKind.i64.wrap (start + r))) 1)).toNat]!)) < 0))) then symMergeB_l4 rec data a m b cmp nn (IntKind.i64.wrap ((IntKind.i64.wrap (shrI .u64 (IntKind.u64.wrap (IntKind.i64.wrap (start + r))) 1)) + 1)) r else symMergeB_l4 rec data a m b cmp nn start (IntKind.i64.wrap (shrI .u64 (IntKind.u64.wrap (IntKind.i64.wrap (start + r))) 1))) else (bif (decide (start < m)) then (bif (decide (m < (IntKind.i64.wrap ((IntKind.i64.wrap ((IntKind.i64.wrap (shrI .u64 (IntKind.u64.wrap (IntKind.i64.wrap (a + b))) 1)) + m)) - start)))) then (bif (decide (a < start)) then (bif (decide (start < (IntKind.i64.wrap (shrI .u64 (IntKind.u64.wrap (IntKind.i64.wrap (a + b))) 1)))) then (bif (decide ((IntKind.i64.wrap (shrI .u64 (IntKind.u64.wrap (IntKind.i64.wrap (a + b))) 1)) < (IntKind.i64.wrap ((IntKind.i64.wrap ((IntKind.i64.wrap (shrI .u64 (IntKind.u64.wrap (IntKind.i64.wrap (a + b))) 1)) + m)) - start)))) then (bif (decide ((IntKind.i64.wrap ((IntKind.i64.wrap ((IntKind.i64.wrap (shrI .u64 (IntKind.u64.wrap (IntKind.i64.wrap (a + b))) 1)) + m)) - start)) < b)) then (rec (rec (rotate data start m (IntKind.i64.wrap ((IntKind.i64.wrap ((IntKind.i64.wrap (shrI .u64 (IntKind.u64.wrap (IntKind.i64.wrap (a + b))) 1)) + m)) - start)) cmp) a start (IntKind.i64.wrap (shrI .u64 (IntKind.u64.wrap (IntKind.i64.wrap (a + b))) 1)) cmp) (IntKind.i64.wrap (shrI .u64 (IntKind.u64.wrap (IntKind.i64.wrap (a + b))) 1)) (IntKind.i64.wrap ((IntKind.i64.wrap ((IntKind.i64.wrap (shrI .u64 (IntKind.u64.wrap (IntKind.i64.wrap (a + b))) 1)) + m)) - start)) b cmp) else (rec (rotate data start m (IntKind.i64.wrap ((IntKind.i64.wrap ((IntKind.i64.wrap (shrI .u64 (IntKind.u64.wrap (IntKind.i64.wrap (a + b))) 1)) + m)) - start)) cmp) a start (IntKind.i64.wrap (shrI .u64 (IntKind.u64.wrap (IntKind.i64.wrap (a + b))) 1)) cmp)) else (rec (rotate data start m (IntKind.i64.wrap ((IntKind.i64.wrap ((IntKind.i64.wrap (shrI .u64 (IntKind.u64.wrap (IntKind.i64.wrap (a + b))) 1)) + m)) - start)) cmp) a start (IntKind.i64.wrap (shrI .u64 (IntKind.u64.wrap (IntKind.i64.wrap (a + b))) 1)) cmp)) else (bif (decide ((IntKind.i64.wrap (shrI .u64 (IntKind.u64.wrap (IntKind.i64.wrap (a + b))) 1)) < (IntKind.i64.wrap ((IntKind.i64.wrap ((IntKind.i64.wrap (shrI .u64 (IntKind.u64.wrap (IntKind.i64.wrap (a + b))) 1)) + m)) - start)))) then (bif (decide ((IntKind.i64.wrap ((IntKind.i64.wrap ((IntKind.i64.wrap (shrI .u64 (IntKind.u64.wrap (IntKind.i64.wrap (a + b))) 1)) + m)) - start)) < b)) then (rec (rotate data start m (IntKind.i64.wrap ((IntKind.i64.wrap ((IntKind.i64.wrap (shrI .u64 (IntKind.u64.wrap (IntKind.i64.wrap (a + b))) 1)) + m)) - start)) cmp) (IntKind.i64.wrap (shrI .u64 (IntKind.u64.wrap (IntKind.i64.wrap (a + b))) 1)) (IntKind.i64.wrap ((IntKind.i64.wrap ((IntKind.i64.wrap (shrI .u64 (IntKind.u64.wrap (IntKind.i64.wrap (a + b))) 1)) + m)) - start)) b cmp) else (rotate data start m (IntKind.i64.wrap ((IntKind.i64.wrap ((IntKind.i64.wrap (shrI .u64 (IntKind.u64.wrap (IntKind.i64.wrap (a + b))) 1)) + m)) - start)) cmp)) else (rotate data start m (IntKind.i64.wrap ((IntKind.i64.wrap ((IntKind.i64.wrap (shrI .u64 (IntKind.u64.wrap (IntKind.i64.wrap (a + b))) 1)) + m)) - start)) cmp))) else (bif (decide ((IntKind.i64.wrap (shrI .u64 (IntKind.u64.wrap (IntKind.i64.wrap (a + b))) 1)) < (IntKind.i64.wrap ((IntKind.i64.wrap ((IntKind.i64.wrap (shrI .u64 (IntKind.u64.wrap (IntKind.i64.wrap (a + b))) 1)) + m)) - start)))) then (bif (decide ((IntKind.i64.wrap ((IntKind.i64.wrap ((IntKind.i64.wrap (shrI .u64 (IntKind.u64.wrap (IntKind.i64.wrap (a + b))) 1)) + m)) - start)) < b)) then (rec (rotate data start m (IntKind.i64.wrap ((IntKind.i64.wrap ((IntKind.i64.wrap (shrI .u64 (IntKind.u64.wrap (IntKind.i64.wrap (a + b))) 1)) + m)) - start)) cmp) (IntKind.i64.wrap (shrI .u64 (IntKind.u64.wrap (IntKind.i64.wrap (a + b))) 1)) (IntKind.i64.wrap ((IntKind.i64.wrap ((IntKind.i64.wrap (shrI .u64 (IntKind.u64.wrap (IntKind.i64.wrap (a + b))) 1)) + m)) - start)) b cmp) else (rotate data start m (IntKind.i64.wrap ((IntKind.i64.wrap ((IntKind.i64.wrap (shrI .u64 (IntKind.u64.wrap (IntKind.i64.wrap (a + b))) 1)) + m)) - start)) cmp)) else (rotate data start m (IntKind.i64.wrap ((IntKind.i64.wrap ((IntKind.i64.wrap (shrI .u64 (IntKind.u64.wrap (IntKind.i64.wrap (a + b))) 1)) + m)) - start)) cmp))) else (bif (decide (a < start)) then (bif (decide (start < (IntKind.i64.wrap (shrI .u64 (IntKind.u64.wrap (IntKind.i64.wrap (a + b))) 1)))) then (bif (decide ((IntKind.i64.wrap (shrI .u64 (IntKind.u64.wrap (IntKind.i64.wrap (a + b))) 1)) < (IntKind.i64.wrap ((IntKind.i64.wrap ((IntKind.i64.wrap (shrI .u64 (IntKind.u64.wrap (IntKind.i64.wrap (a + b))) 1)) + m)) - start)))) then (bif (decide ((IntKind.i64.wrap ((IntKind.i64.wrap ((IntKind.i64.wrap (shrI .u64 (IntKind.u64.wrap (IntKind.i64.wrap (a + b))) 1)) + m)) - start)) < b)) then (rec (rec data a start (IntKind.i64.wrap (shrI .u64 (IntKind.u64.wrap (IntKind.i64.wrap (a + b))) 1)) cmp) (IntKind.i64.wrap (shrI .u64 (IntKind.u64.wrap (IntKind.i64.wrap (a + b))) 1)) (IntKind.i64.wrap ((IntKind.i64.wrap ((IntKind.i64.wrap (shrI .u64 (IntKind.u64.wrap (IntKind.i64.wrap (a + b))) 1)) + m)) - start)) b cmp) else (rec data a start (IntKind.i64.wrap (shrI .u64 (IntKind.u64.wrap (IntKind.i64.wrap (a + b))) 1)) cmp)) else (rec data a start (IntKind.i64.wrap (shrI .u64 (IntKind.u64.wrap (IntKind.i64.wrap (a + b))) 1)) cmp)) else (bif (decide ((IntKind.i64.wrap (shrI .u64 (IntKind.u64.wrap (IntKind.i64.wrap (a + b))) 1)) < (IntKind.i64.wrap ((IntKind.i64.wrap ((IntKind.i64.wrap (shrI .u64 (IntKind.u64.wrap (IntKind.i64.wrap (a + b))) 1)) + m)) - start)))) then (bif (decide ((IntKind.i64.wrap ((IntKind.i64.wrap ((IntKind.i64.wrap (shrI .u64 (IntKind.u64.wrap (IntKind.i64.wrap (a + b))) 1)) + m)) - start)) < b)) then (rec data (IntKind.i64.wrap (shrI .u64 (IntKind.u64.wrap (IntKind.i64.wrap (a + b))) 1)) (IntKind.i64.wrap ((IntKind.i64.wrap ((IntKind.i64.wrap (shrI .u64 (IntKind.u64.wrap (IntKind.i64.wrap (a + b))) 1)) + m)) - start)) b cmp) else data) else data)) else (bif (decide ((IntKind.i64.wrap (shrI .u64 (IntKind.u64.wrap (IntKind.i64.wrap (a + b))) 1)) < (IntKind.i64.wrap ((IntKind.i64.wrap ((IntKind.i64.wrap (shrI .u64 (IntKind.u64.wrap (IntKind.i64.wrap (a + b))) 1)) + m)) - start)))) then (bif (decide ((IntKind.i64.wrap ((IntKind.i64.wrap ((IntKind.i64.wrap (shrI .u64 (IntKind.u64.wrap (IntKind.i64.wrap (a + b))) 1)) + m)) - start)) < b)) then (rec data (IntKind.i64.wrap (shrI .u64 (IntKind.u64.wrap (IntKind.i64.wrap (a + b))) 1)) (IntKind.i64.wrap ((IntKind.i64.wrap ((IntKind.i64.wrap (shrI .u64 (IntKind.u64.wrap (IntKind.i64.wrap (a + b))) 1)) + m)) - start)) b cmp) else data) else data))) else (bif (decide (a < start)) then (bif (decide (start < (IntKind.i64.wrap (shrI .u64 (IntKind.u64.wrap (IntKind.i64.wrap (a + b))) 1)))) then (bif (decide ((IntKind.i64.wrap (shrI .u64 (IntKind.u64.wrap (IntKind.i64.wrap (a + b))) 1)) < (IntKind.i64.wrap ((IntKind.i64.wrap ((IntKind.i64.wrap (shrI .u64 (IntKind.u64.wrap (IntKind.i64.wrap (a + b))) 1)) + m)) - start)))) then (bif (decide ((IntKind.i64.wrap ((IntKind.i64.wrap ((IntKind.i64.wrap (shrI .u64 (IntKind.u64.wrap (IntKind.i64.wrap (a + b))) 1)) + m)) - start)) < b)) then (rec (rec data a start (IntKind.i64.wrap (shrI .u64 (IntKind.u64.wrap (IntKind.i64.wrap (a + b))) 1)) cmp) (IntKind.i64.wrap (shrI .u64 (IntKind.u64.wrap (IntKind.i64.wrap (a + b))) 1)) (IntKind.i64.wrap ((IntKind.i64.wrap ((IntKind.i64.wrap (shrI .u64 (IntKind.u64.wrap (IntKind.i64.wrap (a + b))) 1)) + m)) - start)) b cmp) else (rec data a start (IntKind.i64.wrap (shrI .u64 (IntKind.u64.wrap (IntKind.i64.wrap (a + b))) 1)) cmp)) else (rec data a start (IntKind.i64.wrap (shrI .u64 (IntKind.u64.wrap (IntKind.i64.wrap (a + b))) 1)) cmp)) else (bif (decide ((IntKind.i64.wrap (shrI .u64 (IntKind.u64.wrap (IntKind.i64.wrap (a + b))) 1)) < (IntKind.i64.wrap ((IntKind.i64.wrap ((IntKind.i64.wrap (shrI .u64 (IntKind.u64.wrap (IntKind.i64.wrap (a + b))) 1)) + m)) - start)))) then (bif (decide ((IntKind.i64.wrap ((IntKind.i64.wrap ((IntKind.i64.wrap (shrI .u64 (IntKind.u64.wrap (IntKind.i64.wrap (a + b))) 1)) + m)) - start)) < b)) then (rec data (IntKind.i64.wrap (shrI .u64 (IntKind.u64.wrap (IntKind.i64.wrap (a + b))) 1)) (IntKind.i64.wrap ((IntKind.i64.wrap ((IntKind.i64.wrap (shrI .u64 (IntKind.u64.wrap (IntKind.i64.wrap (a + b))) 1)) + m)) - start)) b cmp) else data) else data)) else (bif (decide ((IntKind.i64.wrap (shrI .u64 (IntKind.u64.wrap (IntKind.i64.wrap (a + b))) 1)) < (IntKind.i64.wrap ((IntKind.i64.wrap ((IntKind.i64.wrap (shrI .u64 (IntKind.u64.wrap (IntKind.i64.wrap (a + b))) 1)) + m)) - start)))) then (bif (decide ((IntKind.i64.wrap ((IntKind.i64.wrap ((IntKind.i64.wrap (shrI .u64 (IntKind.u64.wrap (IntKind.i64.wrap (a + b))) 1)) + m)) - start)) < b)) then (rec data (IntKind.i64.wrap (shrI .u64 (IntKind.u64.wrap (IntKind.i64.wrap (a + b))) 1)) (IntKind.i64.wrap ((IntKind.i64.wrap ((IntKind.i64.wrap (shrI .u64 (IntKind.u64.wrap (IntKind.i64.wrap (a + b))) 1)) + m)) - start)) b cmp) else data) else data))))
def symMergeB (rec : List Int → Int → Int → Int → (Int → Int → Int) → List Int) (data : List Int) (a : Int) (m : Int) (b : Int) (cmp : Int → Int → Int) : List Int :=
  (bif ((IntKind.i64.wrap (m - a)) == 1) then symMergeB_l0 data a cmp ((b - m).toNat + 1) m b else (bif ((IntKind.i64.wrap (b - m)) == 1) then symMergeB_l2 data m cmp ((m - a).toNat + 1) a m else (bif (decide (m > (IntKind.i64.wrap (shrI .u64 (IntKind.u64.wrap (IntKind.i64.wrap (a + b))) 1)))) then symMergeB_l4 rec data a m b cmp (((IntKind.i64.wrap (shrI .u64 (IntKind.u64.wrap (IntKind.i64.wrap (a + b))) 1)) - (IntKind.i64.wrap ((IntKind.i64.wrap ((IntKind.i64.wrap (shrI .u64 (IntKind.u64.wrap (IntKind.i64.wrap (a + b))) 1)) + m)) - b))).toNat + 1) (IntKind.i64.wrap ((IntKind.i64.wrap ((IntKind.i64.wrap (shrI .u64 (IntKind.u64.wrap (IntKind.i64.wrap (a + b))) 1)) + m)) - b)) (IntKind.i64.wrap (shrI .u64 (IntKind.u64.wrap (IntKind.i64.wrap (a + b))) 1)) else symMergeB_l4 rec data a m b cmp ((m - a).toNat + 1) a m)))
set_option maxHeartbeats 8000000 in
theorem symMergeB_calls (rec : List Int → Int → Int → Int → (Int → Int → Int) → List Int) (data : List Int) (a : Int) (m : Int) (b : Int) (cmp : Int → Int → Int) (hrec : ∀ (d_ : List Int) (a_ m_ b_ : Int) (cmp_ : Int → Int → Int) (g_ : Nat) (caps_ : List AV) (_ : ∀ (x0 : Int) (x1 : Int), P_ x0 → P_ x1 → PCalls Try.prog g_ ([.pv (.lit (.int .i64 x0)), .pv (.lit (.int .i64 x1))] ++ caps_) (.pv (.lit (.int .i64 (cmp_ x0 x1))))) (_ : AV.withinL (fun _ => false) caps_ = true), 0 ≤ a_ ∧ a_ < m_ ∧ m_ < b_ ∧ b_ ≤ (data.length : Int) → b_ - a_ < b - a → d_.Perm data → MCalls Try.prog 76 [.sl 0 0 d_.length 1 false, .pv (.lit (.int .i64 a_)), .pv (.lit (.int .i64 m_)), .pv (.lit (.int .i64 b_)), .fn g_ [] caps_] (.cells (encC (eI .i64) d_)) (.tup []) (.cells (encC (eI .i64) (rec d_ a_ m_ b_ cmp_)))) (g4 : Nat) (caps4 : List AV) (hp4 : ∀ (x0 : Int) (x1 : Int), P_ x0 → P_ x1 → PCalls Try.prog g4 ([.pv (.lit (.int .i64 x0)), .pv (.lit (.int .i64 x1))] ++ caps4) (.pv (.lit (.int .i64 (cmp x0 x1))))) (hw4 : AV.withinL (fun _ => false) caps4 = true) (hab : 0 ≤ a ∧ a < m ∧ m < b ∧ b ≤ (data.length : Int)) (hL : data.length ≤ 1000000) (hs : ∀ x ∈ data, P_ x) (hrp : ∀ (d_ : List Int) (a_ m_ b_ : Int) (cmp_ : Int → Int → Int), 0 ≤ a_ ∧ a_ < m_ ∧ m_ < b_ ∧ b_ ≤ (data.length : Int) → b_ - a_ < b - a → d_.Perm data → (rec d_ a_ m_ b_ cmp_).Perm data) : MCalls Try.prog 76 [.sl 0 0 data.length 1 false, .pv (.lit (.int .i64 a)), .pv (.lit (.int .i64 m)), .pv (.lit (.int .i64 b)), .fn g4 [] caps4] (.cells (encC (eI .i64) data)) (.tup []) (.cells (encC (eI .i64) (symMergeB rec data a m b cmp))) := by
 generalize hR : symMergeB rec data a m b cmp = R
 refine MCalls.of_body tabOk Try.func76 rfl rfl rfl (by simp [AV.withinL, AV.within, withinL0 hw4]) rfl (encC_within _ _) (encC_within _ _) mixed fun E hP C hI => ?_
 refine Awp.seq ?_
 refine Awp.consP C ?_
 refine rvP C (.pv (.lit (.int .i64 m))) ?_
 refine rvP C (.pv (.lit (.int .i64 a))) ?_
 refine rvP C (.pv (.lit (.int .i64 (IntKind.i64.wrap (m - a))))) ?_
 refine rvP C (.pv (.lit (.bool ((IntKind.i64.wrap (m - a)) == 1)))) ?_
 refine rvc_nil ?_
 refine Awp.cond (b := ((IntKind.i64.wrap (m - a)) == 1)) rfl (fun h1 => ?_) (fun h1 => ?_)
 ·
  replace hR := of_true h1 hR
  refine Awp.consP C ?_
  refine rvP C (.pv (.lit (.int .i64 m))) ?_
  refine rvP C (.pv (.lit (.int .i64 m))) ?_
  refine rvc_nil ?_
  refine Awp.consP C ?_
  refine rvP C (.pv (.lit (.int .i64 b))) ?_
  refine rvP C (.pv (.lit (.int .i64 b))) ?_
  refine rvc_nil ?_
  refine Awp.seq ?_
  refine Awp.block ?_
  refine Awp.forM (σ := Int × Int) (fun v => [(0, .sl 0 0 data.length 1 false), (1, .pv (.lit (.int .i64 a))), (4, .fn g4 [] caps4), (10, .pv (.lit (.int .i64 v.1))), (11, .pv (.lit (.int .i64 v.2)))]) (fun v => [(0, .cells (encC (eI .i64) data))]) [0] (fun n v => (v.2 - v.1).toNat ≤ n ∧ symMergeB_l0 data a cmp (n + 1) v.1 v.2 = R ∧ (m ≤ v.1 ∧ v.1 ≤ v.2 ∧ v.2 ≤ b)) ((b - m).toNat) (m, b) ?_ ?_ (fun n_ v h2 => ?_)
  · exact ⟨Nat.le_refl _, hR, ⟨Int.le_refl _, (by dsimp only; omega), Int.le_refl _⟩⟩
  · exact ⟨fun b => b, WeakerR.ofLI (I := [0]) (Ks := [0]) hI ⟨⟨rfl, rfl⟩, ⟨rfl, rfl⟩, ⟨fn_to rfl hw4, fn_win hw4⟩, ⟨rfl, rfl⟩, ⟨rfl, rfl⟩, trivial⟩ (okH_list rfl rfl rfl (okH_nil)) rfl rfl⟩
  obtain ⟨i, j⟩ := v
  obtain ⟨hm_, hR, hVa⟩ := h2
  replace hm_ : (j - i).toNat ≤ n_ := hm_
  replace hVa : m ≤ i ∧ i ≤ j ∧ j ≤ b := hVa
  refine Awp.seq ?_
  refine Awp.consP C ?_
  refine rvP C (.pv (.lit (.int .i64 i))) ?_
  refine rvP C (.pv (.lit (.int .i64 j))) ?_
  refine rvP C (.pv (.lit (.bool (decide (i < j))))) ?_
  refine rvc_nil ?_
  refine Awp.cond (b := (decide (i < j))) rfl (fun h4 => ?_) (fun h4 => ?_)
  ·
   replace hR := of_true h4 hR
   have h4_ := of_decide_eq_true h4
   refine Awp.skip ?_
   refine Awp.block ?_
   refine Awp.consP C ?_
   refine rvP C (.pv (.lit (.int .i64 i))) ?_
   refine rvP C (.pv (.lit (.int .i64 j))) ?_
   refine rvP C (.pv (.lit (.int .i64 (IntKind.i64.wrap (i + j))))) ?_
   refine rvP C (.pv (.lit (.int .u64 (IntKind.u64.wrap (IntKind.i64.wrap (i + j)))))) ?_
   refine rvc_un (rexec_prim C (δ := { v := .pv (.lit (.int .u64 (shrI .u64 (IntKind.u64.wrap (IntKind.i64.wrap (i + j))) 1))) }) rfl rfl rfl rfl (by first | decide | assumption | omega) rfl ?_)
   refine rvP C (.pv (.lit (.int .i64 (IntKind.i64.wrap (shrI .u64 (IntKind.u64.wrap (IntKind.i64.wrap (i + j))) 1))))) ?_
   refine rvP C (.pv (.lit (.int .i64 (IntKind.i64.wrap (shrI .u64 (IntKind.u64.wrap (IntKind.i64.wrap (i + j))) 1))))) ?_
   refine rvc_nil ?_
   refine Awp.consP C ?_
   refine rvP C (.fn g4 [] caps4) ?_
   refine rvP C (.sl 0 0 data.length 1 false) ?_
   refine rvP C (.pv (.lit (.int .i64 (IntKind.i64.wrap (shrI .u64 (IntKind.u64.wrap (IntKind.i64.wrap (i + j))) 1))))) ?_
   have h5 : data[(IntKind.i64.wrap (shrI .u64 (IntKind.u64.wrap (IntKind.i64.wrap (i + j))) 1)).toNat]? = some data[(IntKind.i64.wrap (shrI .u64 (IntKind.u64.wrap (IntKind.i64.wrap (i + j))) 1)).toNat]! := getE (by have hl_ := of_decide_eq_true ‹decide (i < j) = true›; have hh_ := half_eq (x := i + j) (by omega); have hw_ := wrapI ((IntKind.i64.wrap (shrI .u64 (IntKind.u64.wrap (IntKind.i64.wrap (i + j))) 1)) + 1) (by omega); omega)
   refine rvc_un (rexec_prim C (δ := { v := .ptr 0 (0 + (IntKind.i64.wrap (shrI .u64 (IntKind.u64.wrap (IntKind.i64.wrap (i + j))) 1)).toNat * 1) }) rfl rfl rfl rfl ⟨(by have hl_ := of_decide_eq_true ‹decide (i < j) = true›; have hh_ := half_eq (x := i + j) (by omega); have hw_ := wrapI ((IntKind.i64.wrap (shrI .u64 (IntKind.u64.wrap (IntKind.i64.wrap (i + j))) 1)) + 1) (by omega); omega), (by have hl_ := of_decide_eq_true ‹decide (i < j) = true›; have hh_ := half_eq (x := i + j) (by omega); have hw_ := wrapI ((IntKind.i64.wrap (shrI .u64 (IntKind.u64.wrap (IntKind.i64.wrap (i + j))) 1)) + 1) (by omega); omega)⟩ rfl ?_)
   refine rvc_un (rexec_loadE C (e := (eI .i64)) ((IntKind.i64.wrap (shrI .u64 (IntKind.u64.wrap (IntKind.i64.wrap (i + j))) 1)).toNat) 0 (data[(IntKind.i64.wrap (shrI .u64 (IntKind.u64.wrap (IntKind.i64.wrap (i + j))) 1)).toNat]!) (.pv (.lit (.int .i64 (data[(IntKind.i64.wrap (shrI .u64 (IntKind.u64.wrap (IntKind.i64.wrap (i + j))) 1)).toNat]!)))) rfl rfl rfl rfl h5 (by simp [eI]) (by decide) (by decide) rfl ?_)
   refine rvP C (.sl 0 0 data.length 1 false) ?_
   refine rvP C (.pv (.lit (.int .i64 a))) ?_
   have h6 : data[a.toNat]? = some data[a.toNat]! := getE (by omega)
   refine rvc_un (rexec_prim C (δ := { v := .ptr 0 (0 + a.toNat * 1) }) rfl rfl rfl rfl ⟨(by omega), (by omega)⟩ rfl ?_)
   refine rvc_un (rexec_loadE C (e := (eI .i64)) a.toNat 0 (data[a.toNat]!) (.pv (.lit (.int .i64 (data[a.toNat]!)))) rfl rfl rfl rfl h6 (by simp [eI]) (by decide) (by decide) rfl ?_)
   refine rvc_un (rexec_callV hP C rfl rfl rfl rfl (hp4 (data[(IntKind.i64.wrap (shrI .u64 (IntKind.u64.wrap (IntKind.i64.wrap (i + j))) 1)).toNat]!) (data[a.toNat]!) (hs _ (at_mem (by have hl_ := of_decide_eq_true ‹decide (i < j) = true›; have hh_ := half_eq (x := i + j) (by omega); have hw_ := wrapI ((IntKind.i64.wrap (shrI .u64 (IntKind.u64.wrap (IntKind.i64.wrap (i + j))) 1)) + 1) (by omega); omega))) (hs _ (at_mem (by omega)))) rfl ?_)
   refine rvP C (.pv (.lit (.bool (decide ((cmp (data[(IntKind.i64.wrap (shrI .u64 (IntKind.u64.wrap (IntKind.i64.wrap (i + j))) 1)).toNat]!) (data[a.toNat]!)) < 0))))) ?_
   refine rvc_nil ?_
   refine Awp.cond (b := (decide ((cmp (data[(IntKind.i64.wrap (shrI .u64 (IntKind.u64.wrap (IntKind.i64.wrap (i + j))) 1)).toNat]!) (data[a.toNat]!)) < 0))) rfl (fun h7 => ?_) (fun h7 => ?_)
   ·
    replace hR := of_true h7 hR
    have h7_ := of_decide_eq_true h7
    refine Awp.regionP C ?_
    refine rvP C (.pv (.lit (.int .i64 (IntKind.i64.wrap (shrI .u64 (IntKind.u64.wrap (IntKind.i64.wrap (i + j))) 1))))) ?_
    refine rvP C (.pv (.lit (.int .i64 (IntKind.i64.wrap ((IntKind.i64.wrap (shrI .u64 (IntKind.u64.wrap (IntKind.i64.wrap (i + j))) 1)) + 1))))) ?_
    refine rvP C (.pv (.lit (.int .i64 (IntKind.i64.wrap ((IntKind.i64.wrap (shrI .u64 (IntKind.u64.wrap (IntKind.i64.wrap (i + j))) 1)) + 1))))) ?_
    refine rvc_nil ?_
    have h8 : (j - (IntKind.i64.wrap ((IntKind.i64.wrap (shrI .u64 (IntKind.u64.wrap (IntKind.i64.wrap (i + j))) 1)) + 1))).toNat < (j - i).toNat := by (have hl_ := of_decide_eq_true ‹decide (i < j) = true›; have hh_ := half_eq (x := i + j) (by omega); have hw_ := wrapI ((IntKind.i64.wrap (shrI .u64 (IntKind.u64.wrap (IntKind.i64.wrap (i + j))) 1)) + 1) (by omega); omega)
    obtain ⟨nn, rfl⟩ : ∃ nn, n_ = nn + 1 := ⟨n_ - 1, by omega⟩
    refine ⟨nn, ((IntKind.i64.wrap ((IntKind.i64.wrap (shrI .u64 (IntKind.u64.wrap (IntKind.i64.wrap (i + j))) 1)) + 1)), j), by omega, ⟨by show (j - (IntKind.i64.wrap ((IntKind.i64.wrap (shrI .u64 (IntKind.u64.wrap (IntKind.i64.wrap (i + j))) 1)) + 1))).toNat ≤ nn; omega, hR, (by dsimp only; have hl_ := of_decide_eq_true ‹decide (i < j) = true›; have hh_ := half_eq (x := i + j) (by omega); have hw_ := wrapI ((IntKind.i64.wrap (shrI .u64 (IntKind.u64.wrap (IntKind.i64.wrap (i + j))) 1)) + 1) (by omega); omega)⟩, ?_⟩
    · exact ⟨fun b => b, WeakerR.ofLI (I := [0]) (Ks := [0]) hI ⟨⟨rfl, rfl⟩, ⟨rfl, rfl⟩, ⟨fn_to rfl hw4, fn_win hw4⟩, ⟨rfl, rfl⟩, ⟨rfl, rfl⟩, trivial⟩ (okH_list rfl rfl rfl (okH_nil)) rfl rfl⟩
   ·
    replace hR := of_false h7 hR
    have h7_ := of_decide_eq_false h7
    refine Awp.regionP C ?_
    refine rvP C (.pv (.lit (.int .i64 (IntKind.i64.wrap (shrI .u64 (IntKind.u64.wrap (IntKind.i64.wrap (i + j))) 1))))) ?_
    refine rvP C (.pv (.lit (.int .i64 (IntKind.i64.wrap (shrI .u64 (IntKind.u64.wrap (IntKind.i64.wrap (i + j))) 1))))) ?_
    refine rvc_nil ?_
    have h9 : ((IntKind.i64.wrap (shrI .u64 (IntKind.u64.wrap (IntKind.i64.wrap (i + j))) 1)) - i).toNat < (j - i).toNat := by (have hl_ := of_decide_eq_true ‹decide (i < j) = true›; have hh_ := half_eq (x := i + j) (by omega); have hw_ := wrapI ((IntKind.i64.wrap (shrI .u64 (IntKind.u64.wrap (IntKind.i64.wrap (i + j))) 1)) + 1) (by omega); omega)
    obtain ⟨nn, rfl⟩ : ∃ nn, n_ = nn + 1 := ⟨n_ - 1, by omega⟩
    refine ⟨nn, (i, (IntKind.i64.wrap (shrI .u64 (IntKind.u64.wrap (IntKind.i64.wrap (i + j))) 1))), by omega, ⟨by show ((IntKind.i64.wrap (shrI .u64 (IntKind.u64.wrap (IntKind.i64.wrap (i + j))) 1)) - i).toNat ≤ nn; omega, hR, (by dsimp only; have hl_ := of_decide_eq_true ‹decide (i < j) = true›; have hh_ := half_eq (x := i + j) (by omega); have hw_ := wrapI ((IntKind.i64.wrap (shrI .u64 (IntKind.u64.wrap (IntKind.i64.wrap (i + j))) 1)) + 1) (by omega); omega)⟩, ?_⟩
    · exact ⟨fun b => b, WeakerR.ofLI (I := [0]) (Ks := [0]) hI ⟨⟨rfl, rfl⟩, ⟨rfl, rfl⟩, ⟨fn_to rfl hw4, fn_win hw4⟩, ⟨rfl, rfl⟩, ⟨rfl, rfl⟩, trivial⟩ (okH_list rfl rfl rfl (okH_nil)) rfl rfl⟩
  ·
   replace hR := of_false h4 hR
   have h4_ := of_decide_eq_false h4
   refine Awp.exit ?_
   refine Awp.seq ?_
   refine Awp.consP C ?_
   refine rvP C (.pv (.lit (.int .i64 a))) ?_
   refine rvP C (.pv (.lit (.int .i64 a))) ?_
   refine rvc_nil ?_
   refine Awp.block ?_
   refine Awp.forM (σ := Int × ((List Int))) (fun v => [(0, .sl 0 0 data.length 1 false), (10, .pv (.lit (.int .i64 i))), (13, .pv (.lit (.int .i64 v.1)))]) (fun v => [(0, .cells (encC (eI .i64) v.2))]) [0] (fun n v => n = (IntKind.i64.wrap (i - 1) - v.1).toNat ∧ symMergeB_l1 i ((IntKind.i64.wrap (i - 1) - v.1).toNat + 1) v.1 v.2 = R ∧ (a ≤ v.1 ∧ v.2.Perm data)) ((IntKind.i64.wrap (i - 1) - a).toNat) (a, data) ?_ ?_ (fun _ v h10 => ?_)
   · exact ⟨rfl, hR, ⟨Int.le_refl _, List.Perm.refl _⟩⟩
   · exact ⟨fun b => b, WeakerR.ofLI (I := [0]) (Ks := [0]) hI ⟨⟨rfl, rfl⟩, ⟨rfl, rfl⟩, ⟨rfl, rfl⟩, trivial⟩ (okH_list rfl rfl rfl (okH_nil)) rfl rfl⟩
   obtain ⟨k, vc⟩ := v
   obtain ⟨rfl, hR, ⟨hVk, hVp⟩⟩ := h10
   replace hVk : a ≤ k := hVk
   replace hVp : vc.Perm data := hVp
   refine Awp.seq ?_
   refine Awp.consP C ?_
   refine rvP C (.pv (.lit (.int .i64 k))) ?_
   refine rvP C (.pv (.lit (.int .i64 i))) ?_
   refine rvP C (.pv (.lit (.int .i64 (IntKind.i64.wrap (i - 1))))) ?_
   refine rvP C (.pv (.lit (.bool (decide (k < (IntKind.i64.wrap (i - 1))))))) ?_
   refine rvc_nil ?_
   refine Awp.cond (b := (decide (k < (IntKind.i64.wrap (i - 1))))) rfl (fun h12 => ?_) (fun h12 => ?_)
   ·
    replace hR := of_true h12 hR
    have h12_ := of_decide_eq_true h12
    refine Awp.skip ?_
    refine Awp.seq ?_
    refine Awp.block ?_
    refine Awp.regionP C ?_
    refine rvP C (.sl 0 0 data.length 1 false) ?_
    refine rvP C (.pv (.lit (.int .i64 k))) ?_
    refine rvP C (.sl 0 0 data.length 1 false) ?_
    refine rvP C (.pv (.lit (.int .i64 k))) ?_
    refine rvP C (.pv (.lit (.int .i64 (IntKind.i64.wrap (k + 1))))) ?_
    refine rvP C (.sl 0 0 data.length 1 false) ?_
    refine rvP C (.pv (.lit (.int .i64 k))) ?_
    refine rvP C (.pv (.lit (.int .i64 (IntKind.i64.wrap (k + 1))))) ?_
    have h13 : vc[(IntKind.i64.wrap (k + 1)).toNat]? = some vc[(IntKind.i64.wrap (k + 1)).toNat]! := getE (by have hn_ := hVp.length_eq; have hi_ := wrapI (i - 1) (by omega); have hl_ := of_decide_eq_true ‹decide (k < IntKind.i64.wrap (i - 1)) = true›; have hk_ := wrapI (k + 1) (by omega); omega)
    refine rvc_un (rexec_prim C (δ := { v := .ptr 0 (0 + (IntKind.i64.wrap (k + 1)).toNat * 1) }) rfl rfl rfl rfl ⟨(by have hn_ := hVp.length_eq; have hi_ := wrapI (i - 1) (by omega); have hl_ := of_decide_eq_true ‹decide (k < IntKind.i64.wrap (i - 1)) = true›; have hk_ := wrapI (k + 1) (by omega); omega), (by have hn_ := hVp.length_eq; have hi_ := wrapI (i - 1) (by omega); have hl_ := of_decide_eq_true ‹decide (k < IntKind.i64.wrap (i - 1)) = true›; have hk_ := wrapI (k + 1) (by omega); omega)⟩ rfl ?_)
    refine rvc_un (rexec_loadE C (e := (eI .i64)) ((IntKind.i64.wrap (k + 1)).toNat) 0 (vc[(IntKind.i64.wrap (k + 1)).toNat]!) (.pv (.lit (.int .i64 (vc[(IntKind.i64.wrap (k + 1)).toNat]!)))) rfl rfl rfl rfl h13 (by simp [eI]) (by decide) (by decide) rfl ?_)
    refine rvP C (.sl 0 0 data.length 1 false) ?_
    refine rvP C (.pv (.lit (.int .i64 k))) ?_
    have h14 : vc[k.toNat]? = some vc[k.toNat]! := getE (by have hn_ := hVp.length_eq; have hi_ := wrapI (i - 1) (by omega); have hl_ := of_decide_eq_true ‹decide (k < IntKind.i64.wrap (i - 1)) = true›; have hk_ := wrapI (k + 1) (by omega); omega)
    refine rvc_un (rexec_prim C (δ := { v := .ptr 0 (0 + k.toNat * 1) }) rfl rfl rfl rfl ⟨(by have hn_ := hVp.length_eq; have hi_ := wrapI (i - 1) (by omega); have hl_ := of_decide_eq_true ‹decide (k < IntKind.i64.wrap (i - 1)) = true›; have hk_ := wrapI (k + 1) (by omega); omega), (by have hn_ := hVp.length_eq; have hi_ := wrapI (i - 1) (by omega); have hl_ := of_decide_eq_true ‹decide (k < IntKind.i64.wrap (i - 1)) = true›; have hk_ := wrapI (k + 1) (by omega); omega)⟩ rfl ?_)
    refine rvc_un (rexec_loadE C (e := (eI .i64)) k.toNat 0 (vc[k.toNat]!) (.pv (.lit (.int .i64 (vc[k.toNat]!)))) rfl rfl rfl rfl h14 (by simp [eI]) (by decide) (by decide) rfl ?_)
    refine rvc_un (rexec_prim C (δ := { v := .ptr 0 (0 + k.toNat * 1) }) rfl rfl rfl rfl ⟨(by have hn_ := hVp.length_eq; have hi_ := wrapI (i - 1) (by omega); have hl_ := of_decide_eq_true ‹decide (k < IntKind.i64.wrap (i - 1)) = true›; have hk_ := wrapI (k + 1) (by omega); omega), (by have hn_ := hVp.length_eq; have hi_ := wrapI (i - 1) (by omega); have hl_ := of_decide_eq_true ‹decide (k < IntKind.i64.wrap (i - 1)) = true›; have hk_ := wrapI (k + 1) (by omega); omega)⟩ rfl ?_)
    refine rvc_un (rexec_storeE C (e := (eI .i64)) k.toNat 0 (vc[k.toNat]!) (vc[(IntKind.i64.wrap (k + 1)).toNat]!) rfl rfl rfl rfl h14 (by simp [eI]) rfl rfl rfl (of_decide_eq_true rfl) rfl ?_)
    have h15 : (vc.set k.toNat (vc[(IntKind.i64.wrap (k + 1)).toNat]!))[(IntKind.i64.wrap (k + 1)).toNat]? = some (vc.set k.toNat (vc[(IntKind.i64.wrap (k + 1)).toNat]!))[(IntKind.i64.wrap (k + 1)).toNat]! := getE (by rw [List.length_set]; have hn_ := hVp.length_eq; have hi_ := wrapI (i - 1) (by omega); have hl_ := of_decide_eq_true ‹decide (k < IntKind.i64.wrap (i - 1)) = true›; have hk_ := wrapI (k + 1) (by omega); omega)
    refine rvc_un (rexec_prim C (δ := { v := .ptr 0 (0 + (IntKind.i64.wrap (k + 1)).toNat * 1) }) rfl rfl rfl rfl ⟨(by have hn_ := hVp.length_eq; have hi_ := wrapI (i - 1) (by omega); have hl_ := of_decide_eq_true ‹decide (k < IntKind.i64.wrap (i - 1)) = true›; have hk_ := wrapI (k + 1) (by omega); omega), (by have hn_ := hVp.length_eq; have hi_ := wrapI (i - 1) (by omega); have hl_ := of_decide_eq_true ‹decide (k < IntKind.i64.wrap (i - 1)) = true›; have hk_ := wrapI (k + 1) (by omega); omega)⟩ rfl ?_)
    refine rvc_un (rexec_storeE C (e := (eI .i64)) ((IntKind.i64.wrap (k + 1)).toNat) 0 ((vc.set k.toNat (vc[(IntKind.i64.wrap (k + 1)).toNat]!))[(IntKind.i64.wrap (k + 1)).toNat]!) (vc[k.toNat]!) rfl rfl rfl rfl h15 (by simp [eI]) rfl rfl rfl (of_decide_eq_true rfl) rfl ?_)
    refine rvc_nil ?_
    refine Awp.regionP C ?_
    refine rvP C (.pv (.lit (.int .i64 k))) ?_
    refine rvP C (.pv (.lit (.int .i64 (IntKind.i64.wrap (k + 1))))) ?_
    refine rvP C (.pv (.lit (.int .i64 (IntKind.i64.wrap (k + 1))))) ?_
    refine rvc_nil ?_
    refine ⟨_, ((IntKind.i64.wrap (k + 1)), ((vc.set k.toNat (vc[(IntKind.i64.wrap (k + 1)).toNat]!)).set ((IntKind.i64.wrap (k + 1)).toNat) (vc[k.toNat]!))), ?_, ⟨rfl, (by rw [show ((IntKind.i64.wrap (i - 1) - (IntKind.i64.wrap (k + 1))).toNat) + 1 = ((IntKind.i64.wrap (i - 1) - k).toNat) by (have hn_ := hVp.length_eq; have hi_ := wrapI (i - 1) (by omega); have hl_ := of_decide_eq_true ‹decide (k < IntKind.i64.wrap (i - 1)) = true›; have hk_ := wrapI (k + 1) (by omega); omega)]; exact hR), ⟨(by dsimp only; have hn_ := hVp.length_eq; have hi_ := wrapI (i - 1) (by omega); have hl_ := of_decide_eq_true ‹decide (k < IntKind.i64.wrap (i - 1)) = true›; have hk_ := wrapI (k + 1) (by omega); omega), (by have hq_ := swap_permI (i := k) (j := IntKind.i64.wrap (k + 1)) hVp (by have hn_ := hVp.length_eq; have hi_ := wrapI (i - 1) (by omega); have hl_ := of_decide_eq_true ‹decide (k < IntKind.i64.wrap (i - 1)) = true›; have hk_ := wrapI (k + 1) (by omega); omega) (by have hn_ := hVp.length_eq; have hi_ := wrapI (i - 1) (by omega); have hl_ := of_decide_eq_true ‹decide (k < IntKind.i64.wrap (i - 1)) = true›; have hk_ := wrapI (k + 1) (by omega); omega); exact hq_)⟩⟩, ?_⟩
    · show (IntKind.i64.wrap (i - 1) - (IntKind.i64.wrap (k + 1))).toNat < (IntKind.i64.wrap (i - 1) - k).toNat; (have hn_ := hVp.length_eq; have hi_ := wrapI (i - 1) (by omega); have hl_ := of_decide_eq_true ‹decide (k < IntKind.i64.wrap (i - 1)) = true›; have hk_ := wrapI (k + 1) (by omega); omega)
    · exact ⟨fun b => b, WeakerR.ofLI (I := [0]) (Ks := [0]) hI ⟨⟨rfl, rfl⟩, ⟨rfl, rfl⟩, ⟨rfl, rfl⟩, trivial⟩ (okH_list rfl rfl rfl (okH_nil)) rfl rfl⟩
   ·
    replace hR := of_false h12 hR
    have h12_ := of_decide_eq_false h12
    refine Awp.exit ?_
    refine Awp.ret ?_
    subst hR
    exact ⟨.inl rfl, rfl, rfl⟩
 ·
  replace hR := of_false h1 hR
  refine Awp.skip ?_
  refine Awp.seq ?_
  refine Awp.consP C ?_
  refine rvP C (.pv (.lit (.int .i64 b))) ?_
  refine rvP C (.pv (.lit (.int .i64 m))) ?_
  refine rvP C (.pv (.lit (.int .i64 (IntKind.i64.wrap (b - m))))) ?_
  refine rvP C (.pv (.lit (.bool ((IntKind.i64.wrap (b - m)) == 1)))) ?_
  refine rvc_nil ?_
  refine Awp.cond (b := ((IntKind.i64.wrap (b - m)) == 1)) rfl (fun h16 => ?_) (fun h16 => ?_)
  ·
   replace hR := of_true h16 hR
   refine Awp.consP C ?_
   refine rvP C (.pv (.lit (.int .i64 a))) ?_
   refine rvP C (.pv (.lit (.int .i64 a))) ?_
   refine rvc_nil ?_
   refine Awp.consP C ?_
   refine rvP C (.pv (.lit (.int .i64 m))) ?_
   refine rvP C (.pv (.lit (.int .i64 m))) ?_
   refine rvc_nil ?_
   refine Awp.seq ?_
   refine Awp.block ?_
   refine Awp.forM (σ := Int × Int) (fun v => [(0, .sl 0 0 data.length 1 false), (2, .pv (.lit (.int .i64 m))), (4, .fn g4 [] caps4), (14, .pv (.lit (.int .i64 v.1))), (15, .pv (.lit (.int .i64 v.2)))]) (fun v => [(0, .cells (encC (eI .i64) data))]) [0] (fun n v => (v.2 - v.1).toNat ≤ n ∧ symMergeB_l2 data m cmp (n + 1) v.1 v.2 = R ∧ (a ≤ v.1 ∧ v.1 ≤ v.2 ∧ v.2 ≤ m)) ((m - a).toNat) (a, m) ?_ ?_ (fun n_ v h17 => ?_)
   · exact ⟨Nat.le_refl _, hR, ⟨Int.le_refl _, (by dsimp only; omega), Int.le_refl _⟩⟩
   · exact ⟨fun b => b, WeakerR.ofLI (I := [0]) (Ks := [0]) hI ⟨⟨rfl, rfl⟩, ⟨rfl, rfl⟩, ⟨fn_to rfl hw4, fn_win hw4⟩, ⟨rfl, rfl⟩, ⟨rfl, rfl⟩, trivial⟩ (okH_list rfl rfl rfl (okH_nil)) rfl rfl⟩
   obtain ⟨i1, j1⟩ := v
   obtain ⟨hm_, hR, hVa⟩ := h17
   replace hm_ : (j1 - i1).toNat ≤ n_ := hm_
   replace hVa : a ≤ i1 ∧ i1 ≤ j1 ∧ j1 ≤ m := hVa
   refine Awp.seq ?_
   refine Awp.consP C ?_
   refine rvP C (.pv (.lit (.int .i64 i1))) ?_
   refine rvP C (.pv (.lit (.int .i64 j1))) ?_
   refine rvP C (.pv (.lit (.bool (decide (i1 < j1))))) ?_
   refine rvc_nil ?_
   refine Awp.cond (b := (decide (i1 < j1))) rfl (fun h19 => ?_) (fun h19 => ?_)
   ·
    replace hR := of_true h19 hR
    have h19_ := of_decide_eq_true h19
    refine Awp.skip ?_
    refine Awp.block ?_
    refine Awp.consP C ?_
    refine rvP C (.pv (.lit (.int .i64 i1))) ?_
    refine rvP C (.pv (.lit (.int .i64 j1))) ?_
    refine rvP C (.pv (.lit (.int .i64 (IntKind.i64.wrap (i1 + j1))))) ?_
    refine rvP C (.pv (.lit (.int .u64 (IntKind.u64.wrap (IntKind.i64.wrap (i1 + j1)))))) ?_
    refine rvc_un (rexec_prim C (δ := { v := .pv (.lit (.int .u64 (shrI .u64 (IntKind.u64.wrap (IntKind.i64.wrap (i1 + j1))) 1))) }) rfl rfl rfl rfl (by first | decide | assumption | omega) rfl ?_)
    refine rvP C (.pv (.lit (.int .i64 (IntKind.i64.wrap (shrI .u64 (IntKind.u64.wrap (IntKind.i64.wrap (i1 + j1))) 1))))) ?_
    refine rvP C (.pv (.lit (.int .i64 (IntKind.i64.wrap (shrI .u64 (IntKind.u64.wrap (IntKind.i64.wrap (i1 + j1))) 1))))) ?_
    refine rvc_nil ?_
    refine Awp.consP C ?_
    refine rvP C (.fn g4 [] caps4) ?_
    refine rvP C (.sl 0 0 data.length 1 false) ?_
    refine rvP C (.pv (.lit (.int .i64 m))) ?_
    have h20 : data[m.toNat]? = some data[m.toNat]! := getE (by omega)
    refine rvc_un (rexec_prim C (δ := { v := .ptr 0 (0 + m.toNat * 1) }) rfl rfl rfl rfl ⟨(by omega), (by omega)⟩ rfl ?_)
    refine rvc_un (rexec_loadE C (e := (eI .i64)) m.toNat 0 (data[m.toNat]!) (.pv (.lit (.int .i64 (data[m.toNat]!)))) rfl rfl rfl rfl h20 (by simp [eI]) (by decide) (by decide) rfl ?_)
    refine rvP C (.sl 0 0 data.length 1 false) ?_
    refine rvP C (.pv (.lit (.int .i64 (IntKind.i64.wrap (shrI .u64 (IntKind.u64.wrap (IntKind.i64.wrap (i1 + j1))) 1))))) ?_
    have h21 : data[(IntKind.i64.wrap (shrI .u64 (IntKind.u64.wrap (IntKind.i64.wrap (i1 + j1))) 1)).toNat]? = some data[(IntKind.i64.wrap (shrI .u64 (IntKind.u64.wrap (IntKind.i64.wrap (i1 + j1))) 1)).toNat]! := getE (by have hl_ := of_decide_eq_true ‹decide (i1 < j1) = true›; have hh_ := half_eq (x := i1 + j1) (by omega); have hw_ := wrapI ((IntKind.i64.wrap (shrI .u64 (IntKind.u64.wrap (IntKind.i64.wrap (i1 + j1))) 1)) + 1) (by omega); omega)
    refine rvc_un (rexec_prim C (δ := { v := .ptr 0 (0 + (IntKind.i64.wrap (shrI .u64 (IntKind.u64.wrap (IntKind.i64.wrap (i1 + j1))) 1)).toNat * 1) }) rfl rfl rfl rfl ⟨(by have hl_ := of_decide_eq_true ‹decide (i1 < j1) = true›; have hh_ := half_eq (x := i1 + j1) (by omega); have hw_ := wrapI ((IntKind.i64.wrap (shrI .u64 (IntKind.u64.wrap (IntKind.i64.wrap (i1 + j1))) 1)) + 1) (by omega); omega), (by have hl_ := of_decide_eq_true ‹decide (i1 < j1) = true›; have hh_ := half_eq (x := i1 + j1) (by omega); have hw_ := wrapI ((IntKind.i64.wrap (shrI .u64 (IntKind.u64.wrap (IntKind.i64.wrap (i1 + j1))) 1)) + 1) (by omega); omega)⟩ rfl ?_)
    refine rvc_un (rexec_loadE C (e := (eI .i64)) ((IntKind.i64.wrap (shrI .u64 (IntKind.u64.wrap (IntKind.i64.wrap (i1 + j1))) 1)).toNat) 0 (data[(IntKind.i64.wrap (shrI .u64 (IntKind.u64.wrap (IntKind.i64.wrap (i1 + j1))) 1)).toNat]!) (.pv (.lit (.int .i64 (data[(IntKind.i64.wrap (shrI .u64 (IntKind.u64.wrap (IntKind.i64.wrap (i1 + j1))) 1)).toNat]!)))) rfl rfl rfl rfl h21 (by simp [eI]) (by decide) (by decide) rfl ?_)
    refine rvc_un (rexec_callV hP C rfl rfl rfl rfl (hp4 (data[m.toNat]!) (data[(IntKind.i64.wrap (shrI .u64 (IntKind.u64.wrap (IntKind.i64.wrap (i1 + j1))) 1)).toNat]!) (hs _ (at_mem (by omega))) (hs _ (at_mem (by have hl_ := of_decide_eq_true ‹decide (i1 < j1) = true›; have hh_ := half_eq (x := i1 + j1) (by omega); have hw_ := wrapI ((IntKind.i64.wrap (shrI .u64 (IntKind.u64.wrap (IntKind.i64.wrap (i1 + j1))) 1)) + 1) (by omega); omega)))) rfl ?_)
    refine rvP C (.pv (.lit (.bool (decide ((cmp (data[m.toNat]!) (data[(IntKind.i64.wrap (shrI .u64 (IntKind.u64.wrap (IntKind.i64.wrap (i1 + j1))) 1)).toNat]!)) < 0))))) ?_
    refine rvP C (.pv (.lit (.bool (!(decide ((cmp (data[m.toNat]!) (data[(IntKind.i64.wrap (shrI .u64 (IntKind.u64.wrap (IntKind.i64.wrap (i1 + j1))) 1)).toNat]!)) < 0)))))) ?_
    refine rvc_nil ?_
    refine Awp.cond (b := (!(decide ((cmp (data[m.toNat]!) (data[(IntKind.i64.wrap (shrI .u64 (IntKind.u64.wrap (IntKind.i64.wrap (i1 + j1))) 1)).toNat]!)) < 0)))) rfl (fun h22 => ?_) (fun h22 => ?_)
    ·
     replace hR := of_true h22 hR
     refine Awp.regionP C ?_
     refine rvP C (.pv (.lit (.int .i64 (IntKind.i64.wrap (shrI .u64 (IntKind.u64.wrap (IntKind.i64.wrap (i1 + j1))) 1))))) ?_
     refine rvP C (.pv (.lit (.int .i64 (IntKind.i64.wrap ((IntKind.i64.wrap (shrI .u64 (IntKind.u64.wrap (IntKind.i64.wrap (i1 + j1))) 1)) + 1))))) ?_
     refine rvP C (.pv (.lit (.int .i64 (IntKind.i64.wrap ((IntKind.i64.wrap (shrI .u64 (IntKind.u64.wrap (IntKind.i64.wrap (i1 + j1))) 1)) + 1))))) ?_
     refine rvc_nil ?_
     have h23 : (j1 - (IntKind.i64.wrap ((IntKind.i64.wrap (shrI .u64 (IntKind.u64.wrap (IntKind.i64.wrap (i1 + j1))) 1)) + 1))).toNat < (j1 - i1).toNat := by (have hl_ := of_decide_eq_true ‹decide (i1 < j1) = true›; have hh_ := half_eq (x := i1 + j1) (by omega); have hw_ := wrapI ((IntKind.i64.wrap (shrI .u64 (IntKind.u64.wrap (IntKind.i64.wrap (i1 + j1))) 1)) + 1) (by omega); omega)
     obtain ⟨nn, rfl⟩ : ∃ nn, n_ = nn + 1 := ⟨n_ - 1, by omega⟩
     refine ⟨nn, ((IntKind.i64.wrap ((IntKind.i64.wrap (shrI .u64 (IntKind.u64.wrap (IntKind.i64.wrap (i1 + j1))) 1)) + 1)), j1), by omega, ⟨by show (j1 - (IntKind.i64.wrap ((IntKind.i64.wrap (shrI .u64 (IntKind.u64.wrap (IntKind.i64.wrap (i1 + j1))) 1)) + 1))).toNat ≤ nn; omega, hR, (by dsimp only; have hl_ := of_decide_eq_true ‹decide (i1 < j1) = true›; have hh_ := half_eq (x := i1 + j1) (by omega); have hw_ := wrapI ((IntKind.i64.wrap (shrI .u64 (IntKind.u64.wrap (IntKind.i64.wrap (i1 + j1))) 1)) + 1) (by omega); omega)⟩, ?_⟩
     · exact ⟨fun b => b, WeakerR.ofLI (I := [0]) (Ks := [0]) hI ⟨⟨rfl, rfl⟩, ⟨rfl, rfl⟩, ⟨fn_to rfl hw4, fn_win hw4⟩, ⟨rfl, rfl⟩, ⟨rfl, rfl⟩, trivial⟩ (okH_list rfl rfl rfl (okH_nil)) rfl rfl⟩
    ·
     replace hR := of_false h22 hR
     refine Awp.regionP C ?_
     refine rvP C (.pv (.lit (.int .i64 (IntKind.i64.wrap (shrI .u64 (IntKind.u64.wrap (IntKind.i64.wrap (i1 + j1))) 1))))) ?_
     refine rvP C (.pv (.lit (.int .i64 (IntKind.i64.wrap (shrI .u64 (IntKind.u64.wrap (IntKind.i64.wrap (i1 + j1))) 1))))) ?_
     refine rvc_nil ?_
     have h24 : ((IntKind.i64.wrap (shrI .u64 (IntKind.u64.wrap (IntKind.i64.wrap (i1 + j1))) 1)) - i1).toNat < (j1 - i1).toNat := by (have hl_ := of_decide_eq_true ‹decide (i1 < j1) = true›; have hh_ := half_eq (x := i1 + j1) (by omega); have hw_ := wrapI ((IntKind.i64.wrap (shrI .u64 (IntKind.u64.wrap (IntKind.i64.wrap (i1 + j1))) 1)) + 1) (by omega); omega)
     obtain ⟨nn, rfl⟩ : ∃ nn, n_ = nn + 1 := ⟨n_ - 1, by omega⟩
     refine ⟨nn, (i1, (IntKind.i64.wrap (shrI .u64 (IntKind.u64.wrap (IntKind.i64.wrap (i1 + j1))) 1))), by omega, ⟨by show ((IntKind.i64.wrap (shrI .u64 (IntKind.u64.wrap (IntKind.i64.wrap (i1 + j1))) 1)) - i1).toNat ≤ nn; omega, hR, (by dsimp only; have hl_ := of_decide_eq_true ‹decide (i1 < j1) = true›; have hh_ := half_eq (x := i1 + j1) (by omega); have hw_ := wrapI ((IntKind.i64.wrap (shrI .u64 (IntKind.u64.wrap (IntKind.i64.wrap (i1 + j1))) 1)) + 1) (by omega); omega)⟩, ?_⟩
     · exact ⟨fun b => b, WeakerR.ofLI (I := [0]) (Ks := [0]) hI ⟨⟨rfl, rfl⟩, ⟨rfl, rfl⟩, ⟨fn_to rfl hw4, fn_win hw4⟩, ⟨rfl, rfl⟩, ⟨rfl, rfl⟩, trivial⟩ (okH_list rfl rfl rfl (okH_nil)) rfl rfl⟩
   ·
    replace hR := of_false h19 hR
    have h19_ := of_decide_eq_false h19
    refine Awp.exit ?_
    refine Awp.seq ?_
    refine Awp.consP C ?_
    refine rvP C (.pv (.lit (.int .i64 m))) ?_
    refine rvP C (.pv (.lit (.int .i64 m))) ?_
    refine rvc_nil ?_
    refine Awp.block ?_
    refine Awp.forM (σ := Int × ((List Int))) (fun v => [(0, .sl 0 0 data.length 1 false), (14, .pv (.lit (.int .i64 i1))), (17, .pv (.lit (.int .i64 v.1)))]) (fun v => [(0, .cells (encC (eI .i64) v.2))]) [0] (fun n v => n = (v.1 - i1).toNat ∧ symMergeB_l3 i1 ((v.1 - i1).toNat + 1) v.1 v.2 = R ∧ ((i1 ≤ v.1 ∧ v.1 ≤ m) ∧ v.2.Perm data)) ((m - i1).toNat) (m, data) ?_ ?_ (fun _ v h25 => ?_)
    · exact ⟨rfl, hR, ⟨(by dsimp only; omega), List.Perm.refl _⟩⟩
    · exact ⟨fun b => b, WeakerR.ofLI (I := [0]) (Ks := [0]) hI ⟨⟨rfl, rfl⟩, ⟨rfl, rfl⟩, ⟨rfl, rfl⟩, trivial⟩ (okH_list rfl rfl rfl (okH_nil)) rfl rfl⟩
    obtain ⟨k1, vc1⟩ := v
    obtain ⟨rfl, hR, ⟨hVk, hVp⟩⟩ := h25
    replace hVk : i1 ≤ k1 ∧ k1 ≤ m := hVk
    replace hVp : vc1.Perm data := hVp
    refine Awp.seq ?_
    refine Awp.consP C ?_
    refine rvP C (.pv (.lit (.int .i64 k1))) ?_
    refine rvP C (.pv (.lit (.int .i64 i1))) ?_
    refine rvP C (.pv (.lit (.bool (decide (k1 > i1))))) ?_
    refine rvc_nil ?_
    refine Awp.cond (b := (decide (k1 > i1))) rfl (fun h27 => ?_) (fun h27 => ?_)
    ·
     replace hR := of_true h27 hR
     have h27_ := of_decide_eq_true h27
     refine Awp.skip ?_
     refine Awp.seq ?_
     refine Awp.block ?_
     refine Awp.regionP C ?_
     refine rvP C (.sl 0 0 data.length 1 false) ?_
     refine rvP C (.pv (.lit (.int .i64 k1))) ?_
     refine rvP C (.sl 0 0 data.length 1 false) ?_
     refine rvP C (.pv (.lit (.int .i64 k1))) ?_
     refine rvP C (.pv (.lit (.int .i64 (IntKind.i64.wrap (k1 - 1))))) ?_
     refine rvP C (.sl 0 0 data.length 1 false) ?_
     refine rvP C (.pv (.lit (.int .i64 k1))) ?_
     refine rvP C (.pv (.lit (.int .i64 (IntKind.i64.wrap (k1 - 1))))) ?_
     have h28 : vc1[(IntKind.i64.wrap (k1 - 1)).toNat]? = some vc1[(IntKind.i64.wrap (k1 - 1)).toNat]! := getE (by have hn_ := hVp.length_eq; have hk_ := wrapI (k1 - 1) (by omega); have hl_ := of_decide_eq_true ‹decide (k1 > i1) = true›; omega)
     refine rvc_un (rexec_prim C (δ := { v := .ptr 0 (0 + (IntKind.i64.wrap (k1 - 1)).toNat * 1) }) rfl rfl rfl rfl ⟨(by have hn_ := hVp.length_eq; have hk_ := wrapI (k1 - 1) (by omega); have hl_ := of_decide_eq_true ‹decide (k1 > i1) = true›; omega), (by have hn_ := hVp.length_eq; have hk_ := wrapI (k1 - 1) (by omega); have hl_ := of_decide_eq_true ‹decide (k1 > i1) = true›; omega)⟩ rfl ?_)
     refine rvc_un (rexec_loadE C (e := (eI .i64)) ((IntKind.i64.wrap (k1 - 1)).toNat) 0 (vc1[(IntKind.i64.wrap (k1 - 1)).toNat]!) (.pv (.lit (.int .i64 (vc1[(IntKind.i64.wrap (k1 - 1)).toNat]!)))) rfl rfl rfl rfl h28 (by simp [eI]) (by decide) (by decide) rfl ?_)
     refine rvP C (.sl 0 0 data.length 1 false) ?_
     refine rvP C (.pv (.lit (.int .i64 k1))) ?_
     have h29 : vc1[k1.toNat]? = some vc1[k1.toNat]! := getE (by have hn_ := hVp.length_eq; have hk_ := wrapI (k1 - 1) (by omega); have hl_ := of_decide_eq_true ‹decide (k1 > i1) = true›; omega)
     refine rvc_un (rexec_prim C (δ := { v := .ptr 0 (0 + k1.toNat * 1) }) rfl rfl rfl rfl ⟨(by have hn_ := hVp.length_eq; have hk_ := wrapI (k1 - 1) (by omega); have hl_ := of_decide_eq_true ‹decide (k1 > i1) = true›; omega), (by have hn_ := hVp.length_eq; have hk_ := wrapI (k1 - 1) (by omega); have hl_ := of_decide_eq_true ‹decide (k1 > i1) = true›; omega)⟩ rfl ?_)
     refine rvc_un (rexec_loadE C (e := (eI .i64)) k1.toNat 0 (vc1[k1.toNat]!) (.pv (.lit (.int .i64 (vc1[k1.toNat]!)))) rfl rfl rfl rfl h29 (by simp [eI]) (by decide) (by decide) rfl ?_)
     refine rvc_un (rexec_prim C (δ := { v := .ptr 0 (0 + k1.toNat * 1) }) rfl rfl rfl rfl ⟨(by have hn_ := hVp.length_eq; have hk_ := wrapI (k1 - 1) (by omega); have hl_ := of_decide_eq_true ‹decide (k1 > i1) = true›; omega), (by have hn_ := hVp.length_eq; have hk_ := wrapI (k1 - 1) (by omega); have hl_ := of_decide_eq_true ‹decide (k1 > i1) = true›; omega)⟩ rfl ?_)
     refine rvc_un (rexec_storeE C (e := (eI .i64)) k1.toNat 0 (vc1[k1.toNat]!) (vc1[(IntKind.i64.wrap (k1 - 1)).toNat]!) rfl rfl rfl rfl h29 (by simp [eI]) rfl rfl rfl (of_decide_eq_true rfl) rfl ?_)
     have h30 : (vc1.set k1.toNat (vc1[(IntKind.i64.wrap (k1 - 1)).toNat]!))[(IntKind.i64.wrap (k1 - 1)).toNat]? = some (vc1.set k1.toNat (vc1[(IntKind.i64.wrap (k1 - 1)).toNat]!))[(IntKind.i64.wrap (k1 - 1)).toNat]! := getE (by rw [List.length_set]; have hn_ := hVp.length_eq; have hk_ := wrapI (k1 - 1) (by omega); have hl_ := of_decide_eq_true ‹decide (k1 > i1) = true›; omega)
     refine rvc_un (rexec_prim C (δ := { v := .ptr 0 (0 + (IntKind.i64.wrap (k1 - 1)).toNat * 1) }) rfl rfl rfl rfl ⟨(by have hn_ := hVp.length_eq; have hk_ := wrapI (k1 - 1) (by omega); have hl_ := of_decide_eq_true ‹decide (k1 > i1) = true›; omega), (by have hn_ := hVp.length_eq; have hk_ := wrapI (k1 - 1) (by omega); have hl_ := of_decide_eq_true ‹decide (k1 > i1) = true›; omega)⟩ rfl ?_)
     refine rvc_un (rexec_storeE C (e := (eI .i64)) ((IntKind.i64.wrap (k1 - 1)).toNat) 0 ((vc1.set k1.toNat (vc1[(IntKind.i64.wrap (k1 - 1)).toNat]!))[(IntKind.i64.wrap (k1 - 1)).toNat]!) (vc1[k1.toNat]!) rfl rfl rfl rfl h30 (by simp [eI]) rfl rfl rfl (of_decide_eq_true rfl) rfl ?_)
     refine rvc_nil ?_
     refine Awp.regionP C ?_
     refine rvP C (.pv (.lit (.int .i64 k1))) ?_
     refine rvP C (.pv (.lit (.int .i64 (IntKind.i64.wrap (k1 - 1))))) ?_
     refine rvP C (.pv (.lit (.int .i64 (IntKind.i64.wrap (k1 - 1))))) ?_
     refine rvc_nil ?_
     refine ⟨_, ((IntKind.i64.wrap (k1 - 1)), ((vc1.set k1.toNat (vc1[(IntKind.i64.wrap (k1 - 1)).toNat]!)).set ((IntKind.i64.wrap (k1 - 1)).toNat) (vc1[k1.toNat]!))), ?_, ⟨rfl, (by rw [show (((IntKind.i64.wrap (k1 - 1)) - i1).toNat) + 1 = ((k1 - i1).toNat) by (have hn_ := hVp.length_eq; have hk_ := wrapI (k1 - 1) (by omega); have hl_ := of_decide_eq_true ‹decide (k1 > i1) = true›; omega)]; exact hR), ⟨(by dsimp only; have hn_ := hVp.length_eq; have hk_ := wrapI (k1 - 1) (by omega); have hl_ := of_decide_eq_true ‹decide (k1 > i1) = true›; omega), (by have hq_ := swap_permI (i := k1) (j := IntKind.i64.wrap (k1 - 1)) hVp (by have hn_ := hVp.length_eq; have hk_ := wrapI (k1 - 1) (by omega); have hl_ := of_decide_eq_true ‹decide (k1 > i1) = true›; omega) (by have hn_ := hVp.length_eq; have hk_ := wrapI (k1 - 1) (by omega); have hl_ := of_decide_eq_true ‹decide (k1 > i1) = true›; omega); exact hq_)⟩⟩, ?_⟩
     · show ((IntKind.i64.wrap (k1 - 1)) - i1).toNat < (k1 - i1).toNat; (have hn_ := hVp.length_eq; have hk_ := wrapI (k1 - 1) (by omega); have hl_ := of_decide_eq_true ‹decide (k1 > i1) = true›; omega)
     · exact ⟨fun b => b, WeakerR.ofLI (I := [0]) (Ks := [0]) hI ⟨⟨rfl, rfl⟩, ⟨rfl, rfl⟩, ⟨rfl, rfl⟩, trivial⟩ (okH_list rfl rfl rfl (okH_nil)) rfl rfl⟩
    ·
     replace hR := of_false h27 hR
     have h27_ := of_decide_eq_false h27
     refine Awp.exit ?_
     refine Awp.ret ?_
     subst hR
     exact ⟨.inl rfl, rfl, rfl⟩
  ·
   replace hR := of_false h16 hR
   refine Awp.skip ?_
   refine Awp.consP C ?_
   refine rvP C (.pv (.lit (.int .i64 a))) ?_
   refine rvP C (.pv (.lit (.int .i64 b))) ?_
   refine rvP C (.pv (.lit (.int .i64 (IntKind.i64.wrap (a + b))))) ?_
   refine rvP C (.pv (.lit (.int .u64 (IntKind.u64.wrap (IntKind.i64.wrap (a + b)))))) ?_
   refine rvc_un (rexec_prim C (δ := { v := .pv (.lit (.int .u64 (shrI .u64 (IntKind.u64.wrap (IntKind.i64.wrap (a + b))) 1))) }) rfl rfl rfl rfl (by first | decide | assumption | omega) rfl ?_)
   refine rvP C (.pv (.lit (.int .i64 (IntKind.i64.wrap (shrI .u64 (IntKind.u64.wrap (IntKind.i64.wrap (a + b))) 1))))) ?_
   refine rvP C (.pv (.lit (.int .i64 (IntKind.i64.wrap (shrI .u64 (IntKind.u64.wrap (IntKind.i64.wrap (a + b))) 1))))) ?_
   refine rvc_nil ?_
   refine Awp.consP C ?_
   refine rvP C (.pv (.lit (.int .i64 (IntKind.i64.wrap (shrI .u64 (IntKind.u64.wrap (IntKind.i64.wrap (a + b))) 1))))) ?_
   refine rvP C (.pv (.lit (.int .i64 m))) ?_
   refine rvP C (.pv (.lit (.int .i64 (IntKind.i64.wrap ((IntKind.i64.wrap (shrI .u64 (IntKind.u64.wrap (IntKind.i64.wrap (a + b))) 1)) + m))))) ?_
   refine rvP C (.pv (.lit (.int .i64 (IntKind.i64.wrap ((IntKind.i64.wrap (shrI .u64 (IntKind.u64.wrap (IntKind.i64.wrap (a + b))) 1)) + m))))) ?_
   refine rvc_nil ?_
   refine Awp.consP C ?_
   refine rvP C (.pv (.lit (.int .i64 0))) ?_
   refine rvP C (.pv (.lit (.int .i64 0))) ?_
   refine rvc_nil ?_
   refine Awp.seq ?_
   refine Awp.consP C ?_
   refine rvP C (.pv (.lit (.int .i64 m))) ?_
   refine rvP C (.pv (.lit (.int .i64 (IntKind.i64.wrap (shrI .u64 (IntKind.u64.wrap (IntKind.i64.wrap (a + b))) 1))))) ?_
   refine rvP C (.pv (.lit (.bool (decide (m > (IntKind.i64.wrap (shrI .u64 (IntKind.u64.wrap (IntKind.i64.wrap (a + b))) 1))))))) ?_
   refine rvc_nil ?_
   refine Awp.cond (b := (decide (m > (IntKind.i64.wrap (shrI .u64 (IntKind.u64.wrap (IntKind.i64.wrap (a + b))) 1))))) rfl (fun h31 => ?_) (fun h31 => ?_)
   ·
    replace hR := of_true h31 hR
    have h31_ := of_decide_eq_true h31
    refine Awp.consP C ?_
    refine rvP C (.pv (.lit (.int .i64 (IntKind.i64.wrap ((IntKind.i64.wrap (shrI .u64 (IntKind.u64.wrap (IntKind.i64.wrap (a + b))) 1)) + m))))) ?_
    refine rvP C (.pv (.lit (.int .i64 b))) ?_
    refine rvP C (.pv (.lit (.int .i64 (IntKind.i64.wrap ((IntKind.i64.wrap ((IntKind.i64.wrap (shrI .u64 (IntKind.u64.wrap (IntKind.i64.wrap (a + b))) 1)) + m)) - b))))) ?_
    refine rvP C (.pv (.lit (.int .i64 (IntKind.i64.wrap ((IntKind.i64.wrap ((IntKind.i64.wrap (shrI .u64 (IntKind.u64.wrap (IntKind.i64.wrap (a + b))) 1)) + m)) - b))))) ?_
    refine rvc_nil ?_
    refine Awp.regionP C ?_
    refine rvP C (.pv (.lit (.int .i64 (IntKind.i64.wrap (shrI .u64 (IntKind.u64.wrap (IntKind.i64.wrap (a + b))) 1))))) ?_
    refine rvP C (.pv (.lit (.int .i64 (IntKind.i64.wrap (shrI .u64 (IntKind.u64.wrap (IntKind.i64.wrap (a + b))) 1))))) ?_
    refine rvc_nil ?_
    refine Awp.consP C ?_
    refine rvP C (.pv (.lit (.int .i64 (IntKind.i64.wrap ((IntKind.i64.wrap (shrI .u64 (IntKind.u64.wrap (IntKind.i64.wrap (a + b))) 1)) + m))))) ?_
    refine rvP C (.pv (.lit (.int .i64 (IntKind.i64.wrap ((IntKind.i64.wrap ((IntKind.i64.wrap (shrI .u64 (IntKind.u64.wrap (IntKind.i64.wrap (a + b))) 1)) + m)) - 1))))) ?_
    refine rvP C (.pv (.lit (.int .i64 (IntKind.i64.wrap ((IntKind.i64.wrap ((IntKind.i64.wrap (shrI .u64 (IntKind.u64.wrap (IntKind.i64.wrap (a + b))) 1)) + m)) - 1))))) ?_
    refine rvc_nil ?_
    refine Awp.seq ?_
    refine Awp.block ?_
    refine Awp.forM (σ := Int × Int) (fun v => [(0, .sl 0 0 data.length 1 false), (1, .pv (.lit (.int .i64 a))), (2, .pv (.lit (.int .i64 m))), (3, .pv (.lit (.int .i64 b))), (4, .fn g4 [] caps4), (18, .pv (.lit (.int .i64 (IntKind.i64.wrap (shrI .u64 (IntKind.u64.wrap (IntKind.i64.wrap (a + b))) 1))))), (19, .pv (.lit (.int .i64 (IntKind.i64.wrap ((IntKind.i64.wrap (shrI .u64 (IntKind.u64.wrap (IntKind.i64.wrap (a + b))) 1)) + m))))), (20, .pv (.lit (.int .i64 v.1))), (21, .pv (.lit (.int .i64 v.2))), (22, .pv (.lit (.int .i64 (IntKind.i64.wrap ((IntKind.i64.wrap ((IntKind.i64.wrap (shrI .u64 (IntKind.u64.wrap (IntKind.i64.wrap (a + b))) 1)) + m)) - 1)))))]) (fun v => [(0, .cells (encC (eI .i64) data))]) [0] (fun n v => (v.2 - v.1).toNat ≤ n ∧ symMergeB_l4 rec data a m b cmp (n + 1) v.1 v.2 = R ∧ (a ≤ v.1 ∧ (IntKind.i64.wrap ((IntKind.i64.wrap (shrI .u64 (IntKind.u64.wrap (IntKind.i64.wrap (a + b))) 1)) + m)) - b ≤ v.1 ∧ v.1 ≤ v.2 ∧ v.2 ≤ m ∧ v.2 ≤ (IntKind.i64.wrap (shrI .u64 (IntKind.u64.wrap (IntKind.i64.wrap (a + b))) 1)))) (((IntKind.i64.wrap (shrI .u64 (IntKind.u64.wrap (IntKind.i64.wrap (a + b))) 1)) - (IntKind.i64.wrap ((IntKind.i64.wrap ((IntKind.i64.wrap (shrI .u64 (IntKind.u64.wrap (IntKind.i64.wrap (a + b))) 1)) + m)) - b))).toNat) ((IntKind.i64.wrap ((IntKind.i64.wrap ((IntKind.i64.wrap (shrI .u64 (IntKind.u64.wrap (IntKind.i64.wrap (a + b))) 1)) + m)) - b)), (IntKind.i64.wrap (shrI .u64 (IntKind.u64.wrap (IntKind.i64.wrap (a + b))) 1))) ?_ ?_ (fun n_ v h32 => ?_)
    · exact ⟨Nat.le_refl _, hR, (by dsimp only; have hh_ := half_eq (x := a + b) (by omega); have hw_ := wrapI ((IntKind.i64.wrap (shrI .u64 (IntKind.u64.wrap (IntKind.i64.wrap (a + b))) 1)) + m) (by omega); have hw1_ := wrapI ((IntKind.i64.wrap ((IntKind.i64.wrap (shrI .u64 (IntKind.u64.wrap (IntKind.i64.wrap (a + b))) 1)) + m)) - b) (by omega); have hw2_ := wrapI ((IntKind.i64.wrap ((IntKind.i64.wrap (shrI .u64 (IntKind.u64.wrap (IntKind.i64.wrap (a + b))) 1)) + m)) - 1) (by omega); first | (have h_ := of_decide_eq_true ‹decide (m > (IntKind.i64.wrap (shrI .u64 (IntKind.u64.wrap (IntKind.i64.wrap (a + b))) 1))) = true›; omega) | (have h_ := of_decide_eq_false ‹decide (m > (IntKind.i64.wrap (shrI .u64 (IntKind.u64.wrap (IntKind.i64.wrap (a + b))) 1))) = false›; omega))⟩
    · exact ⟨fun b => b, WeakerR.ofLI (I := [0]) (Ks := [0]) hI ⟨⟨rfl, rfl⟩, ⟨rfl, rfl⟩, ⟨rfl, rfl⟩, ⟨rfl, rfl⟩, ⟨fn_to rfl hw4, fn_win hw4⟩, ⟨rfl, rfl⟩, ⟨rfl, rfl⟩, ⟨rfl, rfl⟩, ⟨rfl, rfl⟩, ⟨rfl, rfl⟩, trivial⟩ (okH_list rfl rfl rfl (okH_nil)) rfl rfl⟩
    obtain ⟨start, r⟩ := v
    obtain ⟨hm_, hR, hVa⟩ := h32
    replace hm_ : (r - start).toNat ≤ n_ := hm_
    replace hVa : a ≤ start ∧ (IntKind.i64.wrap ((IntKind.i64.wrap (shrI .u64 (IntKind.u64.wrap (IntKind.i64.wrap (a + b))) 1)) + m)) - b ≤ start ∧ start ≤ r ∧ r ≤ m ∧ r ≤ (IntKind.i64.wrap (shrI .u64 (IntKind.u64.wrap (IntKind.i64.wrap (a + b))) 1)) := hVa
    have hh_ := half_eq (x := a + b) (by omega)
    have hw_ := wrapI ((IntKind.i64.wrap (shrI .u64 (IntKind.u64.wrap (IntKind.i64.wrap (a + b))) 1)) + m) (by omega)
    have hw1_ := wrapI ((IntKind.i64.wrap ((IntKind.i64.wrap (shrI .u64 (IntKind.u64.wrap (IntKind.i64.wrap (a + b))) 1)) + m)) - b) (by omega)
    have hw2_ := wrapI ((IntKind.i64.wrap ((IntKind.i64.wrap (shrI .u64 (IntKind.u64.wrap (IntKind.i64.wrap (a + b))) 1)) + m)) - 1) (by omega)
    refine Awp.seq ?_
    refine Awp.consP C ?_
    refine rvP C (.pv (.lit (.int .i64 start))) ?_
    refine rvP C (.pv (.lit (.int .i64 r))) ?_
    refine rvP C (.pv (.lit (.bool (decide (start < r))))) ?_
    refine rvc_nil ?_
    refine Awp.cond (b := (decide (start < r))) rfl (fun h34 => ?_) (fun h34 => ?_)
    ·
     replace hR := of_true h34 hR
     have h34_ := of_decide_eq_true h34
     refine Awp.skip ?_
     refine Awp.block ?_
     refine Awp.consP C ?_
     refine rvP C (.pv (.lit (.int .i64 start))) ?_
     refine rvP C (.pv (.lit (.int .i64 r))) ?_
     refine rvP C (.pv (.lit (.int .i64 (IntKind.i64.wrap (start + r))))) ?_
     refine rvP C (.pv (.lit (.int .u64 (IntKind.u64.wrap (IntKind.i64.wrap (start + r)))))) ?_
     refine rvc_un (rexec_prim C (δ := { v := .pv (.lit (.int .u64 (shrI .u64 (IntKind.u64.wrap (IntKind.i64.wrap (start + r))) 1))) }) rfl rfl rfl rfl (by first | decide | assumption | omega) rfl ?_)
     refine rvP C (.pv (.lit (.int .i64 (IntKind.i64.wrap (shrI .u64 (IntKind.u64.wrap (IntKind.i64.wrap (start + r))) 1))))) ?_
     refine rvP C (.pv (.lit (.int .i64 (IntKind.i64.wrap (shrI .u64 (IntKind.u64.wrap (IntKind.i64.wrap (start + r))) 1))))) ?_
     refine rvc_nil ?_
     refine Awp.consP C ?_
     refine rvP C (.fn g4 [] caps4) ?_
     refine rvP C (.sl 0 0 data.length 1 false) ?_
     refine rvP C (.pv (.lit (.int .i64 (IntKind.i64.wrap ((IntKind.i64.wrap ((IntKind.i64.wrap (shrI .u64 (IntKind.u64.wrap (IntKind.i64.wrap (a + b))) 1)) + m)) - 1))))) ?_
     refine rvP C (.pv (.lit (.int .i64 (IntKind.i64.wrap (shrI .u64 (IntKind.u64.wrap (IntKind.i64.wrap (start + r))) 1))))) ?_
     refine rvP C (.pv (.lit (.int .i64 (IntKind.i64.wrap ((IntKind.i64.wrap ((IntKind.i64.wrap ((IntKind.i64.wrap (shrI .u64 (IntKind.u64.wrap (IntKind.i64.wrap (a + b))) 1)) + m)) - 1)) - (IntKind.i64.wrap (shrI .u64 (IntKind.u64.wrap (IntKind.i64.wrap (start + r))) 1))))))) ?_
     have h35 : data[(IntKind.i64.wrap ((IntKind.i64.wrap ((IntKind.i64.wrap ((IntKind.i64.wrap (shrI .u64 (IntKind.u64.wrap (IntKind.i64.wrap (a + b))) 1)) + m)) - 1)) - (IntKind.i64.wrap (shrI .u64 (IntKind.u64.wrap (IntKind.i64.wrap (start + r))) 1)))).toNat]? = some data[(IntKind.i64.wrap ((IntKind.i64.wrap ((IntKind.i64.wrap ((IntKind.i64.wrap (shrI .u64 (IntKind.u64.wrap (IntKind.i64.wrap (a + b))) 1)) + m)) - 1)) - (IntKind.i64.wrap (shrI .u64 (IntKind.u64.wrap (IntKind.i64.wrap (start + r))) 1)))).toNat]! := getE (by have hl_ := of_decide_eq_true ‹decide (start < r) = true›; have hc_ := half_eq (x := start + r) (by omega); have hc1_ := wrapI ((IntKind.i64.wrap (shrI .u64 (IntKind.u64.wrap (IntKind.i64.wrap (start + r))) 1)) + 1) (by omega); have hc2_ := wrapI (IntKind.i64.wrap ((IntKind.i64.wrap ((IntKind.i64.wrap (shrI .u64 (IntKind.u64.wrap (IntKind.i64.wrap (a + b))) 1)) + m)) - 1) - (IntKind.i64.wrap (shrI .u64 (IntKind.u64.wrap (IntKind.i64.wrap (start + r))) 1))) (by omega); omega)
     refine rvc_un (rexec_prim C (δ := { v := .ptr 0 (0 + (IntKind.i64.wrap ((IntKind.i64.wrap ((IntKind.i64.wrap ((IntKind.i64.wrap (shrI .u64 (IntKind.u64.wrap (IntKind.i64.wrap (a + b))) 1)) + m)) - 1)) - (IntKind.i64.wrap (shrI .u64 (IntKind.u64.wrap (IntKind.i64.wrap (start + r))) 1)))).toNat * 1) }) rfl rfl rfl rfl ⟨(by have hl_ := of_decide_eq_true ‹decide (start < r) = true›; have hc_ := half_eq (x := start + r) (by omega); have hc1_ := wrapI ((IntKind.i64.wrap (shrI .u64 (IntKind.u64.wrap (IntKind.i64.wrap (start + r))) 1)) + 1) (by omega); have hc2_ := wrapI (IntKind.i64.wrap ((IntKind.i64.wrap ((IntKind.i64.wrap (shrI .u64 (IntKind.u64.wrap (IntKind.i64.wrap (a + b))) 1)) + m)) - 1) - (IntKind.i64.wrap (shrI .u64 (IntKind.u64.wrap (IntKind.i64.wrap (start + r))) 1))) (by omega); omega), (by have hl_ := of_decide_eq_true ‹decide (start < r) = true›; have hc_ := half_eq (x := start + r) (by omega); have hc1_ := wrapI ((IntKind.i64.wrap (shrI .u64 (IntKind.u64.wrap (IntKind.i64.wrap (start + r))) 1)) + 1) (by omega); have hc2_ := wrapI (IntKind.i64.wrap ((IntKind.i64.wrap ((IntKind.i64.wrap (shrI .u64 (IntKind.u64.wrap (IntKind.i64.wrap (a + b))) 1)) + m)) - 1) - (IntKind.i64.wrap (shrI .u64 (IntKind.u64.wrap (IntKind.i64.wrap (start + r))) 1))) (by omega); omega)⟩ rfl ?_)
     refine rvc_un (rexec_loadE C (e := (eI .i64)) ((IntKind.i64.wrap ((IntKind.i64.wrap ((IntKind.i64.wrap ((IntKind.i64.wrap (shrI .u64 (IntKind.u64.wrap (IntKind.i64.wrap (a + b))) 1)) + m)) - 1)) - (IntKind.i64.wrap (shrI .u64 (IntKind.u64.wrap (IntKind.i64.wrap (start + r))) 1)))).toNat) 0 (data[(IntKind.i64.wrap ((IntKind.i64.wrap ((IntKind.i64.wrap ((IntKind.i64.wrap (shrI .u64 (IntKind.u64.wrap (IntKind.i64.wrap (a + b))) 1)) + m)) - 1)) - (IntKind.i64.wrap (shrI .u64 (IntKind.u64.wrap (IntKind.i64.wrap (start + r))) 1)))).toNat]!) (.pv (.lit (.int .i64 (data[(IntKind.i64.wrap ((IntKind.i64.wrap ((IntKind.i64.wrap ((IntKind.i64.wrap (shrI .u64 (IntKind.u64.wrap (IntKind.i64.wrap (a + b))) 1)) + m)) - 1)) - (IntKind.i64.wrap (shrI .u64 (IntKind.u64.wrap (IntKind.i64.wrap (start + r))) 1)))).toNat]!)))) rfl rfl rfl rfl h35 (by simp [eI]) (by decide) (by decide) rfl ?_)
     refine rvP C (.sl 0 0 data.length 1 false) ?_
     refine rvP C (.pv (.lit (.int .i64 (IntKind.i64.wrap (shrI .u64 (IntKind.u64.wrap (IntKind.i64.wrap (start + r))) 1))))) ?_
     have h36 : data[(IntKind.i64.wrap (shrI .u64 (IntKind.u64.wrap (IntKind.i64.wrap (start + r))) 1)).toNat]? = some data[(IntKind.i64.wrap (shrI .u64 (IntKind.u64.wrap (IntKind.i64.wrap (start + r))) 1)).toNat]! := getE (by have hl_ := of_decide_eq_true ‹decide (start < r) = true›; have hc_ := half_eq (x := start + r) (by omega); have hc1_ := wrapI ((IntKind.i64.wrap (shrI .u64 (IntKind.u64.wrap (IntKind.i64.wrap (start + r))) 1)) + 1) (by omega); have hc2_ := wrapI (IntKind.i64.wrap ((IntKind.i64.wrap ((IntKind.i64.wrap (shrI .u64 (IntKind.u64.wrap (IntKind.i64.wrap (a + b))) 1)) + m)) - 1) - (IntKind.i64.wrap (shrI .u64 (IntKind.u64.wrap (IntKind.i64.wrap (start + r))) 1))) (by omega); omega)
     refine rvc_un (rexec_prim C (δ := { v := .ptr 0 (0 + (IntKind.i64.wrap (shrI .u64 (IntKind.u64.wrap (IntKind.i64.wrap (start + r))) 1)).toNat * 1) }) rfl rfl rfl rfl ⟨(by have hl_ := of_decide_eq_true ‹decide (start < r) = true›; have hc_ := half_eq (x := start + r) (by omega); have hc1_ := wrapI ((IntKind.i64.wrap (shrI .u64 (IntKind.u64.wrap (IntKind.i64.wrap (start + r))) 1)) + 1) (by omega); have hc2_ := wrapI (IntKind.i64.wrap ((IntKind.i64.wrap ((IntKind.i64.wrap (shrI .u64 (IntKind.u64.wrap (IntKind.i64.wrap (a + b))) 1)) + m)) - 1) - (IntKind.i64.wrap (shrI .u64 (IntKind.u64.wrap (IntKind.i64.wrap (start + r))) 1))) (by omega); omega), (by have hl_ := of_decide_eq_true ‹decide (start < r) = true›; have hc_ := half_eq (x := start + r) (by omega); have hc1_ := wrapI ((IntKind.i64.wrap (shrI .u64 (IntKind.u64.wrap (IntKind.i64.wrap (start + r))) 1)) + 1) (by omega); have hc2_ := wrapI (IntKind.i64.wrap ((IntKind.i64.wrap ((IntKind.i64.wrap (shrI .u64 (IntKind.u64.wrap (IntKind.i64.wrap (a + b))) 1)) + m)) - 1) - (IntKind.i64.wrap (shrI .u64 (IntKind.u64.wrap (IntKind.i64.wrap (start + r))) 1))) (by omega); omega)⟩ rfl ?_)
     refine rvc_un (rexec_loadE C (e := (eI .i64)) ((IntKind.i64.wrap (shrI .u64 (IntKind.u64.wrap (IntKind.i64.wrap (start + r))) 1)).toNat) 0 (data[(IntKind.i64.wrap (shrI .u64 (IntKind.u64.wrap (IntKind.i64.wrap (start + r))) 1)).toNat]!) (.pv (.lit (.int .i64 (data[(IntKind.i64.wrap (shrI .u64 (IntKind.u64.wrap (IntKind.i64.wrap (start + r))) 1)).toNat]!)))) rfl rfl rfl rfl h36 (by simp [eI]) (by decide) (by decide) rfl ?_)
     refine rvc_un (rexec_callV hP C rfl rfl rfl rfl (hp4 (data[(IntKind.i64.wrap ((IntKind.i64.wrap ((IntKind.i64.wrap ((IntKind.i64.wrap (shrI .u64 (IntKind.u64.wrap (IntKind.i64.wrap (a + b))) 1)) + m)) - 1)) - (IntKind.i64.wrap (shrI .u64 (IntKind.u64.wrap (IntKind.i64.wrap (start + r))) 1)))).toNat]!) (data[(IntKind.i64.wrap (shrI .u64 (IntKind.u64.wrap (IntKind.i64.wrap (start + r))) 1)).toNat]!) (hs _ (at_mem (by have hl_ := of_decide_eq_true ‹decide (start < r) = true›; have hc_ := half_eq (x := start + r) (by omega); have hc1_ := wrapI ((IntKind.i64.wrap (shrI .u64 (IntKind.u64.wrap (IntKind.i64.wrap (start + r))) 1)) + 1) (by omega); have hc2_ := wrapI (IntKind.i64.wrap ((IntKind.i64.wrap ((IntKind.i64.wrap (shrI .u64 (IntKind.u64.wrap (IntKind.i64.wrap (a + b))) 1)) + m)) - 1) - (IntKind.i64.wrap (shrI .u64 (IntKind.u64.wrap (IntKind.i64.wrap (start + r))) 1))) (by omega); omega))) (hs _ (at_mem (by have hl_ := of_decide_eq_true ‹decide (start < r) = true›; have hc_ := half_eq (x := start + r) (by omega); have hc1_ := wrapI ((IntKind.i64.wrap (shrI .u64 (IntKind.u64.wrap (IntKind.i64.wrap (start + r))) 1)) + 1) (by omega); have hc2_ := wrapI (IntKind.i64.wrap ((IntKind.i64.wrap ((IntKind.i64.wrap (shrI .u64 (IntKind.u64.wrap (IntKind.i64.wrap (a + b))) 1)) + m)) - 1) - (IntKind.i64.wrap (shrI .u64 (IntKind.u64.wrap (IntKind.i64.wrap (start + r))) 1))) (by omega); omega)))) rfl ?_)
     refine rvP C (.pv (.lit (.bool (decide ((cmp (data[(IntKind.i64.wrap ((IntKind.i64.wrap ((IntKind.i64.wrap ((IntKind.i64.wrap (shrI .u64 (IntKind.u64.wrap (IntKind.i64.wrap (a + b))) 1)) + m)) - 1)) - (IntKind.i64.wrap (shrI .u64 (IntKind.u64.wrap (IntKind.i64.wrap (start + r))) 1)))).toNat]!) (data[(IntKind.i64.wrap (shrI .u64 (IntKind.u64.wrap (IntKind.i64.wrap (start + r))) 1)).toNat]!)) < 0))))) ?_
     refine rvP C (.pv (.lit (.bool (!(decide ((cmp (data[(IntKind.i64.wrap ((IntKind.i64.wrap ((IntKind.i64.wrap ((IntKind.i64.wrap (shrI .u64 (IntKind.u64.wrap (IntKind.i64.wrap (a + b))) 1)) + m)) - 1)) - (IntKind.i64.wrap (shrI .u64 (IntKind.u64.wrap (IntKind.i64.wrap (start + r))) 1)))).toNat]!) (data[(IntKind.i64.wrap (shrI .u64 (IntKind.u64.wrap (IntKind.i64.wrap (start + r))) 1)).toNat]!)) < 0)))))) ?_
     refine rvc_nil ?_
     refine Awp.cond (b := (!(decide ((cmp (data[(IntKind.i64.wrap ((IntKind.i64.wrap ((IntKind.i64.wrap ((IntKind.i64.wrap (shrI .u64 (IntKind.u64.wrap (IntKind.i64.wrap (a + b))) 1)) + m)) - 1)) - (IntKind.i64.wrap (shrI .u64 (IntKind.u64.wrap (IntKind.i64.wrap (start + r))) 1)))).toNat]!) (data[(IntKind.i64.wrap (shrI .u64 (IntKind.u64.wrap (IntKind.i64.wrap (start + r))) 1)).toNat]!)) < 0)))) rfl (fun h37 => ?_) (fun h37 => ?_)
     ·
      replace hR := of_true h37 hR
      refine Awp.regionP C ?_
      refine rvP C (.pv (.lit (.int .i64 (IntKind.i64.wrap (shrI .u64 (IntKind.u64.wrap (IntKind.i64.wrap (start + r))) 1))))) ?_
      refine rvP C (.pv (.lit (.int .i64 (IntKind.i64.wrap ((IntKind.i64.wrap (shrI .u64 (IntKind.u64.wrap (IntKind.i64.wrap (start + r))) 1)) + 1))))) ?_
      refine rvP C (.pv (.lit (.int .i64 (IntKind.i64.wrap ((IntKind.i64.wrap (shrI .u64 (IntKind.u64.wrap (IntKind.i64.wrap (start + r))) 1)) + 1))))) ?_
      refine rvc_nil ?_
      have h38 : (r - (IntKind.i64.wrap ((IntKind.i64.wrap (shrI .u64 (IntKind.u64.wrap (IntKind.i64.wrap (start + r))) 1)) + 1))).toNat < (r - start).toNat := by (have hl_ := of_decide_eq_true ‹decide (start < r) = true›; have hc_ := half_eq (x := start + r) (by omega); have hc1_ := wrapI ((IntKind.i64.wrap (shrI .u64 (IntKind.u64.wrap (IntKind.i64.wrap (start + r))) 1)) + 1) (by omega); have hc2_ := wrapI (IntKind.i64.wrap ((IntKind.i64.wrap ((IntKind.i64.wrap (shrI .u64 (IntKind.u64.wrap (IntKind.i64.wrap (a + b))) 1)) + m)) - 1) - (IntKind.i64.wrap (shrI .u64 (IntKind.u64.wrap (IntKind.i64.wrap (start + r))) 1))) (by omega); omega)
      obtain ⟨nn, rfl⟩ : ∃ nn, n_ = nn + 1 := ⟨n_ - 1, by omega⟩
      refine ⟨nn, ((IntKind.i64.wrap ((IntKind.i64.wrap (shrI .u64 (IntKind.u64.wrap (IntKind.i64.wrap (start + r))) 1)) + 1)), r), by omega, ⟨by show (r - (IntKind.i64.wrap ((IntKind.i64.wrap (shrI .u64 (IntKind.u64.wrap (IntKind.i64.wrap (start + r))) 1)) + 1))).toNat ≤ nn; omega, hR, (by dsimp only; have hl_ := of_decide_eq_true ‹decide (start < r) = true›; have hc_ := half_eq (x := start + r) (by omega); have hc1_ := wrapI ((IntKind.i64.wrap (shrI .u64 (IntKind.u64.wrap (IntKind.i64.wrap (start + r))) 1)) + 1) (by omega); have hc2_ := wrapI (IntKind.i64.wrap ((IntKind.i64.wrap ((IntKind.i64.wrap (shrI .u64 (IntKind.u64.wrap (IntKind.i64.wrap (a + b))) 1)) + m)) - 1) - (IntKind.i64.wrap (shrI .u64 (IntKind.u64.wrap (IntKind.i64.wrap (start + r))) 1))) (by omega); omega)⟩, ?_⟩
      · exact ⟨fun b => b, WeakerR.ofLI (I := [0]) (Ks := [0]) hI ⟨⟨rfl, rfl⟩, ⟨rfl, rfl⟩, ⟨rfl, rfl⟩, ⟨rfl, rfl⟩, ⟨fn_to rfl hw4, fn_win hw4⟩, ⟨rfl, rfl⟩, ⟨rfl, rfl⟩, ⟨rfl, rfl⟩, ⟨rfl, rfl⟩, ⟨rfl, rfl⟩, trivial⟩ (okH_list rfl rfl rfl (okH_nil)) rfl rfl⟩
     ·
      replace hR := of_false h37 hR
      refine Awp.regionP C ?_
      refine rvP C (.pv (.lit (.int .i64 (IntKind.i64.wrap (shrI .u64 (IntKind.u64.wrap (IntKind.i64.wrap (start + r))) 1))))) ?_
      refine rvP C (.pv (.lit (.int .i64 (IntKind.i64.wrap (shrI .u64 (IntKind.u64.wrap (IntKind.i64.wrap (start + r))) 1))))) ?_
      refine rvc_nil ?_
      have h39 : ((IntKind.i64.wrap (shrI .u64 (IntKind.u64.wrap (IntKind.i64.wrap (start + r))) 1)) - start).toNat < (r - start).toNat := by (have hl_ := of_decide_eq_true ‹decide (start < r) = true›; have hc_ := half_eq (x := start + r) (by omega); have hc1_ := wrapI ((IntKind.i64.wrap (shrI .u64 (IntKind.u64.wrap (IntKind.i64.wrap (start + r))) 1)) + 1) (by omega); have hc2_ := wrapI (IntKind.i64.wrap ((IntKind.i64.wrap ((IntKind.i64.wrap (shrI .u64 (IntKind.u64.wrap (IntKind.i64.wrap (a + b))) 1)) + m)) - 1) - (IntKind.i64.wrap (shrI .u64 (IntKind.u64.wrap (IntKind.i64.wrap (start + r))) 1))) (by omega); omega)
      obtain ⟨nn, rfl⟩ : ∃ nn, n_ = nn + 1 := ⟨n_ - 1, by omega⟩
      refine ⟨nn, (start, (IntKind.i64.wrap (shrI .u64 (IntKind.u64.wrap (IntKind.i64.wrap (start + r))) 1))), by omega, ⟨by show ((IntKind.i64.wrap (shrI .u64 (IntKind.u64.wrap (IntKind.i64.wrap (start + r))) 1)) - start).toNat ≤ nn; omega, hR, (by dsimp only; have hl_ := of_decide_eq_true ‹decide (start < r) = true›; have hc_ := half_eq (x := start + r) (by omega); have hc1_ := wrapI ((IntKind.i64.wrap (shrI .u64 (IntKind.u64.wrap (IntKind.i64.wrap (start + r))) 1)) + 1) (by omega); have hc2_ := wrapI (IntKind.i64.wrap ((IntKind.i64.wrap ((IntKind.i64.wrap (shrI .u64 (IntKind.u64.wrap (IntKind.i64.wrap (a + b))) 1)) + m)) - 1) - (IntKind.i64.wrap (shrI .u64 (IntKind.u64.wrap (IntKind.i64.wrap (start + r))) 1))) (by omega); omega)⟩, ?_⟩
      · exact ⟨fun b => b, WeakerR.ofLI (I := [0]) (Ks := [0]) hI ⟨⟨rfl, rfl⟩, ⟨rfl, rfl⟩, ⟨rfl, rfl⟩, ⟨rfl, rfl⟩, ⟨fn_to rfl hw4, fn_win hw4⟩, ⟨rfl, rfl⟩, ⟨rfl, rfl⟩, ⟨rfl, rfl⟩, ⟨rfl, rfl⟩, ⟨rfl, rfl⟩, trivial⟩ (okH_list rfl rfl rfl (okH_nil)) rfl rfl⟩
    ·
     replace hR := of_false h34 hR
     have h34_ := of_decide_eq_false h34
     refine Awp.exit ?_
     refine Awp.consP C ?_
     refine rvP C (.pv (.lit (.int .i64 (IntKind.i64.wrap ((IntKind.i64.wrap (shrI .u64 (IntKind.u64.wrap (IntKind.i64.wrap (a + b))) 1)) + m))))) ?_
     refine rvP C (.pv (.lit (.int .i64 start))) ?_
     refine rvP C (.pv (.lit (.int .i64 (IntKind.i64.wrap ((IntKind.i64.wrap ((IntKind.i64.wrap (shrI .u64 (IntKind.u64.wrap (IntKind.i64.wrap (a + b))) 1)) + m)) - start))))) ?_
     refine rvP C (.pv (.lit (.int .i64 (IntKind.i64.wrap ((IntKind.i64.wrap ((IntKind.i64.wrap (shrI .u64 (IntKind.u64.wrap (IntKind.i64.wrap (a + b))) 1)) + m)) - start))))) ?_
     refine rvc_nil ?_
     refine Awp.seq ?_
     refine Awp.consP C ?_
     refine rvP C (.pv (.lit (.int .i64 start))) ?_
     refine rvP C (.pv (.lit (.int .i64 m))) ?_
     refine rvP C (.pv (.lit (.bool (decide (start < m))))) ?_
     refine rvP C (.pv (.lit (.bool (decide (start < m))))) ?_
     refine rvc_case 181 (decide (start < m)) rfl (fun h40 => ?_) (fun h40 => ?_)
     ·
      replace hR := of_true h40 hR
      have h40_ := of_decide_eq_true h40
      refine rvO C (.pv (.lit (.int .i64 m))) ?_
      refine rvO C (.pv (.lit (.int .i64 (IntKind.i64.wrap ((IntKind.i64.wrap ((IntKind.i64.wrap (shrI .u64 (IntKind.u64.wrap (IntKind.i64.wrap (a + b))) 1)) + m)) - start))))) ?_
      refine rvO C (.pv (.lit (.bool (decide (m < (IntKind.i64.wrap ((IntKind.i64.wrap ((IntKind.i64.wrap (shrI .u64 (IntKind.u64.wrap (IntKind.i64.wrap (a + b))) 1)) + m)) - start))))))) ?_
      refine rvP C (.pv (.lit (.bool (decide (m < (IntKind.i64.wrap ((IntKind.i64.wrap ((IntKind.i64.wrap (shrI .u64 (IntKind.u64.wrap (IntKind.i64.wrap (a + b))) 1)) + m)) - start))))))) ?_
      refine rvc_nil ?_
      refine Awp.cond (b := (decide (m < (IntKind.i64.wrap ((IntKind.i64.wrap ((IntKind.i64.wrap (shrI .u64 (IntKind.u64.wrap (IntKind.i64.wrap (a + b))) 1)) + m)) - start))))) rfl (fun h41 => ?_) (fun h41 => ?_)
      ·
       replace hR := of_true h41 hR
       have h41_ := of_decide_eq_true h41
       refine Awp.region C (fun _ => .writer) (by kernel_rfl) ?_
       refine rvP C (.sl 0 0 data.length 1 false) ?_
       refine rvP C (.pv (.lit (.int .i64 start))) ?_
       refine rvP C (.pv (.lit (.int .i64 m))) ?_
       refine rvP C (.pv (.lit (.int .i64 (IntKind.i64.wrap ((IntKind.i64.wrap ((IntKind.i64.wrap (shrI .u64 (IntKind.u64.wrap (IntKind.i64.wrap (a + b))) 1)) + m)) - start))))) ?_
       refine rvP C (.fn g4 [] caps4) ?_
       have he_ := wrapI ((IntKind.i64.wrap ((IntKind.i64.wrap (shrI .u64 (IntKind.u64.wrap (IntKind.i64.wrap (a + b))) 1)) + m)) - start) (by omega)
       refine rvc_un (rexec_callM hP C (b := 0) rfl rfl rfl (rotate_calls data start m (IntKind.i64.wrap ((IntKind.i64.wrap ((IntKind.i64.wrap (shrI .u64 (IntKind.u64.wrap (IntKind.i64.wrap (a + b))) 1)) + m)) - start)) cmp g4 caps4 hp4 hw4 (by omega) hL hs) (by simp only [AV.renL, AV.ren, AV.renL_none _ hw4]) rfl ?_)
       refine rvc_nil ?_
       refine Awp.seq ?_
       refine Awp.consP C ?_
       refine rvP C (.pv (.lit (.int .i64 a))) ?_
       refine rvP C (.pv (.lit (.int .i64 start))) ?_
       refine rvP C (.pv (.lit (.bool (decide (a < start))))) ?_
       refine rvP C (.pv (.lit (.bool (decide (a < start))))) ?_
       refine rvc_case 195 (decide (a < start)) rfl (fun h42 => ?_) (fun h42 => ?_)
       ·
        replace hR := of_true h42 hR
        have h42_ := of_decide_eq_true h42
        refine rvO C (.pv (.lit (.int .i64 start))) ?_
        refine rvO C (.pv (.lit (.int .i64 (IntKind.i64.wrap (shrI .u64 (IntKind.u64.wrap (IntKind.i64.wrap (a + b))) 1))))) ?_
        refine rvO C (.pv (.lit (.bool (decide (start < (IntKind.i64.wrap (shrI .u64 (IntKind.u64.wrap (IntKind.i64.wrap (a + b))) 1))))))) ?_
        refine rvP C (.pv (.lit (.bool (decide (start < (IntKind.i64.wrap (shrI .u64 (IntKind.u64.wrap (IntKind.i64.wrap (a + b))) 1))))))) ?_
        refine rvc_nil ?_
        refine Awp.cond (b := (decide (start < (IntKind.i64.wrap (shrI .u64 (IntKind.u64.wrap (IntKind.i64.wrap (a + b))) 1))))) rfl (fun h43 => ?_) (fun h43 => ?_)
        ·
         replace hR := of_true h43 hR
         have h43_ := of_decide_eq_true h43
         refine Awp.region C (fun _ => .writer) (by kernel_rfl) ?_
         refine rvP C (.sl 0 0 data.length 1 false) ?_
         refine rvP C (.pv (.lit (.int .i64 a))) ?_
         refine rvP C (.pv (.lit (.int .i64 start))) ?_
         refine rvP C (.pv (.lit (.int .i64 (IntKind.i64.wrap (shrI .u64 (IntKind.u64.wrap (IntKind.i64.wrap (a + b))) 1))))) ?_
         refine rvP C (.fn g4 [] caps4) ?_
         have he_ := wrapI ((IntKind.i64.wrap ((IntKind.i64.wrap (shrI .u64 (IntKind.u64.wrap (IntKind.i64.wrap (a + b))) 1)) + m)) - start) (by omega)
         refine rvc_un (rexec_callM hP C (b := 0) rfl rfl rfl (hrec (rotate data start m (IntKind.i64.wrap ((IntKind.i64.wrap ((IntKind.i64.wrap (shrI .u64 (IntKind.u64.wrap (IntKind.i64.wrap (a + b))) 1)) + m)) - start)) cmp) a start (IntKind.i64.wrap (shrI .u64 (IntKind.u64.wrap (IntKind.i64.wrap (a + b))) 1)) cmp g4 caps4 hp4 hw4 (by omega) (by omega) (by first | exact List.Perm.refl _ | exact rotate_perm (by omega) hL)) (by have hl_ : (rotate data start m (IntKind.i64.wrap ((IntKind.i64.wrap ((IntKind.i64.wrap (shrI .u64 (IntKind.u64.wrap (IntKind.i64.wrap (a + b))) 1)) + m)) - start)) cmp).length = data.length := (List.Perm.length_eq (by first | exact List.Perm.refl _ | exact rotate_perm (by omega) hL)); simp only [AV.renL, AV.ren, hl_, AV.renL_none _ hw4]) rfl ?_)
         refine rvc_nil ?_
         refine Awp.consP C ?_
         refine rvP C (.pv (.lit (.int .i64 (IntKind.i64.wrap (shrI .u64 (IntKind.u64.wrap (IntKind.i64.wrap (a + b))) 1))))) ?_
         refine rvP C (.pv (.lit (.int .i64 (IntKind.i64.wrap ((IntKind.i64.wrap ((IntKind.i64.wrap (shrI .u64 (IntKind.u64.wrap (IntKind.i64.wrap (a + b))) 1)) + m)) - start))))) ?_
         refine rvP C (.pv (.lit (.bool (decide ((IntKind.i64.wrap (shrI .u64 (IntKind.u64.wrap (IntKind.i64.wrap (a + b))) 1)) < (IntKind.i64.wrap ((IntKind.i64.wrap ((IntKind.i64.wrap (shrI .u64 (IntKind.u64.wrap (IntKind.i64.wrap (a + b))) 1)) + m)) - start))))))) ?_
         refine rvP C (.pv (.lit (.bool (decide ((IntKind.i64.wrap (shrI .u64 (IntKind.u64.wrap (IntKind.i64.wrap (a + b))) 1)) < (IntKind.i64.wrap ((IntKind.i64.wrap ((IntKind.i64.wrap (shrI .u64 (IntKind.u64.wrap (IntKind.i64.wrap (a + b))) 1)) + m)) - start))))))) ?_
         refine rvc_case 209 (decide ((IntKind.i64.wrap (shrI .u64 (IntKind.u64.wrap (IntKind.i64.wrap (a + b))) 1)) < (IntKind.i64.wrap ((IntKind.i64.wrap ((IntKind.i64.wrap (shrI .u64 (IntKind.u64.wrap (IntKind.i64.wrap (a + b))) 1)) + m)) - start)))) rfl (fun h44 => ?_) (fun h44 => ?_)
         ·
          replace hR := of_true h44 hR
          have h44_ := of_decide_eq_true h44
          refine rvO C (.pv (.lit (.int .i64 (IntKind.i64.wrap ((IntKind.i64.wrap ((IntKind.i64.wrap (shrI .u64 (IntKind.u64.wrap (IntKind.i64.wrap (a + b))) 1)) + m)) - start))))) ?_
          refine rvO C (.pv (.lit (.int .i64 b))) ?_
          refine rvO C (.pv (.lit (.bool (decide ((IntKind.i64.wrap ((IntKind.i64.wrap ((IntKind.i64.wrap (shrI .u64 (IntKind.u64.wrap (IntKind.i64.wrap (a + b))) 1)) + m)) - start)) < b))))) ?_
          refine rvP C (.pv (.lit (.bool (decide ((IntKind.i64.wrap ((IntKind.i64.wrap ((IntKind.i64.wrap (shrI .u64 (IntKind.u64.wrap (IntKind.i64.wrap (a + b))) 1)) + m)) - start)) < b))))) ?_
          refine rvc_nil ?_
          refine Awp.cond (b := (decide ((IntKind.i64.wrap ((IntKind.i64.wrap ((IntKind.i64.wrap (shrI .u64 (IntKind.u64.wrap (IntKind.i64.wrap (a + b))) 1)) + m)) - start)) < b))) rfl (fun h45 => ?_) (fun h45 => ?_)
          ·
           replace hR := of_true h45 hR
           have h45_ := of_decide_eq_true h45
           refine Awp.region C (fun _ => .writer) (by kernel_rfl) ?_
           refine rvP C (.sl 0 0 data.length 1 false) ?_
           refine rvP C (.pv (.lit (.int .i64 (IntKind.i64.wrap (shrI .u64 (IntKind.u64.wrap (IntKind.i64.wrap (a + b))) 1))))) ?_
           refine rvP C (.pv (.lit (.int .i64 (IntKind.i64.wrap ((IntKind.i64.wrap ((IntKind.i64.wrap (shrI .u64 (IntKind.u64.wrap (IntKind.i64.wrap (a + b))) 1)) + m)) - start))))) ?_
           refine rvP C (.pv (.lit (.int .i64 b))) ?_
           refine rvP C (.fn g4 [] caps4) ?_
           have he_ := wrapI ((IntKind.i64.wrap ((IntKind.i64.wrap (shrI .u64 (IntKind.u64.wrap (IntKind.i64.wrap (a + b))) 1)) + m)) - start) (by omega)
           refine rvc_un (rexec_callM hP C (b := 0) rfl rfl rfl (hrec (rec (rotate data start m (IntKind.i64.wrap ((IntKind.i64.wrap ((IntKind.i64.wrap (shrI .u64 (IntKind.u64.wrap (IntKind.i64.wrap (a + b))) 1)) + m)) - start)) cmp) a start (IntKind.i64.wrap (shrI .u64 (IntKind.u64.wrap (IntKind.i64.wrap (a + b))) 1)) cmp) (IntKind.i64.wrap (shrI .u64 (IntKind.u64.wrap (IntKind.i64.wrap (a + b))) 1)) (IntKind.i64.wrap ((IntKind.i64.wrap ((IntKind.i64.wrap (shrI .u64 (IntKind.u64.wrap (IntKind.i64.wrap (a + b))) 1)) + m)) - start)) b cmp g4 caps4 hp4 hw4 (by omega) (by omega) (by first | exact List.Perm.refl _ | exact rotate_perm (by omega) hL | exact hrp _ _ _ _ _ (by omega) (by omega) (List.Perm.refl _) | exact hrp _ _ _ _ _ (by omega) (by omega) (rotate_perm (by omega) hL))) (by have hl_ : (rec (rotate data start m (IntKind.i64.wrap ((IntKind.i64.wrap ((IntKind.i64.wrap (shrI .u64 (IntKind.u64.wrap (IntKind.i64.wrap (a + b))) 1)) + m)) - start)) cmp) a start (IntKind.i64.wrap (shrI .u64 (IntKind.u64.wrap (IntKind.i64.wrap (a + b))) 1)) cmp).length = data.length := (List.Perm.length_eq (by first | exact List.Perm.refl _ | exact rotate_perm (by omega) hL | exact hrp _ _ _ _ _ (by omega) (by omega) (List.Perm.refl _) | exact hrp _ _ _ _ _ (by omega) (by omega) (rotate_perm (by omega) hL))); simp only [AV.renL, AV.ren, hl_, AV.renL_none _ hw4]) rfl ?_)
           refine rvc_nil ?_
           subst hR
           exact ⟨.inr rfl, rfl, rfl⟩
          ·
           replace hR := of_false h45 hR
           have h45_ := of_decide_eq_false h45
           refine Awp.skip ?_
           subst hR
           exact ⟨.inr rfl, rfl, rfl⟩
         ·
          replace hR := of_false h44 hR
          have h44_ := of_decide_eq_false h44
          refine rvS ?_
          refine rvS ?_
          refine rvS ?_
          refine rvP C (.pv (.lit (.bool false))) ?_
          refine rvc_nil ?_
          refine Awp.condF (b := false) rfl rfl ?_
          refine Awp.skip ?_
          subst hR
          exact ⟨.inr rfl, rfl, rfl⟩
        ·
         replace hR := of_false h43 hR
         have h43_ := of_decide_eq_false h43
         refine Awp.skip ?_
         refine Awp.consP C ?_
         refine rvP C (.pv (.lit (.int .i64 (IntKind.i64.wrap (shrI .u64 (IntKind.u64.wrap (IntKind.i64.wrap (a + b))) 1))))) ?_
         refine rvP C (.pv (.lit (.int .i64 (IntKind.i64.wrap ((IntKind.i64.wrap ((IntKind.i64.wrap (shrI .u64 (IntKind.u64.wrap (IntKind.i64.wrap (a + b))) 1)) + m)) - start))))) ?_
         refine rvP C (.pv (.lit (.bool (decide ((IntKind.i64.wrap (shrI .u64 (IntKind.u64.wrap (IntKind.i64.wrap (a + b))) 1)) < (IntKind.i64.wrap ((IntKind.i64.wrap ((IntKind.i64.wrap (shrI .u64 (IntKind.u64.wrap (IntKind.i64.wrap (a + b))) 1)) + m)) - start))))))) ?_
         refine rvP C (.pv (.lit (.bool (decide ((IntKind.i64.wrap (shrI .u64 (IntKind.u64.wrap (IntKind.i64.wrap (a + b))) 1)) < (IntKind.i64.wrap ((IntKind.i64.wrap ((IntKind.i64.wrap (shrI .u64 (IntKind.u64.wrap (IntKind.i64.wrap (a + b))) 1)) + m)) - start))))))) ?_
         refine rvc_case 209 (decide ((IntKind.i64.wrap (shrI .u64 (IntKind.u64.wrap (IntKind.i64.wrap (a + b))) 1)) < (IntKind.i64.wrap ((IntKind.i64.wrap ((IntKind.i64.wrap (shrI .u64 (IntKind.u64.wrap (IntKind.i64.wrap (a + b))) 1)) + m)) - start)))) rfl (fun h46 => ?_) (fun h46 => ?_)
         ·
          replace hR := of_true h46 hR
          have h46_ := of_decide_eq_true h46
          refine rvO C (.pv (.lit (.int .i64 (IntKind.i64.wrap ((IntKind.i64.wrap ((IntKind.i64.wrap (shrI .u64 (IntKind.u64.wrap (IntKind.i64.wrap (a + b))) 1)) + m)) - start))))) ?_
          refine rvO C (.pv (.lit (.int .i64 b))) ?_
          refine rvO C (.pv (.lit (.bool (decide ((IntKind.i64.wrap ((IntKind.i64.wrap ((IntKind.i64.wrap (shrI .u64 (IntKind.u64.wrap (IntKind.i64.wrap (a + b))) 1)) + m)) - start)) < b))))) ?_
          refine rvP C (.pv (.lit (.bool (decide ((IntKind.i64.wrap ((IntKind.i64.wrap ((IntKind.i64.wrap (shrI .u64 (IntKind.u64.wrap (IntKind.i64.wrap (a + b))) 1)) + m)) - start)) < b))))) ?_
          refine rvc_nil ?_
          refine Awp.cond (b := (decide ((IntKind.i64.wrap ((IntKind.i64.wrap ((IntKind.i64.wrap (shrI .u64 (IntKind.u64.wrap (IntKind.i64.wrap (a + b))) 1)) + m)) - start)) < b))) rfl (fun h47 => ?_) (fun h47 => ?_)
          ·
           replace hR := of_true h47 hR
           have h47_ := of_decide_eq_true h47
           refine Awp.region C (fun _ => .writer) (by kernel_rfl) ?_
           refine rvP C (.sl 0 0 data.length 1 false) ?_
           refine rvP C (.pv (.lit (.int .i64 (IntKind.i64.wrap (shrI .u64 (IntKind.u64.wrap (IntKind.i64.wrap (a + b))) 1))))) ?_
           refine rvP C (.pv (.lit (.int .i64 (IntKind.i64.wrap ((IntKind.i64.wrap ((IntKind.i64.wrap (shrI .u64 (IntKind.u64.wrap (IntKind.i64.wrap (a + b))) 1)) + m)) - start))))) ?_
           refine rvP C (.pv (.lit (.int .i64 b))) ?_
           refine rvP C (.fn g4 [] caps4) ?_
           have he_ := wrapI ((IntKind.i64.wrap ((IntKind.i64.wrap (shrI .u64 (IntKind.u64.wrap (IntKind.i64.wrap (a + b))) 1)) + m)) - start) (by omega)
           refine rvc_un (rexec_callM hP C (b := 0) rfl rfl rfl (hrec (rotate data start m (IntKind.i64.wrap ((IntKind.i64.wrap ((IntKind.i64.wrap (shrI .u64 (IntKind.u64.wrap (IntKind.i64.wrap (a + b))) 1)) + m)) - start)) cmp) (IntKind.i64.wrap (shrI .u64 (IntKind.u64.wrap (IntKind.i64.wrap (a + b))) 1)) (IntKind.i64.wrap ((IntKind.i64.wrap ((IntKind.i64.wrap (shrI .u64 (IntKind.u64.wrap (IntKind.i64.wrap (a + b))) 1)) + m)) - start)) b cmp g4 caps4 hp4 hw4 (by omega) (by omega) (by first | exact List.Perm.refl _ | exact rotate_perm (by omega) hL | exact hrp _ _ _ _ _ (by omega) (by omega) (List.Perm.refl _) | exact hrp _ _ _ _ _ (by omega) (by omega) (rotate_perm (by omega) hL))) (by have hl_ : (rotate data start m (IntKind.i64.wrap ((IntKind.i64.wrap ((IntKind.i64.wrap (shrI .u64 (IntKind.u64.wrap (IntKind.i64.wrap (a + b))) 1)) + m)) - start)) cmp).length = data.length := (List.Perm.length_eq (by first | exact List.Perm.refl _ | exact rotate_perm (by omega) hL | exact hrp _ _ _ _ _ (by omega) (by omega) (List.Perm.refl _) | exact hrp _ _ _ _ _ (by omega) (by omega) (rotate_perm (by omega) hL))); simp only [AV.renL, AV.ren, hl_, AV.renL_none _ hw4]) rfl ?_)
           refine rvc_nil ?_
           subst hR
           exact ⟨.inr rfl, rfl, rfl⟩
          ·
           replace hR := of_false h47 hR
           have h47_ := of_decide_eq_false h47
           refine Awp.skip ?_
           subst hR
           exact ⟨.inr rfl, rfl, rfl⟩
         ·
          replace hR := of_false h46 hR
          have h46_ := of_decide_eq_false h46
          refine rvS ?_
          refine rvS ?_
          refine rvS ?_
          refine rvP C (.pv (.lit (.bool false))) ?_
          refine rvc_nil ?_
          refine Awp.condF (b := false) rfl rfl ?_
          refine Awp.skip ?_
          subst hR
          exact ⟨.inr rfl, rfl, rfl⟩
       ·
        replace hR := of_false h42 hR
        have h42_ := of_decide_eq_false h42
        refine rvS ?_
        refine rvS ?_
        refine rvS ?_
        refine rvP C (.pv (.lit (.bool false))) ?_
        refine rvc_nil ?_
        refine Awp.condF (b := false) rfl rfl ?_
        refine Awp.skip ?_
        refine Awp.consP C ?_
        refine rvP C (.pv (.lit (.int .i64 (IntKind.i64.wrap (shrI .u64 (IntKind.u64.wrap (IntKind.i64.wrap (a + b))) 1))))) ?_
        refine rvP C (.pv (.lit (.int .i64 (IntKind.i64.wrap ((IntKind.i64.wrap ((IntKind.i64.wrap (shrI .u64 (IntKind.u64.wrap (IntKind.i64.wrap (a + b))) 1)) + m)) - start))))) ?_
        refine rvP C (.pv (.lit (.bool (decide ((IntKind.i64.wrap (shrI .u64 (IntKind.u64.wrap (IntKind.i64.wrap (a + b))) 1)) < (IntKind.i64.wrap ((IntKind.i64.wrap ((IntKind.i64.wrap (shrI .u64 (IntKind.u64.wrap (IntKind.i64.wrap (a + b))) 1)) + m)) - start))))))) ?_
        refine rvP C (.pv (.lit (.bool (decide ((IntKind.i64.wrap (shrI .u64 (IntKind.u64.wrap (IntKind.i64.wrap (a + b))) 1)) < (IntKind.i64.wrap ((IntKind.i64.wrap ((IntKind.i64.wrap (shrI .u64 (IntKind.u64.wrap (IntKind.i64.wrap (a + b))) 1)) + m)) - start))))))) ?_
        refine rvc_case 209 (decide ((IntKind.i64.wrap (shrI .u64 (IntKind.u64.wrap (IntKind.i64.wrap (a + b))) 1)) < (IntKind.i64.wrap ((IntKind.i64.wrap ((IntKind.i64.wrap (shrI .u64 (IntKind.u64.wrap (IntKind.i64.wrap (a + b))) 1)) + m)) - start)))) rfl (fun h48 => ?_) (fun h48 => ?_)
        ·
         replace hR := of_true h48 hR
         have h48_ := of_decide_eq_true h48
         refine rvO C (.pv (.lit (.int .i64 (IntKind.i64.wrap ((IntKind.i64.wrap ((IntKind.i64.wrap (shrI .u64 (IntKind.u64.wrap (IntKind.i64.wrap (a + b))) 1)) + m)) - start))))) ?_
         refine rvO C (.pv (.lit (.int .i64 b))) ?_
         refine rvO C (.pv (.lit (.bool (decide ((IntKind.i64.wrap ((IntKind.i64.wrap ((IntKind.i64.wrap (shrI .u64 (IntKind.u64.wrap (IntKind.i64.wrap (a + b))) 1)) + m)) - start)) < b))))) ?_
         refine rvP C (.pv (.lit (.bool (decide ((IntKind.i64.wrap ((IntKind.i64.wrap ((IntKind.i64.wrap (shrI .u64 (IntKind.u64.wrap (IntKind.i64.wrap (a + b))) 1)) + m)) - start)) < b))))) ?_
         refine rvc_nil ?_
         refine Awp.cond (b := (decide ((IntKind.i64.wrap ((IntKind.i64.wrap ((IntKind.i64.wrap (shrI .u64 (IntKind.u64.wrap (IntKind.i64.wrap (a + b))) 1)) + m)) - start)) < b))) rfl (fun h49 => ?_) (fun h49 => ?_)
         ·
          replace hR := of_true h49 hR
          have h49_ := of_decide_eq_true h49
          refine Awp.region C (fun _ => .writer) (by kernel_rfl) ?_
          refine rvP C (.sl 0 0 data.length 1 false) ?_
          refine rvP C (.pv (.lit (.int .i64 (IntKind.i64.wrap (shrI .u64 (IntKind.u64.wrap (IntKind.i64.wrap (a + b))) 1))))) ?_
          refine rvP C (.pv (.lit (.int .i64 (IntKind.i64.wrap ((IntKind.i64.wrap ((IntKind.i64.wrap (shrI .u64 (IntKind.u64.wrap (IntKind.i64.wrap (a + b))) 1)) + m)) - start))))) ?_
          refine rvP C (.pv (.lit (.int .i64 b))) ?_
          refine rvP C (.fn g4 [] caps4) ?_
          have he_ := wrapI ((IntKind.i64.wrap ((IntKind.i64.wrap (shrI .u64 (IntKind.u64.wrap (IntKind.i64.wrap (a + b))) 1)) + m)) - start) (by omega)
          refine rvc_un (rexec_callM hP C (b := 0) rfl rfl rfl (hrec (rotate data start m (IntKind.i64.wrap ((IntKind.i64.wrap ((IntKind.i64.wrap (shrI .u64 (IntKind.u64.wrap (IntKind.i64.wrap (a + b))) 1)) + m)) - start)) cmp) (IntKind.i64.wrap (shrI .u64 (IntKind.u64.wrap (IntKind.i64.wrap (a + b))) 1)) (IntKind.i64.wrap ((IntKind.i64.wrap ((IntKind.i64.wrap (shrI .u64 (IntKind.u64.wrap (IntKind.i64.wrap (a + b))) 1)) + m)) - start)) b cmp g4 caps4 hp4 hw4 (by omega) (by omega) (by first | exact List.Perm.refl _ | exact rotate_perm (by omega) hL | exact hrp _ _ _ _ _ (by omega) (by omega) (List.Perm.refl _) | exact hrp _ _ _ _ _ (by omega) (by omega) (rotate_perm (by omega) hL))) (by have hl_ : (rotate data start m (IntKind.i64.wrap ((IntKind.i64.wrap ((IntKind.i64.wrap (shrI .u64 (IntKind.u64.wrap (IntKind.i64.wrap (a + b))) 1)) + m)) - start)) cmp).length = data.length := (List.Perm.length_eq (by first | exact List.Perm.refl _ | exact rotate_perm (by omega) hL | exact hrp _ _ _ _ _ (by omega) (by omega) (List.Perm.refl _) | exact hrp _ _ _ _ _ (by omega) (by omega) (rotate_perm (by omega) hL))); simp only [AV.renL, AV.ren, hl_, AV.renL_none _ hw4]) rfl ?_)
          refine rvc_nil ?_
          subst hR
          exact ⟨.inr rfl, rfl, rfl⟩
         ·
          replace hR := of_false h49 hR
          have h49_ := of_decide_eq_false h49
          refine Awp.skip ?_
          subst hR
          exact ⟨.inr rfl, rfl, rfl⟩
        ·
         replace hR := of_false h48 hR
         have h48_ := of_decide_eq_false h48
         refine rvS ?_
         refine rvS ?_
         refine rvS ?_
         refine rvP C (.pv (.lit (.bool false))) ?_
         refine rvc_nil ?_
         refine Awp.condF (b := false) rfl rfl ?_
         refine Awp.skip ?_
         subst hR
         exact ⟨.inr rfl, rfl, rfl⟩
      ·
       replace hR := of_false h41 hR
       have h41_ := of_decide_eq_false h41
       refine Awp.skip ?_
       refine Awp.seq ?_
       refine Awp.consP C ?_
       refine rvP C (.pv (.lit (.int .i64 a))) ?_
       refine rvP C (.pv (.lit (.int .i64 start))) ?_
       refine rvP C (.pv (.lit (.bool (decide (a < start))))) ?_
       refine rvP C (.pv (.lit (.bool (decide (a < start))))) ?_
       refine rvc_case 195 (decide (a < start)) rfl (fun h50 => ?_) (fun h50 => ?_)
       ·
        replace hR := of_true h50 hR
        have h50_ := of_decide_eq_true h50
        refine rvO C (.pv (.lit (.int .i64 start))) ?_
        refine rvO C (.pv (.lit (.int .i64 (IntKind.i64.wrap (shrI .u64 (IntKind.u64.wrap (IntKind.i64.wrap (a + b))) 1))))) ?_
        refine rvO C (.pv (.lit (.bool (decide (start < (IntKind.i64.wrap (shrI .u64 (IntKind.u64.wrap (IntKind.i64.wrap (a + b))) 1))))))) ?_
        refine rvP C (.pv (.lit (.bool (decide (start < (IntKind.i64.wrap (shrI .u64 (IntKind.u64.wrap (IntKind.i64.wrap (a + b))) 1))))))) ?_
        refine rvc_nil ?_
        refine Awp.cond (b := (decide (start < (IntKind.i64.wrap (shrI .u64 (IntKind.u64.wrap (IntKind.i64.wrap (a + b))) 1))))) rfl (fun h51 => ?_) (fun h51 => ?_)
        ·
         replace hR := of_true h51 hR
         have h51_ := of_decide_eq_true h51
         refine Awp.region C (fun _ => .writer) (by kernel_rfl) ?_
         refine rvP C (.sl 0 0 data.length 1 false) ?_
         refine rvP C (.pv (.lit (.int .i64 a))) ?_
         refine rvP C (.pv (.lit (.int .i64 start))) ?_
         refine rvP C (.pv (.lit (.int .i64 (IntKind.i64.wrap (shrI .u64 (IntKind.u64.wrap (IntKind.i64.wrap (a + b))) 1))))) ?_
         refine rvP C (.fn g4 [] caps4) ?_
         have he_ := wrapI ((IntKind.i64.wrap ((IntKind.i64.wrap (shrI .u64 (IntKind.u64.wrap (IntKind.i64.wrap (a + b))) 1)) + m)) - start) (by omega)
         refine rvc_un (rexec_callM hP C (b := 0) rfl rfl rfl (hrec data a start (IntKind.i64.wrap (shrI .u64 (IntKind.u64.wrap (IntKind.i64.wrap (a + b))) 1)) cmp g4 caps4 hp4 hw4 (by omega) (by omega) (by first | exact List.Perm.refl _ | exact rotate_perm (by omega) hL)) (by simp only [AV.renL, AV.ren, AV.renL_none _ hw4]) rfl ?_)
         refine rvc_nil ?_
         refine Awp.consP C ?_
         refine rvP C (.pv (.lit (.int .i64 (IntKind.i64.wrap (shrI .u64 (IntKind.u64.wrap (IntKind.i64.wrap (a + b))) 1))))) ?_
         refine rvP C (.pv (.lit (.int .i64 (IntKind.i64.wrap ((IntKind.i64.wrap ((IntKind.i64.wrap (shrI .u64 (IntKind.u64.wrap (IntKind.i64.wrap (a + b))) 1)) + m)) - start))))) ?_
         refine rvP C (.pv (.lit (.bool (decide ((IntKind.i64.wrap (shrI .u64 (IntKind.u64.wrap (IntKind.i64.wrap (a + b))) 1)) < (IntKind.i64.wrap ((IntKind.i64.wrap ((IntKind.i64.wrap (shrI .u64 (IntKind.u64.wrap (IntKind.i64.wrap (a + b))) 1)) + m)) - start))))))) ?_
         refine rvP C (.pv (.lit (.bool (decide ((IntKind.i64.wrap (shrI .u64 (IntKind.u64.wrap (IntKind.i64.wrap (a + b))) 1)) < (IntKind.i64.wrap ((IntKind.i64.wrap ((IntKind.i64.wrap (shrI .u64 (IntKind.u64.wrap (IntKind.i64.wrap (a + b))) 1)) + m)) - start))))))) ?_
         refine rvc_case 209 (decide ((IntKind.i64.wrap (shrI .u64 (IntKind.u64.wrap (IntKind.i64.wrap (a + b))) 1)) < (IntKind.i64.wrap ((IntKind.i64.wrap ((IntKind.i64.wrap (shrI .u64 (IntKind.u64.wrap (IntKind.i64.wrap (a + b))) 1)) + m)) - start)))) rfl (fun h52 => ?_) (fun h52 => ?_)
         ·
          replace hR := of_true h52 hR
          have h52_ := of_decide_eq_true h52
          refine rvO C (.pv (.lit (.int .i64 (IntKind.i64.wrap ((IntKind.i64.wrap ((IntKind.i64.wrap (shrI .u64 (IntKind.u64.wrap (IntKind.i64.wrap (a + b))) 1)) + m)) - start))))) ?_
          refine rvO C (.pv (.lit (.int .i64 b))) ?_
          refine rvO C (.pv (.lit (.bool (decide ((IntKind.i64.wrap ((IntKind.i64.wrap ((IntKind.i64.wrap (shrI .u64 (IntKind.u64.wrap (IntKind.i64.wrap (a + b))) 1)) + m)) - start)) < b))))) ?_
          refine rvP C (.pv (.lit (.bool (decide ((IntKind.i64.wrap ((IntKind.i64.wrap ((IntKind.i64.wrap (shrI .u64 (IntKind.u64.wrap (IntKind.i64.wrap (a + b))) 1)) + m)) - start)) < b))))) ?_
          refine rvc_nil ?_
          refine Awp.cond (b := (decide ((IntKind.i64.wrap ((IntKind.i64.wrap ((IntKind.i64.wrap (shrI .u64 (IntKind.u64.wrap (IntKind.i64.wrap (a + b))) 1)) + m)) - start)) < b))) rfl (fun h53 => ?_) (fun h53 => ?_)
          ·
           replace hR := of_true h53 hR
           have h53_ := of_decide_eq_true h53
           refine Awp.region C (fun _ => .writer) (by kernel_rfl) ?_
           refine rvP C (.sl 0 0 data.length 1 false) ?_
           refine rvP C (.pv (.lit (.int .i64 (IntKind.i64.wrap (shrI .u64 (IntKind.u64.wrap (IntKind.i64.wrap (a + b))) 1))))) ?_
           refine rvP C (.pv (.lit (.int .i64 (IntKind.i64.wrap ((IntKind.i64.wrap ((IntKind.i64.wrap (shrI .u64 (IntKind.u64.wrap (IntKind.i64.wrap (a + b))) 1)) + m)) - start))))) ?_
           refine rvP C (.pv (.lit (.int .i64 b))) ?_
           refine rvP C (.fn g4 [] caps4) ?_
           have he_ := wrapI ((IntKind.i64.wrap ((IntKind.i64.wrap (shrI .u64 (IntKind.u64.wrap (IntKind.i64.wrap (a + b))) 1)) + m)) - start) (by omega)
           refine rvc_un (rexec_callM hP C (b := 0) rfl rfl rfl (hrec (rec data a start (IntKind.i64.wrap (shrI .u64 (IntKind.u64.wrap (IntKind.i64.wrap (a + b))) 1)) cmp) (IntKind.i64.wrap (shrI .u64 (IntKind.u64.wrap (IntKind.i64.wrap (a + b))) 1)) (IntKind.i64.wrap ((IntKind.i64.wrap ((IntKind.i64.wrap (shrI .u64 (IntKind.u64.wrap (IntKind.i64.wrap (a + b))) 1)) + m)) - start)) b cmp g4 caps4 hp4 hw4 (by omega) (by omega) (by first | exact List.Perm.refl _ | exact rotate_perm (by omega) hL | exact hrp _ _ _ _ _ (by omega) (by omega) (List.Perm.refl _) | exact hrp _ _ _ _ _ (by omega) (by omega) (rotate_perm (by omega) hL))) (by have hl_ : (rec data a start (IntKind.i64.wrap (shrI .u64 (IntKind.u64.wrap (IntKind.i64.wrap (a + b))) 1)) cmp).length = data.length := (List.Perm.length_eq (by first | exact List.Perm.refl _ | exact rotate_perm (by omega) hL | exact hrp _ _ _ _ _ (by omega) (by omega) (List.Perm.refl _) | exact hrp _ _ _ _ _ (by omega) (by omega) (rotate_perm (by omega) hL))); simp only [AV.renL, AV.ren, hl_, AV.renL_none _ hw4]) rfl ?_)
           refine rvc_nil ?_
           subst hR
           exact ⟨.inr rfl, rfl, rfl⟩
          ·
           replace hR := of_false h53 hR
           have h53_ := of_decide_eq_false h53
           refine Awp.skip ?_
           subst hR
           exact ⟨.inr rfl, rfl, rfl⟩
         ·
          replace hR := of_false h52 hR
          have h52_ := of_decide_eq_false h52
          refine rvS ?_
          refine rvS ?_
          refine rvS ?_
          refine rvP C (.pv (.lit (.bool false))) ?_
          refine rvc_nil ?_
          refine Awp.condF (b := false) rfl rfl ?_
          refine Awp.skip ?_
          subst hR
          exact ⟨.inr rfl, rfl, rfl⟩
        ·
         replace hR := of_false h51 hR
         have h51_ := of_decide_eq_false h51
         refine Awp.skip ?_
         refine Awp.consP C ?_
         refine rvP C (.pv (.lit (.int .i64 (IntKind.i64.wrap (shrI .u64 (IntKind.u64.wrap (IntKind.i64.wrap (a + b))) 1))))) ?_
         refine rvP C (.pv (.lit (.int .i64 (IntKind.i64.wrap ((IntKind.i64.wrap ((IntKind.i64.wrap (shrI .u64 (IntKind.u64.wrap (IntKind.i64.wrap (a + b))) 1)) + m)) - start))))) ?_
         refine rvP C (.pv (.lit (.bool (decide ((IntKind.i64.wrap (shrI .u64 (IntKind.u64.wrap (IntKind.i64.wrap (a + b))) 1)) < (IntKind.i64.wrap ((IntKind.i64.wrap ((IntKind.i64.wrap (shrI .u64 (IntKind.u64.wrap (IntKind.i64.wrap (a + b))) 1)) + m)) - start))))))) ?_
         refine rvP C (.pv (.lit (.bool (decide ((IntKind.i64.wrap (shrI .u64 (IntKind.u64.wrap (IntKind.i64.wrap (a + b))) 1)) < (IntKind.i64.wrap ((IntKind.i64.wrap ((IntKind.i64.wrap (shrI .u64 (IntKind.u64.wrap (IntKind.i64.wrap (a + b))) 1)) + m)) - start))))))) ?_
         refine rvc_case 209 (decide ((IntKind.i64.wrap (shrI .u64 (IntKind.u64.wrap (IntKind.i64.wrap (a + b))) 1)) < (IntKind.i64.wrap ((IntKind.i64.wrap ((IntKind.i64.wrap (shrI .u64 (IntKind.u64.wrap (IntKind.i64.wrap (a + b))) 1)) + m)) - start)))) rfl (fun h54 => ?_) (fun h54 => ?_)
         ·
          replace hR := of_true h54 hR
          have h54_ := of_decide_eq_true h54
          refine rvO C (.pv (.lit (.int .i64 (IntKind.i64.wrap ((IntKind.i64.wrap ((IntKind.i64.wrap (shrI .u64 (IntKind.u64.wrap (IntKind.i64.wrap (a + b))) 1)) + m)) - start))))) ?_
          refine rvO C (.pv (.lit (.int .i64 b))) ?_
          refine rvO C (.pv (.lit (.bool (decide ((IntKind.i64.wrap ((IntKind.i64.wrap ((IntKind.i64.wrap (shrI .u64 (IntKind.u64.wrap (IntKind.i64.wrap (a + b))) 1)) + m)) - start)) < b))))) ?_
          refine rvP C (.pv (.lit (.bool (decide ((IntKind.i64.wrap ((IntKind.i64.wrap ((IntKind.i64.wrap (shrI .u64 (IntKind.u64.wrap (IntKind.i64.wrap (a + b))) 1)) + m)) - start)) < b))))) ?_
          refine rvc_nil ?_
          refine Awp.cond (b := (decide ((IntKind.i64.wrap ((IntKind.i64.wrap ((IntKind.i64.wrap (shrI .u64 (IntKind.u64.wrap (IntKind.i64.wrap (a + b))) 1)) + m)) - start)) < b))) rfl (fun h55 => ?_) (fun h55 => ?_)
          ·
           replace hR := of_true h55 hR
           have h55_ := of_decide_eq_true h55
           refine Awp.region C (fun _ => .writer) (by kernel_rfl) ?_
           refine rvP C (.sl 0 0 data.length 1 false) ?_
           refine rvP C (.pv (.lit (.int .i64 (IntKind.i64.wrap (shrI .u64 (IntKind.u64.wrap (IntKind.i64.wrap (a + b))) 1))))) ?_
           refine rvP C (.pv (.lit (.int .i64 (IntKind.i64.wrap ((IntKind.i64.wrap ((IntKind.i64.wrap (shrI .u64 (IntKind.u64.wrap (IntKind.i64.wrap (a + b))) 1)) + m)) - start))))) ?_
           refine rvP C (.pv (.lit (.int .i64 b))) ?_
           refine rvP C (.fn g4 [] caps4) ?_
           have he_ := wrapI ((IntKind.i64.wrap ((IntKind.i64.wrap (shrI .u64 (IntKind.u64.wrap (IntKind.i64.wrap (a + b))) 1)) + m)) - start) (by omega)
           refine rvc_un (rexec_callM hP C (b := 0) rfl rfl rfl (hrec data (IntKind.i64.wrap (shrI .u64 (IntKind.u64.wrap (IntKind.i64.wrap (a + b))) 1)) (IntKind.i64.wrap ((IntKind.i64.wrap ((IntKind.i64.wrap (shrI .u64 (IntKind.u64.wrap (IntKind.i64.wrap (a + b))) 1)) + m)) - start)) b cmp g4 caps4 hp4 hw4 (by omega) (by omega) (by first | exact List.Perm.refl _ | exact rotate_perm (by omega) hL | exact hrp _ _ _ _ _ (by omega) (by omega) (List.Perm.refl _) | exact hrp _ _ _ _ _ (by omega) (by omega) (rotate_perm (by omega) hL))) (by simp only [AV.renL, AV.ren, AV.renL_none _ hw4]) rfl ?_)
           refine rvc_nil ?_
           subst hR
           exact ⟨.inr rfl, rfl, rfl⟩
          ·
           replace hR := of_false h55 hR
           have h55_ := of_decide_eq_false h55
           refine Awp.skip ?_
           subst hR
           exact ⟨.inr rfl, rfl, rfl⟩
         ·
          replace hR := of_false h54 hR
          have h54_ := of_decide_eq_false h54
          refine rvS ?_
          refine rvS ?_
          refine rvS ?_
          refine rvP C (.pv (.lit (.bool false))) ?_
          refine rvc_nil ?_
          refine Awp.condF (b := false) rfl rfl ?_
          refine Awp.skip ?_
          subst hR
          exact ⟨.inr rfl, rfl, rfl⟩
       ·
        replace hR := of_false h50 hR
        have h50_ := of_decide_eq_false h50
        refine rvS ?_
        refine rvS ?_
        refine rvS ?_
        refine rvP C (.pv (.lit (.bool false))) ?_
        refine rvc_nil ?_
        refine Awp.condF (b := false) rfl rfl ?_
        refine Awp.skip ?_
        refine Awp.consP C ?_
        refine rvP C (.pv (.lit (.int .i64 (IntKind.i64.wrap (shrI .u64 (IntKind.u64.wrap (IntKind.i64.wrap (a + b))) 1))))) ?_
        refine rvP C (.pv (.lit (.int .i64 (IntKind.i64.wrap ((IntKind.i64.wrap ((IntKind.i64.wrap (shrI .u64 (IntKind.u64.wrap (IntKind.i64.wrap (a + b))) 1)) + m)) - start))))) ?_
        refine rvP C (.pv (.lit (.bool (decide ((IntKind.i64.wrap (shrI .u64 (IntKind.u64.wrap (IntKind.i64.wrap (a + b))) 1)) < (IntKind.i64.wrap ((IntKind.i64.wrap ((IntKind.i64.wrap (shrI .u64 (IntKind.u64.wrap (IntKind.i64.wrap (a + b))) 1)) + m)) - start))))))) ?_
        refine rvP C (.pv (.lit (.bool (decide ((IntKind.i64.wrap (shrI .u64 (IntKind.u64.wrap (IntKind.i64.wrap (a + b))) 1)) < (IntKind.i64.wrap ((IntKind.i64.wrap ((IntKind.i64.wrap (shrI .u64 (IntKind.u64.wrap (IntKind.i64.wrap (a + b))) 1)) + m)) - start))))))) ?_
        refine rvc_case 209 (decide ((IntKind.i64.wrap (shrI .u64 (IntKind.u64.wrap (IntKind.i64.wrap (a + b))) 1)) < (IntKind.i64.wrap ((IntKind.i64.wrap ((IntKind.i64.wrap (shrI .u64 (IntKind.u64.wrap (IntKind.i64.wrap (a + b))) 1)) + m)) - start)))) rfl (fun h56 => ?_) (fun h56 => ?_)
        ·
         replace hR := of_true h56 hR
         have h56_ := of_decide_eq_true h56
         refine rvO C (.pv (.lit (.int .i64 (IntKind.i64.wrap ((IntKind.i64.wrap ((IntKind.i64.wrap (shrI .u64 (IntKind.u64.wrap (IntKind.i64.wrap (a + b))) 1)) + m)) - start))))) ?_
         refine rvO C (.pv (.lit (.int .i64 b))) ?_
         refine rvO C (.pv (.lit (.bool (decide ((IntKind.i64.wrap ((IntKind.i64.wrap ((IntKind.i64.wrap (shrI .u64 (IntKind.u64.wrap (IntKind.i64.wrap (a + b))) 1)) + m)) - start)) < b))))) ?_
         refine rvP C (.pv (.lit (.bool (decide ((IntKind.i64.wrap ((IntKind.i64.wrap ((IntKind.i64.wrap (shrI .u64 (IntKind.u64.wrap (IntKind.i64.wrap (a + b))) 1)) + m)) - start)) < b))))) ?_
         refine rvc_nil ?_
         refine Awp.cond (b := (decide ((IntKind.i64.wrap ((IntKind.i64.wrap ((IntKind.i64.wrap (shrI .u64 (IntKind.u64.wrap (IntKind.i64.wrap (a + b))) 1)) + m)) - start)) < b))) rfl (fun h57 => ?_) (fun h57 => ?_)
         ·
          replace hR := of_true h57 hR
          have h57_ := of_decide_eq_true h57
          refine Awp.region C (fun _ => .writer) (by kernel_rfl) ?_
          refine rvP C (.sl 0 0 data.length 1 false) ?_
          refine rvP C (.pv (.lit (.int .i64 (IntKind.i64.wrap (shrI .u64 (IntKind.u64.wrap (IntKind.i64.wrap (a + b))) 1))))) ?_
          refine rvP C (.pv (.lit (.int .i64 (IntKind.i64.wrap ((IntKind.i64.wrap ((IntKind.i64.wrap (shrI .u64 (IntKind.u64.wrap (IntKind.i64.wrap (a + b))) 1)) + m)) - start))))) ?_
          refine rvP C (.pv (.lit (.int .i64 b))) ?_
          refine rvP C (.fn g4 [] caps4) ?_
          have he_ := wrapI ((IntKind.i64.wrap ((IntKind.i64.wrap (shrI .u64 (IntKind.u64.wrap (IntKind.i64.wrap (a + b))) 1)) + m)) - start) (by omega)
          refine rvc_un (rexec_callM hP C (b := 0) rfl rfl rfl (hrec data (IntKind.i64.wrap (shrI .u64 (IntKind.u64.wrap (IntKind.i64.wrap (a + b))) 1)) (IntKind.i64.wrap ((IntKind.i64.wrap ((IntKind.i64.wrap (shrI .u64 (IntKind.u64.wrap (IntKind.i64.wrap (a + b))) 1)) + m)) - start)) b cmp g4 caps4 hp4 hw4 (by omega) (by omega) (by first | exact List.Perm.refl _ | exact rotate_perm (by omega) hL | exact hrp _ _ _ _ _ (by omega) (by omega) (List.Perm.refl _) | exact hrp _ _ _ _ _ (by omega) (by omega) (rotate_perm (by omega) hL))) (by simp only [AV.renL, AV.ren, AV.renL_none _ hw4]) rfl ?_)
          refine rvc_nil ?_
          subst hR
          exact ⟨.inr rfl, rfl, rfl⟩
         ·
          replace hR := of_false h57 hR
          have h57_ := of_decide_eq_false h57
          refine Awp.skip ?_
          subst hR
          exact ⟨.inr rfl, rfl, rfl⟩
        ·
         replace hR := of_false h56 hR
         have h56_ := of_decide_eq_false h56
         refine rvS ?_
         refine rvS ?_
         refine rvS ?_
         refine rvP C (.pv (.lit (.bool false))) ?_
         refine rvc_nil ?_
         refine Awp.condF (b := false) rfl rfl ?_
         refine Awp.skip ?_
         subst hR
         exact ⟨.inr rfl, rfl, rfl⟩
     ·
      replace hR := of_false h40 hR
      have h40_ := of_decide_eq_false h40
      refine rvS ?_
      refine rvS ?_
      refine rvS ?_
      refine rvP C (.pv (.lit (.bool false))) ?_
      refine rvc_nil ?_
      refine Awp.condF (b := false) rfl rfl ?_
      refine Awp.skip ?_
      refine Awp.seq ?_
      refine Awp.consP C ?_
      refine rvP C (.pv (.lit (.int .i64 a))) ?_
      refine rvP C (.pv (.lit (.int .i64 start))) ?_
      refine rvP C (.pv (.lit (.bool (decide (a < start))))) ?_
      refine rvP C (.pv (.lit (.bool (decide (a < start))))) ?_
      refine rvc_case 195 (decide (a < start)) rfl (fun h58 => ?_) (fun h58 => ?_)
      ·
       replace hR := of_true h58 hR
       have h58_ := of_decide_eq_true h58
       refine rvO C (.pv (.lit (.int .i64 start))) ?_
       refine rvO C (.pv (.lit (.int .i64 (IntKind.i64.wrap (shrI .u64 (IntKind.u64.wrap (IntKind.i64.wrap (a + b))) 1))))) ?_
       refine rvO C (.pv (.lit (.bool (decide (start < (IntKind.i64.wrap (shrI .u64 (IntKind.u64.wrap (IntKind.i64.wrap (a + b))) 1))))))) ?_
       refine rvP C (.pv (.lit (.bool (decide (start < (IntKind.i64.wrap (shrI .u64 (IntKind.u64.wrap (IntKind.i64.wrap (a + b))) 1))))))) ?_
       refine rvc_nil ?_
       refine Awp.cond (b := (decide (start < (IntKind.i64.wrap (shrI .u64 (IntKind.u64.wrap (IntKind.i64.wrap (a + b))) 1))))) rfl (fun h59 => ?_) (fun h59 => ?_)
       ·
        replace hR := of_true h59 hR
        have h59_ := of_decide_eq_true h59
        refine Awp.region C (fun _ => .writer) (by kernel_rfl) ?_
        refine rvP C (.sl 0 0 data.length 1 false) ?_
        refine rvP C (.pv (.lit (.int .i64 a))) ?_
        refine rvP C (.pv (.lit (.int .i64 start))) ?_
        refine rvP C (.pv (.lit (.int .i64 (IntKind.i64.wrap (shrI .u64 (IntKind.u64.wrap (IntKind.i64.wrap (a + b))) 1))))) ?_
        refine rvP C (.fn g4 [] caps4) ?_
        have he_ := wrapI ((IntKind.i64.wrap ((IntKind.i64.wrap (shrI .u64 (IntKind.u64.wrap (IntKind.i64.wrap (a + b))) 1)) + m)) - start) (by omega)
        refine rvc_un (rexec_callM hP C (b := 0) rfl rfl rfl (hrec data a start (IntKind.i64.wrap (shrI .u64 (IntKind.u64.wrap (IntKind.i64.wrap (a + b))) 1)) cmp g4 caps4 hp4 hw4 (by omega) (by omega) (by first | exact List.Perm.refl _ | exact rotate_perm (by omega) hL)) (by simp only [AV.renL, AV.ren, AV.renL_none _ hw4]) rfl ?_)
        refine rvc_nil ?_
        refine Awp.consP C ?_
        refine rvP C (.pv (.lit (.int .i64 (IntKind.i64.wrap (shrI .u64 (IntKind.u64.wrap (IntKind.i64.wrap (a + b))) 1))))) ?_
        refine rvP C (.pv (.lit (.int .i64 (IntKind.i64.wrap ((IntKind.i64.wrap ((IntKind.i64.wrap (shrI .u64 (IntKind.u64.wrap (IntKind.i64.wrap (a + b))) 1)) + m)) - start))))) ?_
        refine rvP C (.pv (.lit (.bool (decide ((IntKind.i64.wrap (shrI .u64 (IntKind.u64.wrap (IntKind.i64.wrap (a + b))) 1)) < (IntKind.i64.wrap ((IntKind.i64.wrap ((IntKind.i64.wrap (shrI .u64 (IntKind.u64.wrap (IntKind.i64.wrap (a + b))) 1)) + m)) - start))))))) ?_
        refine rvP C (.pv (.lit (.bool (decide ((IntKind.i64.wrap (shrI .u64 (IntKind.u64.wrap (IntKind.i64.wrap (a + b))) 1)) < (IntKind.i64.wrap ((IntKind.i64.wrap ((IntKind.i64.wrap (shrI .u64 (IntKind.u64.wrap (IntKind.i64.wrap (a + b))) 1)) + m)) - start))))))) ?_
        refine rvc_case 209 (decide ((IntKind.i64.wrap (shrI .u64 (IntKind.u64.wrap (IntKind.i64.wrap (a + b))) 1)) < (IntKind.i64.wrap ((IntKind.i64.wrap ((IntKind.i64.wrap (shrI .u64 (IntKind.u64.wrap (IntKind.i64.wrap (a + b))) 1)) + m)) - start)))) rfl (fun h60 => ?_) (fun h60 => ?_)
        ·
         replace hR := of_true h60 hR
         have h60_ := of_decide_eq_true h60
         refine rvO C (.pv (.lit (.int .i64 (IntKind.i64.wrap ((IntKind.i64.wrap ((IntKind.i64.wrap (shrI .u64 (IntKind.u64.wrap (IntKind.i64.wrap (a + b))) 1)) + m)) - start))))) ?_
         refine rvO C (.pv (.lit (.int .i64 b))) ?_
         refine rvO C (.pv (.lit (.bool (decide ((IntKind.i64.wrap ((IntKind.i64.wrap ((IntKind.i64.wrap (shrI .u64 (IntKind.u64.wrap (IntKind.i64.wrap (a + b))) 1)) + m)) - start)) < b))))) ?_
         refine rvP C (.pv (.lit (.bool (decide ((IntKind.i64.wrap ((IntKind.i64.wrap ((IntKind.i64.wrap (shrI .u64 (IntKind.u64.wrap (IntKind.i64.wrap (a + b))) 1)) + m)) - start)) < b))))) ?_
         refine rvc_nil ?_
         refine Awp.cond (b := (decide ((IntKind.i64.wrap ((IntKind.i64.wrap ((IntKind.i64.wrap (shrI .u64 (IntKind.u64.wrap (IntKind.i64.wrap (a + b))) 1)) + m)) - start)) < b))) rfl (fun h61 => ?_) (fun h61 => ?_)
         ·
          replace hR := of_true h61 hR
          have h61_ := of_decide_eq_true h61
          refine Awp.region C (fun _ => .writer) (by kernel_rfl) ?_
          refine rvP C (.sl 0 0 data.length 1 false) ?_
          refine rvP C (.pv (.lit (.int .i64 (IntKind.i64.wrap (shrI .u64 (IntKind.u64.wrap (IntKind.i64.wrap (a + b))) 1))))) ?_
          refine rvP C (.pv (.lit (.int .i64 (IntKind.i64.wrap ((IntKind.i64.wrap ((IntKind.i64.wrap (shrI .u64 (IntKind.u64.wrap (IntKind.i64.wrap (a + b))) 1)) + m)) - start))))) ?_
          refine rvP C (.pv (.lit (.int .i64 b))) ?_
          refine rvP C (.fn g4 [] caps4) ?_
          have he_ := wrapI ((IntKind.i64.wrap ((IntKind.i64.wrap (shrI .u64 (IntKind.u64.wrap (IntKind.i64.wrap (a + b))) 1)) + m)) - start) (by omega)
          refine rvc_un (rexec_callM hP C (b := 0) rfl rfl rfl (hrec (rec data a start (IntKind.i64.wrap (shrI .u64 (IntKind.u64.wrap (IntKind.i64.wrap (a + b))) 1)) cmp) (IntKind.i64.wrap (shrI .u64 (IntKind.u64.wrap (IntKind.i64.wrap (a + b))) 1)) (IntKind.i64.wrap ((IntKind.i64.wrap ((IntKind.i64.wrap (shrI .u64 (IntKind.u64.wrap (IntKind.i64.wrap (a + b))) 1)) + m)) - start)) b cmp g4 caps4 hp4 hw4 (by omega) (by omega) (by first | exact List.Perm.refl _ | exact rotate_perm (by omega) hL | exact hrp _ _ _ _ _ (by omega) (by omega) (List.Perm.refl _) | exact hrp _ _ _ _ _ (by omega) (by omega) (rotate_perm (by omega) hL))) (by have hl_ : (rec data a start (IntKind.i64.wrap (shrI .u64 (IntKind.u64.wrap (IntKind.i64.wrap (a + b))) 1)) cmp).length = data.length := (List.Perm.length_eq (by first | exact List.Perm.refl _ | exact rotate_perm (by omega) hL | exact hrp _ _ _ _ _ (by omega) (by omega) (List.Perm.refl _) | exact hrp _ _ _ _ _ (by omega) (by omega) (rotate_perm (by omega) hL))); simp only [AV.renL, AV.ren, hl_, AV.renL_none _ hw4]) rfl ?_)
          refine rvc_nil ?_
          subst hR
          exact ⟨.inr rfl, rfl, rfl⟩
         ·
          replace hR := of_false h61 hR
          have h61_ := of_decide_eq_false h61
          refine Awp.skip ?_
          subst hR
          exact ⟨.inr rfl, rfl, rfl⟩
        ·
         replace hR := of_false h60 hR
         have h60_ := of_decide_eq_false h60
         refine rvS ?_
         refine rvS ?_
         refine rvS ?_
         refine rvP C (.pv (.lit (.bool false))) ?_
         refine rvc_nil ?_
         refine Awp.condF (b := false) rfl rfl ?_
         refine Awp.skip ?_
         subst hR
         exact ⟨.inr rfl, rfl, rfl⟩
       ·
        replace hR := of_false h59 hR
        have h59_ := of_decide_eq_false h59
        refine Awp.skip ?_
        refine Awp.consP C ?_
        refine rvP C (.pv (.lit (.int .i64 (IntKind.i64.wrap (shrI .u64 (IntKind.u64.wrap (IntKind.i64.wrap (a + b))) 1))))) ?_
        refine rvP C (.pv (.lit (.int .i64 (IntKind.i64.wrap ((IntKind.i64.wrap ((IntKind.i64.wrap (shrI .u64 (IntKind.u64.wrap (IntKind.i64.wrap (a + b))) 1)) + m)) - start))))) ?_
        refine rvP C (.pv (.lit (.bool (decide ((IntKind.i64.wrap (shrI .u64 (IntKind.u64.wrap (IntKind.i64.wrap (a + b))) 1)) < (IntKind.i64.wrap ((IntKind.i64.wrap ((IntKind.i64.wrap (shrI .u64 (IntKind.u64.wrap (IntKind.i64.wrap (a + b))) 1)) + m)) - start))))))) ?_
        refine rvP C (.pv (.lit (.bool (decide ((IntKind.i64.wrap (shrI .u64 (IntKind.u64.wrap (IntKind.i64.wrap (a + b))) 1)) < (IntKind.i64.wrap ((IntKind.i64.wrap ((IntKind.i64.wrap (shrI .u64 (IntKind.u64.wrap (IntKind.i64.wrap (a + b))) 1)) + m)) - start))))))) ?_
        refine rvc_case 209 (decide ((IntKind.i64.wrap (shrI .u64 (IntKind.u64.wrap (IntKind.i64.wrap (a + b))) 1)) < (IntKind.i64.wrap ((IntKind.i64.wrap ((IntKind.i64.wrap (shrI .u64 (IntKind.u64.wrap (IntKind.i64.wrap (a + b))) 1)) + m)) - start)))) rfl (fun h62 => ?_) (fun h62 => ?_)
        ·
         replace hR := of_true h62 hR
         have h62_ := of_decide_eq_true h62
         refine rvO C (.pv (.lit (.int .i64 (IntKind.i64.wrap ((IntKind.i64.wrap ((IntKind.i64.wrap (shrI .u64 (IntKind.u64.wrap (IntKind.i64.wrap (a + b))) 1)) + m)) - start))))) ?_
         refine rvO C (.pv (.lit (.int .i64 b))) ?_
         refine rvO C (.pv (.lit (.bool (decide ((IntKind.i64.wrap ((IntKind.i64.wrap ((IntKind.i64.wrap (shrI .u64 (IntKind.u64.wrap (IntKind.i64.wrap (a + b))) 1)) + m)) - start)) < b))))) ?_
         refine rvP C (.pv (.lit (.bool (decide ((IntKind.i64.wrap ((IntKind.i64.wrap ((IntKind.i64.wrap (shrI .u64 (IntKind.u64.wrap (IntKind.i64.wrap (a + b))) 1)) + m)) - start)) < b))))) ?_
         refine rvc_nil ?_
         refine Awp.cond (b := (decide ((IntKind.i64.wrap ((IntKind.i64.wrap ((IntKind.i64.wrap (shrI .u64 (IntKind.u64.wrap (IntKind.i64.wrap (a + b))) 1)) + m)) - start)) < b))) rfl (fun h63 => ?_) (fun h63 => ?_)
         ·
          replace hR := of_true h63 hR
          have h63_ := of_decide_eq_true h63
          refine Awp.region C (fun _ => .writer) (by kernel_rfl) ?_
          refine rvP C (.sl 0 0 data.length 1 false) ?_
          refine rvP C (.pv (.lit (.int .i64 (IntKind.i64.wrap (shrI .u64 (IntKind.u64.wrap (IntKind.i64.wrap (a + b))) 1))))) ?_
          refine rvP C (.pv (.lit (.int .i64 (IntKind.i64.wrap ((IntKind.i64.wrap ((IntKind.i64.wrap (shrI .u64 (IntKind.u64.wrap (IntKind.i64.wrap (a + b))) 1)) + m)) - start))))) ?_
          refine rvP C (.pv (.lit (.int .i64 b))) ?_
          refine rvP C (.fn g4 [] caps4) ?_
          have he_ := wrapI ((IntKind.i64.wrap ((IntKind.i64.wrap (shrI .u64 (IntKind.u64.wrap (IntKind.i64.wrap (a + b))) 1)) + m)) - start) (by omega)
          refine rvc_un (rexec_callM hP C (b := 0) rfl rfl rfl (hrec data (IntKind.i64.wrap (shrI .u64 (IntKind.u64.wrap (IntKind.i64.wrap (a + b))) 1)) (IntKind.i64.wrap ((IntKind.i64.wrap ((IntKind.i64.wrap (shrI .u64 (IntKind.u64.wrap (IntKind.i64.wrap (a + b))) 1)) + m)) - start)) b cmp g4 caps4 hp4 hw4 (by omega) (by omega) (by first | exact List.Perm.refl _ | exact rotate_perm (by omega) hL | exact hrp _ _ _ _ _ (by omega) (by omega) (List.Perm.refl _) | exact hrp _ _ _ _ _ (by omega) (by omega) (rotate_perm (by omega) hL))) (by simp only [AV.renL, AV.ren, AV.renL_none _ hw4]) rfl ?_)
          refine rvc_nil ?_
          subst hR
          exact ⟨.inr rfl, rfl, rfl⟩
         ·
          replace hR := of_false h63 hR
          have h63_ := of_decide_eq_false h63
          refine Awp.skip ?_
          subst hR
          exact ⟨.inr rfl, rfl, rfl⟩
        ·
         replace hR := of_false h62 hR
         have h62_ := of_decide_eq_false h62
         refine rvS ?_
         refine rvS ?_
         refine rvS ?_
         refine rvP C (.pv (.lit (.bool false))) ?_
         refine rvc_nil ?_
         refine Awp.condF (b := false) rfl rfl ?_
         refine Awp.skip ?_
         subst hR
         exact ⟨.inr rfl, rfl, rfl⟩
      ·
       replace hR := of_false h58 hR
       have h58_ := of_decide_eq_false h58
       refine rvS ?_
       refine rvS ?_
       refine rvS ?_
       refine rvP C (.pv (.lit (.bool false))) ?_
       refine rvc_nil ?_
       refine Awp.condF (b := false) rfl rfl ?_
       refine Awp.skip ?_
       refine Awp.consP C ?_
       refine rvP C (.pv (.lit (.int .i64 (IntKind.i64.wrap (shrI .u64 (IntKind.u64.wrap (IntKind.i64.wrap (a + b))) 1))))) ?_
       refine rvP C (.pv (.lit (.int .i64 (IntKind.i64.wrap ((IntKind.i64.wrap ((IntKind.i64.wrap (shrI .u64 (IntKind.u64.wrap (IntKind.i64.wrap (a + b))) 1)) + m)) - start))))) ?_
       refine rvP C (.pv (.lit (.bool (decide ((IntKind.i64.wrap (shrI .u64 (IntKind.u64.wrap (IntKind.i64.wrap (a + b))) 1)) < (IntKind.i64.wrap ((IntKind.i64.wrap ((IntKind.i64.wrap (shrI .u64 (IntKind.u64.wrap (IntKind.i64.wrap (a + b))) 1)) + m)) - start))))))) ?_
       refine rvP C (.pv (.lit (.bool (decide ((IntKind.i64.wrap (shrI .u64 (IntKind.u64.wrap (IntKind.i64.wrap (a + b))) 1)) < (IntKind.i64.wrap ((IntKind.i64.wrap ((IntKind.i64.wrap (shrI .u64 (IntKind.u64.wrap (IntKind.i64.wrap (a + b))) 1)) + m)) - start))))))) ?_
       refine rvc_case 209 (decide ((IntKind.i64.wrap (shrI .u64 (IntKind.u64.wrap (IntKind.i64.wrap (a + b))) 1)) < (IntKind.i64.wrap ((IntKind.i64.wrap ((IntKind.i64.wrap (shrI .u64 (IntKind.u64.wrap (IntKind.i64.wrap (a + b))) 1)) + m)) - start)))) rfl (fun h64 => ?_) (fun h64 => ?_)
       ·
        replace hR := of_true h64 hR
        have h64_ := of_decide_eq_true h64
        refine rvO C (.pv (.lit (.int .i64 (IntKind.i64.wrap ((IntKind.i64.wrap ((IntKind.i64.wrap (shrI .u64 (IntKind.u64.wrap (IntKind.i64.wrap (a + b))) 1)) + m)) - start))))) ?_
        refine rvO C (.pv (.lit (.int .i64 b))) ?_
        refine rvO C (.pv (.lit (.bool (decide ((IntKind.i64.wrap ((IntKind.i64.wrap ((IntKind.i64.wrap (shrI .u64 (IntKind.u64.wrap (IntKind.i64.wrap (a + b))) 1)) + m)) - start)) < b))))) ?_
        refine rvP C (.pv (.lit (.bool (decide ((IntKind.i64.wrap ((IntKind.i64.wrap ((IntKind.i64.wrap (shrI .u64 (IntKind.u64.wrap (IntKind.i64.wrap (a + b))) 1)) + m)) - start)) < b))))) ?_
        refine rvc_nil ?_
        refine Awp.cond (b := (decide ((IntKind.i64.wrap ((IntKind.i64.wrap ((IntKind.i64.wrap (shrI .u64 (IntKind.u64.wrap (IntKind.i64.wrap (a + b))) 1)) + m)) - start)) < b))) rfl (fun h65 => ?_) (fun h65 => ?_)
        ·
         replace hR := of_true h65 hR
         have h65_ := of_decide_eq_true h65
         refine Awp.region C (fun _ => .writer) (by kernel_rfl) ?_
         refine rvP C (.sl 0 0 data.length 1 false) ?_
         refine rvP C (.pv (.lit (.int .i64 (IntKind.i64.wrap (shrI .u64 (IntKind.u64.wrap (IntKind.i64.wrap (a + b))) 1))))) ?_
         refine rvP C (.pv (.lit (.int .i64 (IntKind.i64.wrap ((IntKind.i64.wrap ((IntKind.i64.wrap (shrI .u64 (IntKind.u64.wrap (IntKind.i64.wrap (a + b))) 1)) + m)) - start))))) ?_
         refine rvP C (.pv (.lit (.int .i64 b))) ?_
         refine rvP C (.fn g4 [] caps4) ?_
         have he_ := wrapI ((IntKind.i64.wrap ((IntKind.i64.wrap (shrI .u64 (IntKind.u64.wrap (IntKind.i64.wrap (a + b))) 1)) + m)) - start) (by omega)
         refine rvc_un (rexec_callM hP C (b := 0) rfl rfl rfl (hrec data (IntKind.i64.wrap (shrI .u64 (IntKind.u64.wrap (IntKind.i64.wrap (a + b))) 1)) (IntKind.i64.wrap ((IntKind.i64.wrap ((IntKind.i64.wrap (shrI .u64 (IntKind.u64.wrap (IntKind.i64.wrap (a + b))) 1)) + m)) - start)) b cmp g4 caps4 hp4 hw4 (by omega) (by omega) (by first | exact List.Perm.refl _ | exact rotate_perm (by omega) hL | exact hrp _ _ _ _ _ (by omega) (by omega) (List.Perm.refl _) | exact hrp _ _ _ _ _ (by omega) (by omega) (rotate_perm (by omega) hL))) (by simp only [AV.renL, AV.ren, AV.renL_none _ hw4]) rfl ?_)
         refine rvc_nil ?_
         subst hR
         exact ⟨.inr rfl, rfl, rfl⟩
        ·
         replace hR := of_false h65 hR
         have h65_ := of_decide_eq_false h65
         refine Awp.skip ?_
         subst hR
         exact ⟨.inr rfl, rfl, rfl⟩
       ·
        replace hR := of_false h64 hR
        have h64_ := of_decide_eq_false h64
        refine rvS ?_
        refine rvS ?_
        refine rvS ?_
        refine rvP C (.pv (.lit (.bool false))) ?_
        refine rvc_nil ?_
        refine Awp.condF (b := false) rfl rfl ?_
        refine Awp.skip ?_
        subst hR
        exact ⟨.inr rfl, rfl, rfl⟩
   ·
    replace hR := of_false h31 hR
    have h31_ := of_decide_eq_false h31
    refine Awp.consP C ?_
    refine rvP C (.pv (.lit (.int .i64 a))) ?_
    refine rvP C (.pv (.lit (.int .i64 a))) ?_
    refine rvc_nil ?_
    refine Awp.regionP C ?_
    refine rvP C (.pv (.lit (.int .i64 m))) ?_
    refine rvP C (.pv (.lit (.int .i64 m))) ?_
    refine rvc_nil ?_
    refine Awp.consP C ?_
    refine rvP C (.pv (.lit (.int .i64 (IntKind.i64.wrap ((IntKind.i64.wrap (shrI .u64 (IntKind.u64.wrap (IntKind.i64.wrap (a + b))) 1)) + m))))) ?_
    refine rvP C (.pv (.lit (.int .i64 (IntKind.i64.wrap ((IntKind.i64.wrap ((IntKind.i64.wrap (shrI .u64 (IntKind.u64.wrap (IntKind.i64.wrap (a + b))) 1)) + m)) - 1))))) ?_
    refine rvP C (.pv (.lit (.int .i64 (IntKind.i64.wrap ((IntKind.i64.wrap ((IntKind.i64.wrap (shrI .u64 (IntKind.u64.wrap (IntKind.i64.wrap (a + b))) 1)) + m)) - 1))))) ?_
    refine rvc_nil ?_
    refine Awp.seq ?_
    refine Awp.block ?_
    refine Awp.forM (σ := Int × Int) (fun v => [(0, .sl 0 0 data.length 1 false), (1, .pv (.lit (.int .i64 a))), (2, .pv (.lit (.int .i64 m))), (3, .pv (.lit (.int .i64 b))), (4, .fn g4 [] caps4), (18, .pv (.lit (.int .i64 (IntKind.i64.wrap (shrI .u64 (IntKind.u64.wrap (IntKind.i64.wrap (a + b))) 1))))), (19, .pv (.lit (.int .i64 (IntKind.i64.wrap ((IntKind.i64.wrap (shrI .u64 (IntKind.u64.wrap (IntKind.i64.wrap (a + b))) 1)) + m))))), (20, .pv (.lit (.int .i64 v.1))), (21, .pv (.lit (.int .i64 v.2))), (22, .pv (.lit (.int .i64 (IntKind.i64.wrap ((IntKind.i64.wrap ((IntKind.i64.wrap (shrI .u64 (IntKind.u64.wrap (IntKind.i64.wrap (a + b))) 1)) + m)) - 1)))))]) (fun v => [(0, .cells (encC (eI .i64) data))]) [0] (fun n v => (v.2 - v.1).toNat ≤ n ∧ symMergeB_l4 rec data a m b cmp (n + 1) v.1 v.2 = R ∧ (a ≤ v.1 ∧ (IntKind.i64.wrap ((IntKind.i64.wrap (shrI .u64 (IntKind.u64.wrap (IntKind.i64.wrap (a + b))) 1)) + m)) - b ≤ v.1 ∧ v.1 ≤ v.2 ∧ v.2 ≤ m ∧ v.2 ≤ (IntKind.i64.wrap (shrI .u64 (IntKind.u64.wrap (IntKind.i64.wrap (a + b))) 1)))) ((m - a).toNat) (a, m) ?_ ?_ (fun n_ v h66 => ?_)
    · exact ⟨Nat.le_refl _, hR, (by dsimp only; have hh_ := half_eq (x := a + b) (by omega); have hw_ := wrapI ((IntKind.i64.wrap (shrI .u64 (IntKind.u64.wrap (IntKind.i64.wrap (a + b))) 1)) + m) (by omega); have hw1_ := wrapI ((IntKind.i64.wrap ((IntKind.i64.wrap (shrI .u64 (IntKind.u64.wrap (IntKind.i64.wrap (a + b))) 1)) + m)) - b) (by omega); have hw2_ := wrapI ((IntKind.i64.wrap ((IntKind.i64.wrap (shrI .u64 (IntKind.u64.wrap (IntKind.i64.wrap (a + b))) 1)) + m)) - 1) (by omega); first | (have h_ := of_decide_eq_true ‹decide (m > (IntKind.i64.wrap (shrI .u64 (IntKind.u64.wrap (IntKind.i64.wrap (a + b))) 1))) = true›; omega) | (have h_ := of_decide_eq_false ‹decide (m > (IntKind.i64.wrap (shrI .u64 (IntKind.u64.wrap (IntKind.i64.wrap (a + b))) 1))) = false›; omega))⟩
    · exact ⟨fun b => b, WeakerR.ofLI (I := [0]) (Ks := [0]) hI ⟨⟨rfl, rfl⟩, ⟨rfl, rfl⟩, ⟨rfl, rfl⟩, ⟨rfl, rfl⟩, ⟨fn_to rfl hw4, fn_win hw4⟩, ⟨rfl, rfl⟩, ⟨rfl, rfl⟩, ⟨rfl, rfl⟩, ⟨rfl, rfl⟩, ⟨rfl, rfl⟩, trivial⟩ (okH_list rfl rfl rfl (okH_nil)) rfl rfl⟩
    obtain ⟨start, r⟩ := v
    obtain ⟨hm_, hR, hVa⟩ := h66
    replace hm_ : (r - start).toNat ≤ n_ := hm_
    replace hVa : a ≤ start ∧ (IntKind.i64.wrap ((IntKind.i64.wrap (shrI .u64 (IntKind.u64.wrap (IntKind.i64.wrap (a + b))) 1)) + m)) - b ≤ start ∧ start ≤ r ∧ r ≤ m ∧ r ≤ (IntKind.i64.wrap (shrI .u64 (IntKind.u64.wrap (IntKind.i64.wrap (a + b))) 1)) := hVa
    have hh_ := half_eq (x := a + b) (by omega)
    have hw_ := wrapI ((IntKind.i64.wrap (shrI .u64 (IntKind.u64.wrap (IntKind.i64.wrap (a + b))) 1)) + m) (by omega)
    have hw1_ := wrapI ((IntKind.i64.wrap ((IntKind.i64.wrap (shrI .u64 (IntKind.u64.wrap (IntKind.i64.wrap (a + b))) 1)) + m)) - b) (by omega)
    have hw2_ := wrapI ((IntKind.i64.wrap ((IntKind.i64.wrap (shrI .u64 (IntKind.u64.wrap (IntKind.i64.wrap (a + b))) 1)) + m)) - 1) (by omega)
    refine Awp.seq ?_
    refine Awp.consP C ?_
    refine rvP C (.pv (.lit (.int .i64 start))) ?_
    refine rvP C (.pv (.lit (.int .i64 r))) ?_
    refine rvP C (.pv (.lit (.bool (decide (start < r))))) ?_
    refine rvc_nil ?_
    refine Awp.cond (b := (decide (start < r))) rfl (fun h68 => ?_) (fun h68 => ?_)
    ·
     replace hR := of_true h68 hR
     have h68_ := of_decide_eq_true h68
     refine Awp.skip ?_
     refine Awp.block ?_
     refine Awp.consP C ?_
     refine rvP C (.pv (.lit (.int .i64 start))) ?_
     refine rvP C (.pv (.lit (.int .i64 r))) ?_
     refine rvP C (.pv (.lit (.int .i64 (IntKind.i64.wrap (start + r))))) ?_
     refine rvP C (.pv (.lit (.int .u64 (IntKind.u64.wrap (IntKind.i64.wrap (start + r)))))) ?_
     refine rvc_un (rexec_prim C (δ := { v := .pv (.lit (.int .u64 (shrI .u64 (IntKind.u64.wrap (IntKind.i64.wrap (start + r))) 1))) }) rfl rfl rfl rfl (by first | decide | assumption | omega) rfl ?_)
     refine rvP C (.pv (.lit (.int .i64 (IntKind.i64.wrap (shrI .u64 (IntKind.u64.wrap (IntKind.i64.wrap (start + r))) 1))))) ?_
     refine rvP C (.pv (.lit (.int .i64 (IntKind.i64.wrap (shrI .u64 (IntKind.u64.wrap (IntKind.i64.wrap (start + r))) 1))))) ?_
     refine rvc_nil ?_
     refine Awp.consP C ?_
     refine rvP C (.fn g4 [] caps4) ?_
     refine rvP C (.sl 0 0 data.length 1 false) ?_
     refine rvP C (.pv (.lit (.int .i64 (IntKind.i64.wrap ((IntKind.i64.wrap ((IntKind.i64.wrap (shrI .u64 (IntKind.u64.wrap (IntKind.i64.wrap (a + b))) 1)) + m)) - 1))))) ?_
     refine rvP C (.pv (.lit (.int .i64 (IntKind.i64.wrap (shrI .u64 (IntKind.u64.wrap (IntKind.i64.wrap (start + r))) 1))))) ?_
     refine rvP C (.pv (.lit (.int .i64 (IntKind.i64.wrap ((IntKind.i64.wrap ((IntKind.i64.wrap ((IntKind.i64.wrap (shrI .u64 (IntKind.u64.wrap (IntKind.i64.wrap (a + b))) 1)) + m)) - 1)) - (IntKind.i64.wrap (shrI .u64 (IntKind.u64.wrap (IntKind.i64.wrap (start + r))) 1))))))) ?_
     have h69 : data[(IntKind.i64.wrap ((IntKind.i64.wrap ((IntKind.i64.wrap ((IntKind.i64.wrap (shrI .u64 (IntKind.u64.wrap (IntKind.i64.wrap (a + b))) 1)) + m)) - 1)) - (IntKind.i64.wrap (shrI .u64 (IntKind.u64.wrap (IntKind.i64.wrap (start + r))) 1)))).toNat]? = some data[(IntKind.i64.wrap ((IntKind.i64.wrap ((IntKind.i64.wrap ((IntKind.i64.wrap (shrI .u64 (IntKind.u64.wrap (IntKind.i64.wrap (a + b))) 1)) + m)) - 1)) - (IntKind.i64.wrap (shrI .u64 (IntKind.u64.wrap (IntKind.i64.wrap (start + r))) 1)))).toNat]! := getE (by have hl_ := of_decide_eq_true ‹decide (start < r) = true›; have hc_ := half_eq (x := start + r) (by omega); have hc1_ := wrapI ((IntKind.i64.wrap (shrI .u64 (IntKind.u64.wrap (IntKind.i64.wrap (start + r))) 1)) + 1) (by omega); have hc2_ := wrapI (IntKind.i64.wrap ((IntKind.i64.wrap ((IntKind.i64.wrap (shrI .u64 (IntKind.u64.wrap (IntKind.i64.wrap (a + b))) 1)) + m)) - 1) - (IntKind.i64.wrap (shrI .u64 (IntKind.u64.wrap (IntKind.i64.wrap (start + r))) 1))) (by omega); omega)
     refine rvc_un (rexec_prim C (δ := { v := .ptr 0 (0 + (IntKind.i64.wrap ((IntKind.i64.wrap ((IntKind.i64.wrap ((IntKind.i64.wrap (shrI .u64 (IntKind.u64.wrap (IntKind.i64.wrap (a + b))) 1)) + m)) - 1)) - (IntKind.i64.wrap (shrI .u64 (IntKind.u64.wrap (IntKind.i64.wrap (start + r))) 1)))).toNat * 1) }) rfl rfl rfl rfl ⟨(by have hl_ := of_decide_eq_true ‹decide (start < r) = true›; have hc_ := half_eq (x := start + r) (by omega); have hc1_ := wrapI ((IntKind.i64.wrap (shrI .u64 (IntKind.u64.wrap (IntKind.i64.wrap (start + r))) 1)) + 1) (by omega); have hc2_ := wrapI (IntKind.i64.wrap ((IntKind.i64.wrap ((IntKind.i64.wrap (shrI .u64 (IntKind.u64.wrap (IntKind.i64.wrap (a + b))) 1)) + m)) - 1) - (IntKind.i64.wrap (shrI .u64 (IntKind.u64.wrap (IntKind.i64.wrap (start + r))) 1))) (by omega); omega), (by have hl_ := of_decide_eq_true ‹decide (start < r) = true›; have hc_ := half_eq (x := start + r) (by omega); have hc1_ := wrapI ((IntKind.i64.wrap (shrI .u64 (IntKind.u64.wrap (IntKind.i64.wrap (start + r))) 1)) + 1) (by omega); have hc2_ := wrapI (IntKind.i64.wrap ((IntKind.i64.wrap ((IntKind.i64.wrap (shrI .u64 (IntKind.u64.wrap (IntKind.i64.wrap (a + b))) 1)) + m)) - 1) - (IntKind.i64.wrap (shrI .u64 (IntKind.u64.wrap (IntKind.i64.wrap (start + r))) 1))) (by omega); omega)⟩ rfl ?_)
     refine rvc_un (rexec_loadE C (e := (eI .i64)) ((IntKind.i64.wrap ((IntKind.i64.wrap ((IntKind.i64.wrap ((IntKind.i64.wrap (shrI .u64 (IntKind.u64.wrap (IntKind.i64.wrap (a + b))) 1)) + m)) - 1)) - (IntKind.i64.wrap (shrI .u64 (IntKind.u64.wrap (IntKind.i64.wrap (start + r))) 1)))).toNat) 0 (data[(IntKind.i64.wrap ((IntKind.i64.wrap ((IntKind.i64.wrap ((IntKind.i64.wrap (shrI .u64 (IntKind.u64.wrap (IntKind.i64.wrap (a + b))) 1)) + m)) - 1)) - (IntKind.i64.wrap (shrI .u64 (IntKind.u64.wrap (IntKind.i64.wrap (start + r))) 1)))).toNat]!) (.pv (.lit (.int .i64 (data[(IntKind.i64.wrap ((IntKind.i64.wrap ((IntKind.i64.wrap ((IntKind.i64.wrap (shrI .u64 (IntKind.u64.wrap (IntKind.i64.wrap (a + b))) 1)) + m)) - 1)) - (IntKind.i64.wrap (shrI .u64 (IntKind.u64.wrap (IntKind.i64.wrap (start + r))) 1)))).toNat]!)))) rfl rfl rfl rfl h69 (by simp [eI]) (by decide) (by decide) rfl ?_)
     refine rvP C (.sl 0 0 data.length 1 false) ?_
     refine rvP C (.pv (.lit (.int .i64 (IntKind.i64.wrap (shrI .u64 (IntKind.u64.wrap (IntKind.i64.wrap (start + r))) 1))))) ?_
     have h70 : data[(IntKind.i64.wrap (shrI .u64 (IntKind.u64.wrap (IntKind.i64.wrap (start + r))) 1)).toNat]? = some data[(IntKind.i64.wrap (shrI .u64 (IntKind.u64.wrap (IntKind.i64.wrap (start + r))) 1)).toNat]! := getE (by have hl_ := of_decide_eq_true ‹decide (start < r) = true›; have hc_ := half_eq (x := start + r) (by omega); have hc1_ := wrapI ((IntKind.i64.wrap (shrI .u64 (IntKind.u64.wrap (IntKind.i64.wrap (start + r))) 1)) + 1) (by omega); have hc2_ := wrapI (IntKind.i64.wrap ((IntKind.i64.wrap ((IntKind.i64.wrap (shrI .u64 (IntKind.u64.wrap (IntKind.i64.wrap (a + b))) 1)) + m)) - 1) - (IntKind.i64.wrap (shrI .u64 (IntKind.u64.wrap (IntKind.i64.wrap (start + r))) 1))) (by omega); omega)
     refine rvc_un (rexec_prim C (δ := { v := .ptr 0 (0 + (IntKind.i64.wrap (shrI .u64 (IntKind.u64.wrap (IntKind.i64.wrap (start + r))) 1)).toNat * 1) }) rfl rfl rfl rfl ⟨(by have hl_ := of_decide_eq_true ‹decide (start < r) = true›; have hc_ := half_eq (x := start + r) (by omega); have hc1_ := wrapI ((IntKind.i64.wrap (shrI .u64 (IntKind.u64.wrap (IntKind.i64.wrap (start + r))) 1)) + 1) (by omega); have hc2_ := wrapI (IntKind.i64.wrap ((IntKind.i64.wrap ((IntKind.i64.wrap (shrI .u64 (IntKind.u64.wrap (IntKind.i64.wrap (a + b))) 1)) + m)) - 1) - (IntKind.i64.wrap (shrI .u64 (IntKind.u64.wrap (IntKind.i64.wrap (start + r))) 1))) (by omega); omega), (by have hl_ := of_decide_eq_true ‹decide (start < r) = true›; have hc_ := half_eq (x := start + r) (by omega); have hc1_ := wrapI ((IntKind.i64.wrap (shrI .u64 (IntKind.u64.wrap (IntKind.i64.wrap (start + r))) 1)) + 1) (by omega); have hc2_ := wrapI (IntKind.i64.wrap ((IntKind.i64.wrap ((IntKind.i64.wrap (shrI .u64 (IntKind.u64.wrap (IntKind.i64.wrap (a + b))) 1)) + m)) - 1) - (IntKind.i64.wrap (shrI .u64 (IntKind.u64.wrap (IntKind.i64.wrap (start + r))) 1))) (by omega); omega)⟩ rfl ?_)
     refine rvc_un (rexec_loadE C (e := (eI .i64)) ((IntKind.i64.wrap (shrI .u64 (IntKind.u64.wrap (IntKind.i64.wrap (start + r))) 1)).toNat) 0 (data[(IntKind.i64.wrap (shrI .u64 (IntKind.u64.wrap (IntKind.i64.wrap (start + r))) 1)).toNat]!) (.pv (.lit (.int .i64 (data[(IntKind.i64.wrap (shrI .u64 (IntKind.u64.wrap (IntKind.i64.wrap (start + r))) 1)).toNat]!)))) rfl rfl rfl rfl h70 (by simp [eI]) (by decide) (by decide) rfl ?_)
     refine rvc_un (rexec_callV hP C rfl rfl rfl rfl (hp4 (data[(IntKind.i64.wrap ((IntKind.i64.wrap ((IntKind.i64.wrap ((IntKind.i64.wrap (shrI .u64 (IntKind.u64.wrap (IntKind.i64.wrap (a + b))) 1)) + m)) - 1)) - (IntKind.i64.wrap (shrI .u64 (IntKind.u64.wrap (IntKind.i64.wrap (start + r))) 1)))).toNat]!) (data[(IntKind.i64.wrap (shrI .u64 (IntKind.u64.wrap (IntKind.i64.wrap (start + r))) 1)).toNat]!) (hs _ (at_mem (by have hl_ := of_decide_eq_true ‹decide (start < r) = true›; have hc_ := half_eq (x := start + r) (by omega); have hc1_ := wrapI ((IntKind.i64.wrap (shrI .u64 (IntKind.u64.wrap (IntKind.i64.wrap (start + r))) 1)) + 1) (by omega); have hc2_ := wrapI (IntKind.i64.wrap ((IntKind.i64.wrap ((IntKind.i64.wrap (shrI .u64 (IntKind.u64.wrap (IntKind.i64.wrap (a + b))) 1)) + m)) - 1) - (IntKind.i64.wrap (shrI .u64 (IntKind.u64.wrap (IntKind.i64.wrap (start + r))) 1))) (by omega); omega))) (hs _ (at_mem (by have hl_ := of_decide_eq_true ‹decide (start < r) = true›; have hc_ := half_eq (x := start + r) (by omega); have hc1_ := wrapI ((IntKind.i64.wrap (shrI .u64 (IntKind.u64.wrap (IntKind.i64.wrap (start + r))) 1)) + 1) (by omega); have hc2_ := wrapI (IntKind.i64.wrap ((IntKind.i64.wrap ((IntKind.i64.wrap (shrI .u64 (IntKind.u64.wrap (IntKind.i64.wrap (a + b))) 1)) + m)) - 1) - (IntKind.i64.wrap (shrI .u64 (IntKind.u64.wrap (IntKind.i64.wrap (start + r))) 1))) (by omega); omega)))) rfl ?_)
     refine rvP C (.pv (.lit (.bool (decide ((cmp (data[(IntKind.i64.wrap ((IntKind.i64.wrap ((IntKind.i64.wrap ((IntKind.i64.wrap (shrI .u64 (IntKind.u64.wrap (IntKind.i64.wrap (a + b))) 1)) + m)) - 1)) - (IntKind.i64.wrap (shrI .u64 (IntKind.u64.wrap (IntKind.i64.wrap (start + r))) 1)))).toNat]!) (data[(IntKind.i64.wrap (shrI .u64 (IntKind.u64.wrap (IntKind.i64.wrap (start + r))) 1)).toNat]!)) < 0))))) ?_
     refine rvP C (.pv (.lit (.bool (!(decide ((cmp (data[(IntKind.i64.wrap ((IntKind.i64.wrap ((IntKind.i64.wrap ((IntKind.i64.wrap (shrI .u64 (IntKind.u64.wrap (IntKind.i64.wrap (a + b))) 1)) + m)) - 1)) - (IntKind.i64.wrap (shrI .u64 (IntKind.u64.wrap (IntKind.i64.wrap (start + r))) 1)))).toNat]!) (data[(IntKind.i64.wrap (shrI .u64 (IntKind.u64.wrap (IntKind.i64.wrap (start + r))) 1)).toNat]!)) < 0)))))) ?_
     refine rvc_nil ?_
     refine Awp.cond (b := (!(decide ((cmp (data[(IntKind.i64.wrap ((IntKind.i64.wrap ((IntKind.i64.wrap ((IntKind.i64.wrap (shrI .u64 (IntKind.u64.wrap (IntKind.i64.wrap (a + b))) 1)) + m)) - 1)) - (IntKind.i64.wrap (shrI .u64 (IntKind.u64.wrap (IntKind.i64.wrap (start + r))) 1)))).toNat]!) (data[(IntKind.i64.wrap (shrI .u64 (IntKind.u64.wrap (IntKind.i64.wrap (start + r))) 1)).toNat]!)) < 0)))) rfl (fun h71 => ?_) (fun h71 => ?_)
     ·
      replace hR := of_true h71 hR
      refine Awp.regionP C ?_
      refine rvP C (.pv (.lit (.int .i64 (IntKind.i64.wrap (shrI .u64 (IntKind.u64.wrap (IntKind.i64.wrap (start + r))) 1))))) ?_
      refine rvP C (.pv (.lit (.int .i64 (IntKind.i64.wrap ((IntKind.i64.wrap (shrI .u64 (IntKind.u64.wrap (IntKind.i64.wrap (start + r))) 1)) + 1))))) ?_
      refine rvP C (.pv (.lit (.int .i64 (IntKind.i64.wrap ((IntKind.i64.wrap (shrI .u64 (IntKind.u64.wrap (IntKind.i64.wrap (start + r))) 1)) + 1))))) ?_
      refine rvc_nil ?_
      have h72 : (r - (IntKind.i64.wrap ((IntKind.i64.wrap (shrI .u64 (IntKind.u64.wrap (IntKind.i64.wrap (start + r))) 1)) + 1))).toNat < (r - start).toNat := by (have hl_ := of_decide_eq_true ‹decide (start < r) = true›; have hc_ := half_eq (x := start + r) (by omega); have hc1_ := wrapI ((IntKind.i64.wrap (shrI .u64 (IntKind.u64.wrap (IntKind.i64.wrap (start + r))) 1)) + 1) (by omega); have hc2_ := wrapI (IntKind.i64.wrap ((IntKind.i64.wrap ((IntKind.i64.wrap (shrI .u64 (IntKind.u64.wrap (IntKind.i64.wrap (a + b))) 1)) + m)) - 1) - (IntKind.i64.wrap (shrI .u64 (IntKind.u64.wrap (IntKind.i64.wrap (start + r))) 1))) (by omega); omega)
      obtain ⟨nn, rfl⟩ : ∃ nn, n_ = nn + 1 := ⟨n_ - 1, by omega⟩
      refine ⟨nn, ((IntKind.i64.wrap ((IntKind.i64.wrap (shrI .u64 (IntKind.u64.wrap (IntKind.i64.wrap (start + r))) 1)) + 1)), r), by omega, ⟨by show (r - (IntKind.i64.wrap ((IntKind.i64.wrap (shrI .u64 (IntKind.u64.wrap (IntKind.i64.wrap (start + r))) 1)) + 1))).toNat ≤ nn; omega, hR, (by dsimp only; have hl_ := of_decide_eq_true ‹decide (start < r) = true›; have hc_ := half_eq (x := start + r) (by omega); have hc1_ := wrapI ((IntKind.i64.wrap (shrI .u64 (IntKind.u64.wrap (IntKind.i64.wrap (start + r))) 1)) + 1) (by omega); have hc2_ := wrapI (IntKind.i64.wrap ((IntKind.i64.wrap ((IntKind.i64.wrap (shrI .u64 (IntKind.u64.wrap (IntKind.i64.wrap (a + b))) 1)) + m)) - 1) - (IntKind.i64.wrap (shrI .u64 (IntKind.u64.wrap (IntKind.i64.wrap (start + r))) 1))) (by omega); omega)⟩, ?_⟩
      · exact ⟨fun b => b, WeakerR.ofLI (I := [0]) (Ks := [0]) hI ⟨⟨rfl, rfl⟩, ⟨rfl, rfl⟩, ⟨rfl, rfl⟩, ⟨rfl, rfl⟩, ⟨fn_to rfl hw4, fn_win hw4⟩, ⟨rfl, rfl⟩, ⟨rfl, rfl⟩, ⟨rfl, rfl⟩, ⟨rfl, rfl⟩, ⟨rfl, rfl⟩, trivial⟩ (okH_list rfl rfl rfl (okH_nil)) rfl rfl⟩
     ·
      replace hR := of_false h71 hR
      refine Awp.regionP C ?_
      refine rvP C (.pv (.lit (.int .i64 (IntKind.i64.wrap (shrI .u64 (IntKind.u64.wrap (IntKind.i64.wrap (start + r))) 1))))) ?_
      refine rvP C (.pv (.lit (.int .i64 (IntKind.i64.wrap (shrI .u64 (IntKind.u64.wrap (IntKind.i64.wrap (start + r))) 1))))) ?_
      refine rvc_nil ?_
      have h73 : ((IntKind.i64.wrap (shrI .u64 (IntKind.u64.wrap (IntKind.i64.wrap (start + r))) 1)) - start).toNat < (r - start).toNat := by (have hl_ := of_decide_eq_true ‹decide (start < r) = true›; have hc_ := half_eq (x := start + r) (by omega); have hc1_ := wrapI ((IntKind.i64.wrap (shrI .u64 (IntKind.u64.wrap (IntKind.i64.wrap (start + r))) 1)) + 1) (by omega); have hc2_ := wrapI (IntKind.i64.wrap ((IntKind.i64.wrap ((IntKind.i64.wrap (shrI .u64 (IntKind.u64.wrap (IntKind.i64.wrap (a + b))) 1)) + m)) - 1) - (IntKind.i64.wrap (shrI .u64 (IntKind.u64.wrap (IntKind.i64.wrap (start + r))) 1))) (by omega); omega)
      obtain ⟨nn, rfl⟩ : ∃ nn, n_ = nn + 1 := ⟨n_ - 1, by omega⟩
      refine ⟨nn, (start, (IntKind.i64.wrap (shrI .u64 (IntKind.u64.wrap (IntKind.i64.wrap (start + r))) 1))), by omega, ⟨by show ((IntKind.i64.wrap (shrI .u64 (IntKind.u64.wrap (IntKind.i64.wrap (start + r))) 1)) - start).toNat ≤ nn; omega, hR, (by dsimp only; have hl_ := of_decide_eq_true ‹decide (start < r) = true›; have hc_ := half_eq (x := start + r) (by omega); have hc1_ := wrapI ((IntKind.i64.wrap (shrI .u64 (IntKind.u64.wrap (IntKind.i64.wrap (start + r))) 1)) + 1) (by omega); have hc2_ := wrapI (IntKind.i64.wrap ((IntKind.i64.wrap ((IntKind.i64.wrap (shrI .u64 (IntKind.u64.wrap (IntKind.i64.wrap (a + b))) 1)) + m)) - 1) - (IntKind.i64.wrap (shrI .u64 (IntKind.u64.wrap (IntKind.i64.wrap (start + r))) 1))) (by omega); omega)⟩, ?_⟩
      · exact ⟨fun b => b, WeakerR.ofLI (I := [0]) (Ks := [0]) hI ⟨⟨rfl, rfl⟩, ⟨rfl, rfl⟩, ⟨rfl, rfl⟩, ⟨rfl, rfl⟩, ⟨fn_to rfl hw4, fn_win hw4⟩, ⟨rfl, rfl⟩, ⟨rfl, rfl⟩, ⟨rfl, rfl⟩, ⟨rfl, rfl⟩, ⟨rfl, rfl⟩, trivial⟩ (okH_list rfl rfl rfl (okH_nil)) rfl rfl⟩
    ·
     replace hR := of_false h68 hR
     have h68_ := of_decide_eq_false h68
     refine Awp.exit ?_
     refine Awp.consP C ?_
     refine rvP C (.pv (.lit (.int .i64 (IntKind.i64.wrap ((IntKind.i64.wrap (shrI .u64 (IntKind.u64.wrap (IntKind.i64.wrap (a + b))) 1)) + m))))) ?_
     refine rvP C (.pv (.lit (.int .i64 start))) ?_
     refine rvP C (.pv (.lit (.int .i64 (IntKind.i64.wrap ((IntKind.i64.wrap ((IntKind.i64.wrap (shrI .u64 (IntKind.u64.wrap (IntKind.i64.wrap (a + b))) 1)) + m)) - start))))) ?_
     refine rvP C (.pv (.lit (.int .i64 (IntKind.i64.wrap ((IntKind.i64.wrap ((IntKind.i64.wrap (shrI .u64 (IntKind.u64.wrap (IntKind.i64.wrap (a + b))) 1)) + m)) - start))))) ?_
     refine rvc_nil ?_
     refine Awp.seq ?_
     refine Awp.consP C ?_
     refine rvP C (.pv (.lit (.int .i64 start))) ?_
     refine rvP C (.pv (.lit (.int .i64 m))) ?_
     refine rvP C (.pv (.lit (.bool (decide (start < m))))) ?_
     refine rvP C (.pv (.lit (.bool (decide (start < m))))) ?_
     refine rvc_case 181 (decide (start < m)) rfl (fun h74 => ?_) (fun h74 => ?_)
     ·
      replace hR := of_true h74 hR
      have h74_ := of_decide_eq_true h74
      refine rvO C (.pv (.lit (.int .i64 m))) ?_
      refine rvO C (.pv (.lit (.int .i64 (IntKind.i64.wrap ((IntKind.i64.wrap ((IntKind.i64.wrap (shrI .u64 (IntKind.u64.wrap (IntKind.i64.wrap (a + b))) 1)) + m)) - start))))) ?_
      refine rvO C (.pv (.lit (.bool (decide (m < (IntKind.i64.wrap ((IntKind.i64.wrap ((IntKind.i64.wrap (shrI .u64 (IntKind.u64.wrap (IntKind.i64.wrap (a + b))) 1)) + m)) - start))))))) ?_
      refine rvP C (.pv (.lit (.bool (decide (m < (IntKind.i64.wrap ((IntKind.i64.wrap ((IntKind.i64.wrap (shrI .u64 (IntKind.u64.wrap (IntKind.i64.wrap (a + b))) 1)) + m)) - start))))))) ?_
      refine rvc_nil ?_
      refine Awp.cond (b := (decide (m < (IntKind.i64.wrap ((IntKind.i64.wrap ((IntKind.i64.wrap (shrI .u64 (IntKind.u64.wrap (IntKind.i64.wrap (a + b))) 1)) + m)) - start))))) rfl (fun h75 => ?_) (fun h75 => ?_)
      ·
       replace hR := of_true h75 hR
       have h75_ := of_decide_eq_true h75
       refine Awp.region C (fun _ => .writer) (by kernel_rfl) ?_
       refine rvP C (.sl 0 0 data.length 1 false) ?_
       refine rvP C (.pv (.lit (.int .i64 start))) ?_
       refine rvP C (.pv (.lit (.int .i64 m))) ?_
       refine rvP C (.pv (.lit (.int .i64 (IntKind.i64.wrap ((IntKind.i64.wrap ((IntKind.i64.wrap (shrI .u64 (IntKind.u64.wrap (IntKind.i64.wrap (a + b))) 1)) + m)) - start))))) ?_
       refine rvP C (.fn g4 [] caps4) ?_
       have he_ := wrapI ((IntKind.i64.wrap ((IntKind.i64.wrap (shrI .u64 (IntKind.u64.wrap (IntKind.i64.wrap (a + b))) 1)) + m)) - start) (by omega)
       refine rvc_un (rexec_callM hP C (b := 0) rfl rfl rfl (rotate_calls data start m (IntKind.i64.wrap ((IntKind.i64.wrap ((IntKind.i64.wrap (shrI .u64 (IntKind.u64.wrap (IntKind.i64.wrap (a + b))) 1)) + m)) - start)) cmp g4 caps4 hp4 hw4 (by omega) hL hs) (by simp only [AV.renL, AV.ren, AV.renL_none _ hw4]) rfl ?_)
       refine rvc_nil ?_
       refine Awp.seq ?_
       refine Awp.consP C ?_
       refine rvP C (.pv (.lit (.int .i64 a))) ?_
       refine rvP C (.pv (.lit (.int .i64 start))) ?_
       refine rvP C (.pv (.lit (.bool (decide (a < start))))) ?_
       refine rvP C (.pv (.lit (.bool (decide (a < start))))) ?_
       refine rvc_case 195 (decide (a < start)) rfl (fun h76 => ?_) (fun h76 => ?_)
       ·
        replace hR := of_true h76 hR
        have h76_ := of_decide_eq_true h76
        refine rvO C (.pv (.lit (.int .i64 start))) ?_
        refine rvO C (.pv (.lit (.int .i64 (IntKind.i64.wrap (shrI .u64 (IntKind.u64.wrap (IntKind.i64.wrap (a + b))) 1))))) ?_
        refine rvO C (.pv (.lit (.bool (decide (start < (IntKind.i64.wrap (shrI .u64 (IntKind.u64.wrap (IntKind.i64.wrap (a + b))) 1))))))) ?_
        refine rvP C (.pv (.lit (.bool (decide (start < (IntKind.i64.wrap (shrI .u64 (IntKind.u64.wrap (IntKind.i64.wrap (a + b))) 1))))))) ?_
        refine rvc_nil ?_
        refine Awp.cond (b := (decide (start < (IntKind.i64.wrap (shrI .u64 (IntKind.u64.wrap (IntKind.i64.wrap (a + b))) 1))))) rfl (fun h77 => ?_) (fun h77 => ?_)
        ·
         replace hR := of_true h77 hR
         have h77_ := of_decide_eq_true h77
         refine Awp.region C (fun _ => .writer) (by kernel_rfl) ?_
         refine rvP C (.sl 0 0 data.length 1 false) ?_
         refine rvP C (.pv (.lit (.int .i64 a))) ?_
         refine rvP C (.pv (.lit (.int .i64 start))) ?_
         refine rvP C (.pv (.lit (.int .i64 (IntKind.i64.wrap (shrI .u64 (IntKind.u64.wrap (IntKind.i64.wrap (a + b))) 1))))) ?_
         refine rvP C (.fn g4 [] caps4) ?_
         have he_ := wrapI ((IntKind.i64.wrap ((IntKind.i64.wrap (shrI .u64 (IntKind.u64.wrap (IntKind.i64.wrap (a + b))) 1)) + m)) - start) (by omega)
         refine rvc_un (rexec_callM hP C (b := 0) rfl rfl rfl (hrec (rotate data start m (IntKind.i64.wrap ((IntKind.i64.wrap ((IntKind.i64.wrap (shrI .u64 (IntKind.u64.wrap (IntKind.i64.wrap (a + b))) 1)) + m)) - start)) cmp) a start (IntKind.i64.wrap (shrI .u64 (IntKind.u64.wrap (IntKind.i64.wrap (a + b))) 1)) cmp g4 caps4 hp4 hw4 (by omega) (by omega) (by first | exact List.Perm.refl _ | exact rotate_perm (by omega) hL)) (by have hl_ : (rotate data start m (IntKind.i64.wrap ((IntKind.i64.wrap ((IntKind.i64.wrap (shrI .u64 (IntKind.u64.wrap (IntKind.i64.wrap (a + b))) 1)) + m)) - start)) cmp).length = data.length := (List.Perm.length_eq (by first | exact List.Perm.refl _ | exact rotate_perm (by omega) hL)); simp only [AV.renL, AV.ren, hl_, AV.renL_none _ hw4]) rfl ?_)
         refine rvc_nil ?_
         refine Awp.consP C ?_
         refine rvP C (.pv (.lit (.int .i64 (IntKind.i64.wrap (shrI .u64 (IntKind.u64.wrap (IntKind.i64.wrap (a + b))) 1))))) ?_
         refine rvP C (.pv (.lit (.int .i64 (IntKind.i64.wrap ((IntKind.i64.wrap ((IntKind.i64.wrap (shrI .u64 (IntKind.u64.wrap (IntKind.i64.wrap (a + b))) 1)) + m)) - start))))) ?_
         refine rvP C (.pv (.lit (.bool (decide ((IntKind.i64.wrap (shrI .u64 (IntKind.u64.wrap (IntKind.i64.wrap (a + b))) 1)) < (IntKind.i64.wrap ((IntKind.i64.wrap ((IntKind.i64.wrap (shrI .u64 (IntKind.u64.wrap (IntKind.i64.wrap (a + b))) 1)) + m)) - start))))))) ?_
         refine rvP C (.pv (.lit (.bool (decide ((IntKind.i64.wrap (shrI .u64 (IntKind.u64.wrap (IntKind.i64.wrap (a + b))) 1)) < (IntKind.i64.wrap ((IntKind.i64.wrap ((IntKind.i64.wrap (shrI .u64 (IntKind.u64.wrap (IntKind.i64.wrap (a + b))) 1)) + m)) - start))))))) ?_
         refine rvc_case 209 (decide ((IntKind.i64.wrap (shrI .u64 (IntKind.u64.wrap (IntKind.i64.wrap (a + b))) 1)) < (IntKind.i64.wrap ((IntKind.i64.wrap ((IntKind.i64.wrap (shrI .u64 (IntKind.u64.wrap (IntKind.i64.wrap (a + b))) 1)) + m)) - start)))) rfl (fun h78 => ?_) (fun h78 => ?_)
         ·
          replace hR := of_true h78 hR
          have h78_ := of_decide_eq_true h78
          refine rvO C (.pv (.lit (.int .i64 (IntKind.i64.wrap ((IntKind.i64.wrap ((IntKind.i64.wrap (shrI .u64 (IntKind.u64.wrap (IntKind.i64.wrap (a + b))) 1)) + m)) - start))))) ?_
          refine rvO C (.pv (.lit (.int .i64 b))) ?_
          refine rvO C (.pv (.lit (.bool (decide ((IntKind.i64.wrap ((IntKind.i64.wrap ((IntKind.i64.wrap (shrI .u64 (IntKind.u64.wrap (IntKind.i64.wrap (a + b))) 1)) + m)) - start)) < b))))) ?_
          refine rvP C (.pv (.lit (.bool (decide ((IntKind.i64.wrap ((IntKind.i64.wrap ((IntKind.i64.wrap (shrI .u64 (IntKind.u64.wrap (IntKind.i64.wrap (a + b))) 1)) + m)) - start)) < b))))) ?_
          refine rvc_nil ?_
          refine Awp.cond (b := (decide ((IntKind.i64.wrap ((IntKind.i64.wrap ((IntKind.i64.wrap (shrI .u64 (IntKind.u64.wrap (IntKind.i64.wrap (a + b))) 1)) + m)) - start)) < b))) rfl (fun h79 => ?_) (fun h79 => ?_)
          ·
           replace hR := of_true h79 hR
           have h79_ := of_decide_eq_true h79
           refine Awp.region C (fun _ => .writer) (by kernel_rfl) ?_
           refine rvP C (.sl 0 0 data.length 1 false) ?_
           refine rvP C (.pv (.lit (.int .i64 (IntKind.i64.wrap (shrI .u64 (IntKind.u64.wrap (IntKind.i64.wrap (a + b))) 1))))) ?_
           refine rvP C (.pv (.lit (.int .i64 (IntKind.i64.wrap ((IntKind.i64.wrap ((IntKind.i64.wrap (shrI .u64 (IntKind.u64.wrap (IntKind.i64.wrap (a + b))) 1)) + m)) - start))))) ?_
           refine rvP C (.pv (.lit (.int .i64 b))) ?_
           refine rvP C (.fn g4 [] caps4) ?_
           have he_ := wrapI ((IntKind.i64.wrap ((IntKind.i64.wrap (shrI .u64 (IntKind.u64.wrap (IntKind.i64.wrap (a + b))) 1)) + m)) - start) (by omega)
           refine rvc_un (rexec_callM hP C (b := 0) rfl rfl rfl (hrec (rec (rotate data start m (IntKind.i64.wrap ((IntKind.i64.wrap ((IntKind.i64.wrap (shrI .u64 (IntKind.u64.wrap (IntKind.i64.wrap (a + b))) 1)) + m)) - start)) cmp) a start (IntKind.i64.wrap (shrI .u64 (IntKind.u64.wrap (IntKind.i64.wrap (a + b))) 1)) cmp) (IntKind.i64.wrap (shrI .u64 (IntKind.u64.wrap (IntKind.i64.wrap (a + b))) 1)) (IntKind.i64.wrap ((IntKind.i64.wrap ((IntKind.i64.wrap (shrI .u64 (IntKind.u64.wrap (IntKind.i64.wrap (a + b))) 1)) + m)) - start)) b cmp g4 caps4 hp4 hw4 (by omega) (by omega) (by first | exact List.Perm.refl _ | exact rotate_perm (by omega) hL | exact hrp _ _ _ _ _ (by omega) (by omega) (List.Perm.refl _) | exact hrp _ _ _ _ _ (by omega) (by omega) (rotate_perm (by omega) hL))) (by have hl_ : (rec (rotate data start m (IntKind.i64.wrap ((IntKind.i64.wrap ((IntKind.i64.wrap (shrI .u64 (IntKind.u64.wrap (IntKind.i64.wrap (a + b))) 1)) + m)) - start)) cmp) a start (IntKind.i64.wrap (shrI .u64 (IntKind.u64.wrap (IntKind.i64.wrap (a + b))) 1)) cmp).length = data.length := (List.Perm.length_eq (by first | exact List.Perm.refl _ | exact rotate_perm (by omega) hL | exact hrp _ _ _ _ _ (by omega) (by omega) (List.Perm.refl _) | exact hrp _ _ _ _ _ (by omega) (by omega) (rotate_perm (by omega) hL))); simp only [AV.renL, AV.ren, hl_, AV.renL_none _ hw4]) rfl ?_)
           refine rvc_nil ?_
           subst hR
           exact ⟨.inr rfl, rfl, rfl⟩
          ·
           replace hR := of_false h79 hR
           have h79_ := of_decide_eq_false h79
           refine Awp.skip ?_
           subst hR
           exact ⟨.inr rfl, rfl, rfl⟩
         ·
          replace hR := of_false h78 hR
          have h78_ := of_decide_eq_false h78
          refine rvS ?_
          refine rvS ?_
          refine rvS ?_
          refine rvP C (.pv (.lit (.bool false))) ?_
          refine rvc_nil ?_
          refine Awp.condF (b := false) rfl rfl ?_
          refine Awp.skip ?_
          subst hR
          exact ⟨.inr rfl, rfl, rfl⟩
        ·
         replace hR := of_false h77 hR
         have h77_ := of_decide_eq_false h77
         refine Awp.skip ?_
         refine Awp.consP C ?_
         refine rvP C (.pv (.lit (.int .i64 (IntKind.i64.wrap (shrI .u64 (IntKind.u64.wrap (IntKind.i64.wrap (a + b))) 1))))) ?_
         refine rvP C (.pv (.lit (.int .i64 (IntKind.i64.wrap ((IntKind.i64.wrap ((IntKind.i64.wrap (shrI .u64 (IntKind.u64.wrap (IntKind.i64.wrap (a + b))) 1)) + m)) - start))))) ?_
         refine rvP C (.pv (.lit (.bool (decide ((IntKind.i64.wrap (shrI .u64 (IntKind.u64.wrap (IntKind.i64.wrap (a + b))) 1)) < (IntKind.i64.wrap ((IntKind.i64.wrap ((IntKind.i64.wrap (shrI .u64 (IntKind.u64.wrap (IntKind.i64.wrap (a + b))) 1)) + m)) - start))))))) ?_
         refine rvP C (.pv (.lit (.bool (decide ((IntKind.i64.wrap (shrI .u64 (IntKind.u64.wrap (IntKind.i64.wrap (a + b))) 1)) < (IntKind.i64.wrap ((IntKind.i64.wrap ((IntKind.i64.wrap (shrI .u64 (IntKind.u64.wrap (IntKind.i64.wrap (a + b))) 1)) + m)) - start))))))) ?_
         refine rvc_case 209 (decide ((IntKind.i64.wrap (shrI .u64 (IntKind.u64.wrap (IntKind.i64.wrap (a + b))) 1)) < (IntKind.i64.wrap ((IntKind.i64.wrap ((IntKind.i64.wrap (shrI .u64 (IntKind.u64.wrap (IntKind.i64.wrap (a + b))) 1)) + m)) - start)))) rfl (fun h80 => ?_) (fun h80 => ?_)
         ·
          replace hR := of_true h80 hR
          have h80_ := of_decide_eq_true h80
          refine rvO C (.pv (.lit (.int .i64 (IntKind.i64.wrap ((IntKind.i64.wrap ((IntKind.i64.wrap (shrI .u64 (IntKind.u64.wrap (IntKind.i64.wrap (a + b))) 1)) + m)) - start))))) ?_
          refine rvO C (.pv (.lit (.int .i64 b))) ?_
          refine rvO C (.pv (.lit (.bool (decide ((IntKind.i64.wrap ((IntKind.i64.wrap ((IntKind.i64.wrap (shrI .u64 (IntKind.u64.wrap (IntKind.i64.wrap (a + b))) 1)) + m)) - start)) < b))))) ?_
          refine rvP C (.pv (.lit (.bool (decide ((IntKind.i64.wrap ((IntKind.i64.wrap ((IntKind.i64.wrap (shrI .u64 (IntKind.u64.wrap (IntKind.i64.wrap (a + b))) 1)) + m)) - start)) < b))))) ?_
          refine rvc_nil ?_
          refine Awp.cond (b := (decide ((IntKind.i64.wrap ((IntKind.i64.wrap ((IntKind.i64.wrap (shrI .u64 (IntKind.u64.wrap (IntKind.i64.wrap (a + b))) 1)) + m)) - start)) < b))) rfl (fun h81 => ?_) (fun h81 => ?_)
          ·
           replace hR := of_true h81 hR
           have h81_ := of_decide_eq_true h81
           refine Awp.region C (fun _ => .writer) (by kernel_rfl) ?_
           refine rvP C (.sl 0 0 data.length 1 false) ?_
           refine rvP C (.pv (.lit (.int .i64 (IntKind.i64.wrap (shrI .u64 (IntKind.u64.wrap (IntKind.i64.wrap (a + b))) 1))))) ?_
           refine rvP C (.pv (.lit (.int .i64 (IntKind.i64.wrap ((IntKind.i64.wrap ((IntKind.i64.wrap (shrI .u64 (IntKind.u64.wrap (IntKind.i64.wrap (a + b))) 1)) + m)) - start))))) ?_
           refine rvP C (.pv (.lit (.int .i64 b))) ?_
           refine rvP C (.fn g4 [] caps4) ?_
           have he_ := wrapI ((IntKind.i64.wrap ((IntKind.i64.wrap (shrI .u64 (IntKind.u64.wrap (IntKind.i64.wrap (a + b))) 1)) + m)) - start) (by omega)
           refine rvc_un (rexec_callM hP C (b := 0) rfl rfl rfl (hrec (rotate data start m (IntKind.i64.wrap ((IntKind.i64.wrap ((IntKind.i64.wrap (shrI .u64 (IntKind.u64.wrap (IntKind.i64.wrap (a + b))) 1)) + m)) - start)) cmp) (IntKind.i64.wrap (shrI .u64 (IntKind.u64.wrap (IntKind.i64.wrap (a + b))) 1)) (IntKind.i64.wrap ((IntKind.i64.wrap ((IntKind.i64.wrap (shrI .u64 (IntKind.u64.wrap (IntKind.i64.wrap (a + b))) 1)) + m)) - start)) b cmp g4 caps4 hp4 hw4 (by omega) (by omega) (by first | exact List.Perm.refl _ | exact rotate_perm (by omega) hL | exact hrp _ _ _ _ _ (by omega) (by omega) (List.Perm.refl _) | exact hrp _ _ _ _ _ (by omega) (by omega) (rotate_perm (by omega) hL))) (by have hl_ : (rotate data start m (IntKind.i64.wrap ((IntKind.i64.wrap ((IntKind.i64.wrap (shrI .u64 (IntKind.u64.wrap (IntKind.i64.wrap (a + b))) 1)) + m)) - start)) cmp).length = data.length := (List.Perm.length_eq (by first | exact List.Perm.refl _ | exact rotate_perm (by omega) hL | exact hrp _ _ _ _ _ (by omega) (by omega) (List.Perm.refl _) | exact hrp _ _ _ _ _ (by omega) (by omega) (rotate_perm (by omega) hL))); simp only [AV.renL, AV.ren, hl_, AV.renL_none _ hw4]) rfl ?_)
           refine rvc_nil ?_
           subst hR
           exact ⟨.inr rfl, rfl, rfl⟩
          ·
           replace hR := of_false h81 hR
           have h81_ := of_decide_eq_false h81
           refine Awp.skip ?_
           subst hR
           exact ⟨.inr rfl, rfl, rfl⟩
         ·
          replace hR := of_false h80 hR
          have h80_ := of_decide_eq_false h80
          refine rvS ?_
          refine rvS ?_
          refine rvS ?_
          refine rvP C (.pv (.lit (.bool false))) ?_
          refine rvc_nil ?_
          refine Awp.condF (b := false) rfl rfl ?_
          refine Awp.skip ?_
          subst hR
          exact ⟨.inr rfl, rfl, rfl⟩
       ·
        replace hR := of_false h76 hR
        have h76_ := of_decide_eq_false h76
        refine rvS ?_
        refine rvS ?_
        refine rvS ?_
        refine rvP C (.pv (.lit (.bool false))) ?_
        refine rvc_nil ?_
        refine Awp.condF (b := false) rfl rfl ?_
        refine Awp.skip ?_
        refine Awp.consP C ?_
        refine rvP C (.pv (.lit (.int .i64 (IntKind.i64.wrap (shrI .u64 (IntKind.u64.wrap (IntKind.i64.wrap (a + b))) 1))))) ?_
        refine rvP C (.pv (.lit (.int .i64 (IntKind.i64.wrap ((IntKind.i64.wrap ((IntKind.i64.wrap (shrI .u64 (IntKind.u64.wrap (IntKind.i64.wrap (a + b))) 1)) + m)) - start))))) ?_
        refine rvP C (.pv (.lit (.bool (decide ((IntKind.i64.wrap (shrI .u64 (IntKind.u64.wrap (IntKind.i64.wrap (a + b))) 1)) < (IntKind.i64.wrap ((IntKind.i64.wrap ((IntKind.i64.wrap (shrI .u64 (IntKind.u64.wrap (IntKind.i64.wrap (a + b))) 1)) + m)) - start))))))) ?_
        refine rvP C (.pv (.lit (.bool (decide ((IntKind.i64.wrap (shrI .u64 (IntKind.u64.wrap (IntKind.i64.wrap (a + b))) 1)) < (IntKind.i64.wrap ((IntKind.i64.wrap ((IntKind.i64.wrap (shrI .u64 (IntKind.u64.wrap (IntKind.i64.wrap (a + b))) 1)) + m)) - start))))))) ?_
        refine rvc_case 209 (decide ((IntKind.i64.wrap (shrI .u64 (IntKind.u64.wrap (IntKind.i64.wrap (a + b))) 1)) < (IntKind.i64.wrap ((IntKind.i64.wrap ((IntKind.i64.wrap (shrI .u64 (IntKind.u64.wrap (IntKind.i64.wrap (a + b))) 1)) + m)) - start)))) rfl (fun h82 => ?_) (fun h82 => ?_)
        ·
         replace hR := of_true h82 hR
         have h82_ := of_decide_eq_true h82
         refine rvO C (.pv (.lit (.int .i64 (IntKind.i64.wrap ((IntKind.i64.wrap ((IntKind.i64.wrap (shrI .u64 (IntKind.u64.wrap (IntKind.i64.wrap (a + b))) 1)) + m)) - start))))) ?_
         refine rvO C (.pv (.lit (.int .i64 b))) ?_
         refine rvO C (.pv (.lit (.bool (decide ((IntKind.i64.wrap ((IntKind.i64.wrap ((IntKind.i64.wrap (shrI .u64 (IntKind.u64.wrap (IntKind.i64.wrap (a + b))) 1)) + m)) - start)) < b))))) ?_
         refine rvP C (.pv (.lit (.bool (decide ((IntKind.i64.wrap ((IntKind.i64.wrap ((IntKind.i64.wrap (shrI .u64 (IntKind.u64.wrap (IntKind.i64.wrap (a + b))) 1)) + m)) - start)) < b))))) ?_
         refine rvc_nil ?_
         refine Awp.cond (b := (decide ((IntKind.i64.wrap ((IntKind.i64.wrap ((IntKind.i64.wrap (shrI .u64 (IntKind.u64.wrap (IntKind.i64.wrap (a + b))) 1)) + m)) - start)) < b))) rfl (fun h83 => ?_) (fun h83 => ?_)
         ·
          replace hR := of_true h83 hR
          have h83_ := of_decide_eq_true h83
          refine Awp.region C (fun _ => .writer) (by kernel_rfl) ?_
          refine rvP C (.sl 0 0 data.length 1 false) ?_
          refine rvP C (.pv (.lit (.int .i64 (IntKind.i64.wrap (shrI .u64 (IntKind.u64.wrap (IntKind.i64.wrap (a + b))) 1))))) ?_
          refine rvP C (.pv (.lit (.int .i64 (IntKind.i64.wrap ((IntKind.i64.wrap ((IntKind.i64.wrap (shrI .u64 (IntKind.u64.wrap (IntKind.i64.wrap (a + b))) 1)) + m)) - start))))) ?_
          refine rvP C (.pv (.lit (.int .i64 b))) ?_
          refine rvP C (.fn g4 [] caps4) ?_
          have he_ := wrapI ((IntKind.i64.wrap ((IntKind.i64.wrap (shrI .u64 (IntKind.u64.wrap (IntKind.i64.wrap (a + b))) 1)) + m)) - start) (by omega)
          refine rvc_un (rexec_callM hP C (b := 0) rfl rfl rfl (hrec (rotate data start m (IntKind.i64.wrap ((IntKind.i64.wrap ((IntKind.i64.wrap (shrI .u64 (IntKind.u64.wrap (IntKind.i64.wrap (a + b))) 1)) + m)) - start)) cmp) (IntKind.i64.wrap (shrI .u64 (IntKind.u64.wrap (IntKind.i64.wrap (a + b))) 1)) (IntKind.i64.wrap ((IntKind.i64.wrap ((IntKind.i64.wrap (shrI .u64 (IntKind.u64.wrap (IntKind.i64.wrap (a + b))) 1)) + m)) - start)) b cmp g4 caps4 hp4 hw4 (by omega) (by omega) (by first | exact List.Perm.refl _ | exact rotate_perm (by omega) hL | exact hrp _ _ _ _ _ (by omega) (by omega) (List.Perm.refl _) | exact hrp _ _ _ _ _ (by omega) (by omega) (rotate_perm (by omega) hL))) (by have hl_ : (rotate data start m (IntKind.i64.wrap ((IntKind.i64.wrap ((IntKind.i64.wrap (shrI .u64 (IntKind.u64.wrap (IntKind.i64.wrap (a + b))) 1)) + m)) - start)) cmp).length = data.length := (List.Perm.length_eq (by first | exact List.Perm.refl _ | exact rotate_perm (by omega) hL | exact hrp _ _ _ _ _ (by omega) (by omega) (List.Perm.refl _) | exact hrp _ _ _ _ _ (by omega) (by omega) (rotate_perm (by omega) hL))); simp only [AV.renL, AV.ren, hl_, AV.renL_none _ hw4]) rfl ?_)
          refine rvc_nil ?_
          subst hR
          exact ⟨.inr rfl, rfl, rfl⟩
         ·
          replace hR := of_false h83 hR
          have h83_ := of_decide_eq_false h83
          refine Awp.skip ?_
          subst hR
          exact ⟨.inr rfl, rfl, rfl⟩
        ·
         replace hR := of_false h82 hR
         have h82_ := of_decide_eq_false h82
         refine rvS ?_
         refine rvS ?_
         refine rvS ?_
         refine rvP C (.pv (.lit (.bool false))) ?_
         refine rvc_nil ?_
         refine Awp.condF (b := false) rfl rfl ?_
         refine Awp.skip ?_
         subst hR
         exact ⟨.inr rfl, rfl, rfl⟩
      ·
       replace hR := of_false h75 hR
       have h75_ := of_decide_eq_false h75
       refine Awp.skip ?_
       refine Awp.seq ?_
       refine Awp.consP C ?_
       refine rvP C (.pv (.lit (.int .i64 a))) ?_
       refine rvP C (.pv (.lit (.int .i64 start))) ?_
       refine rvP C (.pv (.lit (.bool (decide (a < start))))) ?_
       refine rvP C (.pv (.lit (.bool (decide (a < start))))) ?_
       refine rvc_case 195 (decide (a < start)) rfl (fun h84 => ?_) (fun h84 => ?_)
       ·
        replace hR := of_true h84 hR
        have h84_ := of_decide_eq_true h84
        refine rvO C (.pv (.lit (.int .i64 start))) ?_
        refine rvO C (.pv (.lit (.int .i64 (IntKind.i64.wrap (shrI .u64 (IntKind.u64.wrap (IntKind.i64.wrap (a + b))) 1))))) ?_
        refine rvO C (.pv (.lit (.bool (decide (start < (IntKind.i64.wrap (shrI .u64 (IntKind.u64.wrap (IntKind.i64.wrap (a + b))) 1))))))) ?_
        refine rvP C (.pv (.lit (.bool (decide (start < (IntKind.i64.wrap (shrI .u64 (IntKind.u64.wrap (IntKind.i64.wrap (a + b))) 1))))))) ?_
        refine rvc_nil ?_
        refine Awp.cond (b := (decide (start < (IntKind.i64.wrap (shrI .u64 (IntKind.u64.wrap (IntKind.i64.wrap (a + b))) 1))))) rfl (fun h85 => ?_) (fun h85 => ?_)
        ·
         replace hR := of_true h85 hR
         have h85_ := of_decide_eq_true h85
         refine Awp.region C (fun _ => .writer) (by kernel_rfl) ?_
         refine rvP C (.sl 0 0 data.length 1 false) ?_
         refine rvP C (.pv (.lit (.int .i64 a))) ?_
         refine rvP C (.pv (.lit (.int .i64 start))) ?_
         refine rvP C (.pv (.lit (.int .i64 (IntKind.i64.wrap (shrI .u64 (IntKind.u64.wrap (IntKind.i64.wrap (a + b))) 1))))) ?_
         refine rvP C (.fn g4 [] caps4) ?_
         have he_ := wrapI ((IntKind.i64.wrap ((IntKind.i64.wrap (shrI .u64 (IntKind.u64.wrap (IntKind.i64.wrap (a + b))) 1)) + m)) - start) (by omega)
         refine rvc_un (rexec_callM hP C (b := 0) rfl rfl rfl (hrec data a start (IntKind.i64.wrap (shrI .u64 (IntKind.u64.wrap (IntKind.i64.wrap (a + b))) 1)) cmp g4 caps4 hp4 hw4 (by omega) (by omega) (by first | exact List.Perm.refl _ | exact rotate_perm (by omega) hL)) (by simp only [AV.renL, AV.ren, AV.renL_none _ hw4]) rfl ?_)
         refine rvc_nil ?_
         refine Awp.consP C ?_
         refine rvP C (.pv (.lit (.int .i64 (IntKind.i64.wrap (shrI .u64 (IntKind.u64.wrap (IntKind.i64.wrap (a + b))) 1))))) ?_
         refine rvP C (.pv (.lit (.int .i64 (IntKind.i64.wrap ((IntKind.i64.wrap ((IntKind.i64.wrap (shrI .u64 (IntKind.u64.wrap (IntKind.i64.wrap (a + b))) 1)) + m)) - start))))) ?_
         refine rvP C (.pv (.lit (.bool (decide ((IntKind.i64.wrap (shrI .u64 (IntKind.u64.wrap (IntKind.i64.wrap (a + b))) 1)) < (IntKind.i64.wrap ((IntKind.i64.wrap ((IntKind.i64.wrap (shrI .u64 (IntKind.u64.wrap (IntKind.i64.wrap (a + b))) 1)) + m)) - start))))))) ?_
         refine rvP C (.pv (.lit (.bool (decide ((IntKind.i64.wrap (shrI .u64 (IntKind.u64.wrap (IntKind.i64.wrap (a + b))) 1)) < (IntKind.i64.wrap ((IntKind.i64.wrap ((IntKind.i64.wrap (shrI .u64 (IntKind.u64.wrap (IntKind.i64.wrap (a + b))) 1)) + m)) - start))))))) ?_
         refine rvc_case 209 (decide ((IntKind.i64.wrap (shrI .u64 (IntKind.u64.wrap (IntKind.i64.wrap (a + b))) 1)) < (IntKind.i64.wrap ((IntKind.i64.wrap ((IntKind.i64.wrap (shrI .u64 (IntKind.u64.wrap (IntKind.i64.wrap (a + b))) 1)) + m)) - start)))) rfl (fun h86 => ?_) (fun h86 => ?_)
         ·
          replace hR := of_true h86 hR
          have h86_ := of_decide_eq_true h86
          refine rvO C (.pv (.lit (.int .i64 (IntKind.i64.wrap ((IntKind.i64.wrap ((IntKind.i64.wrap (shrI .u64 (IntKind.u64.wrap (IntKind.i64.wrap (a + b))) 1)) + m)) - start))))) ?_
          refine rvO C (.pv (.lit (.int .i64 b))) ?_
          refine rvO C (.pv (.lit (.bool (decide ((IntKind.i64.wrap ((IntKind.i64.wrap ((IntKind.i64.wrap (shrI .u64 (IntKind.u64.wrap (IntKind.i64.wrap (a + b))) 1)) + m)) - start)) < b))))) ?_
          refine rvP C (.pv (.lit (.bool (decide ((IntKind.i64.wrap ((IntKind.i64.wrap ((IntKind.i64.wrap (shrI .u64 (IntKind.u64.wrap (IntKind.i64.wrap (a + b))) 1)) + m)) - start)) < b))))) ?_
          refine rvc_nil ?_
          refine Awp.cond (b := (decide ((IntKind.i64.wrap ((IntKind.i64.wrap ((IntKind.i64.wrap (shrI .u64 (IntKind.u64.wrap (IntKind.i64.wrap (a + b))) 1)) + m)) - start)) < b))) rfl (fun h87 => ?_) (fun h87 => ?_)
          ·
           replace hR := of_true h87 hR
           have h87_ := of_decide_eq_true h87
           refine Awp.region C (fun _ => .writer) (by kernel_rfl) ?_
           refine rvP C (.sl 0 0 data.length 1 false) ?_
           refine rvP C (.pv (.lit (.int .i64 (IntKind.i64.wrap (shrI .u64 (IntKind.u64.wrap (IntKind.i64.wrap (a + b))) 1))))) ?_
           refine rvP C (.pv (.lit (.int .i64 (IntKind.i64.wrap ((IntKind.i64.wrap ((IntKind.i64.wrap (shrI .u64 (IntKind.u64.wrap (IntKind.i64.wrap (a + b))) 1)) + m)) - start))))) ?_
           refine rvP C (.pv (.lit (.int .i64 b))) ?_
           refine rvP C (.fn g4 [] caps4) ?_
           have he_ := wrapI ((IntKind.i64.wrap ((IntKind.i64.wrap (shrI .u64 (IntKind.u64.wrap (IntKind.i64.wrap (a + b))) 1)) + m)) - start) (by omega)
           refine rvc_un (rexec_callM hP C (b := 0) rfl rfl rfl (hrec (rec data a start (IntKind.i64.wrap (shrI .u64 (IntKind.u64.wrap (IntKind.i64.wrap (a + b))) 1)) cmp) (IntKind.i64.wrap (shrI .u64 (IntKind.u64.wrap (IntKind.i64.wrap (a + b))) 1)) (IntKind.i64.wrap ((IntKind.i64.wrap ((IntKind.i64.wrap (shrI .u64 (IntKind.u64.wrap (IntKind.i64.wrap (a + b))) 1)) + m)) - start)) b cmp g4 caps4 hp4 hw4 (by omega) (by omega) (by first | exact List.Perm.refl _ | exact rotate_perm (by omega) hL | exact hrp _ _ _ _ _ (by omega) (by omega) (List.Perm.refl _) | exact hrp _ _ _ _ _ (by omega) (by omega) (rotate_perm (by omega) hL))) (by have hl_ : (rec data a start (IntKind.i64.wrap (shrI .u64 (IntKind.u64.wrap (IntKind.i64.wrap (a + b))) 1)) cmp).length = data.length := (List.Perm.length_eq (by first | exact List.Perm.refl _ | exact rotate_perm (by omega) hL | exact hrp _ _ _ _ _ (by omega) (by omega) (List.Perm.refl _) | exact hrp _ _ _ _ _ (by omega) (by omega) (rotate_perm (by omega) hL))); simp only [AV.renL, AV.ren, hl_, AV.renL_none _ hw4]) rfl ?_)
           refine rvc_nil ?_
           subst hR
           exact ⟨.inr rfl, rfl, rfl⟩
          ·
           replace hR := of_false h87 hR
           have h87_ := of_decide_eq_false h87
           refine Awp.skip ?_
           subst hR
           exact ⟨.inr rfl, rfl, rfl⟩
         ·
          replace hR := of_false h86 hR
          have h86_ := of_decide_eq_false h86
          refine rvS ?_
          refine rvS ?_
          refine rvS ?_
          refine rvP C (.pv (.lit (.bool false))) ?_
          refine rvc_nil ?_
          refine Awp.condF (b := false) rfl rfl ?_
          refine Awp.skip ?_
          subst hR
          exact ⟨.inr rfl, rfl, rfl⟩
        ·
         replace hR := of_false h85 hR
         have h85_ := of_decide_eq_false h85
         refine Awp.skip ?_
         refine Awp.consP C ?_
         refine rvP C (.pv (.lit (.int .i64 (IntKind.i64.wrap (shrI .u64 (IntKind.u64.wrap (IntKind.i64.wrap (a + b))) 1))))) ?_
         refine rvP C (.pv (.lit (.int .i64 (IntKind.i64.wrap ((IntKind.i64.wrap ((IntKind.i64.wrap (shrI .u64 (IntKind.u64.wrap (IntKind.i64.wrap (a + b))) 1)) + m)) - start))))) ?_
         refine rvP C (.pv (.lit (.bool (decide ((IntKind.i64.wrap (shrI .u64 (IntKind.u64.wrap (IntKind.i64.wrap (a + b))) 1)) < (IntKind.i64.wrap ((IntKind.i64.wrap ((IntKind.i64.wrap (shrI .u64 (IntKind.u64.wrap (IntKind.i64.wrap (a + b))) 1)) + m)) - start))))))) ?_
         refine rvP C (.pv (.lit (.bool (decide ((IntKind.i64.wrap (shrI .u64 (IntKind.u64.wrap (IntKind.i64.wrap (a + b))) 1)) < (IntKind.i64.wrap ((IntKind.i64.wrap ((IntKind.i64.wrap (shrI .u64 (IntKind.u64.wrap (IntKind.i64.wrap (a + b))) 1)) + m)) - start))))))) ?_
         refine rvc_case 209 (decide ((IntKind.i64.wrap (shrI .u64 (IntKind.u64.wrap (IntKind.i64.wrap (a + b))) 1)) < (IntKind.i64.wrap ((IntKind.i64.wrap ((IntKind.i64.wrap (shrI .u64 (IntKind.u64.wrap (IntKind.i64.wrap (a + b))) 1)) + m)) - start)))) rfl (fun h88 => ?_) (fun h88 => ?_)
         ·
          replace hR := of_true h88 hR
          have h88_ := of_decide_eq_true h88
          refine rvO C (.pv (.lit (.int .i64 (IntKind.i64.wrap ((IntKind.i64.wrap ((IntKind.i64.wrap (shrI .u64 (IntKind.u64.wrap (IntKind.i64.wrap (a + b))) 1)) + m)) - start))))) ?_
          refine rvO C (.pv (.lit (.int .i64 b))) ?_
          refine rvO C (.pv (.lit (.bool (decide ((IntKind.i64.wrap ((IntKind.i64.wrap ((IntKind.i64.wrap (shrI .u64 (IntKind.u64.wrap (IntKind.i64.wrap (a + b))) 1)) + m)) - start)) < b))))) ?_
          refine rvP C (.pv (.lit (.bool (decide ((IntKind.i64.wrap ((IntKind.i64.wrap ((IntKind.i64.wrap (shrI .u64 (IntKind.u64.wrap (IntKind.i64.wrap (a + b))) 1)) + m)) - start)) < b))))) ?_
          refine rvc_nil ?_
          refine Awp.cond (b := (decide ((IntKind.i64.wrap ((IntKind.i64.wrap ((IntKind.i64.wrap (shrI .u64 (IntKind.u64.wrap (IntKind.i64.wrap (a + b))) 1)) + m)) - start)) < b))) rfl (fun h89 => ?_) (fun h89 => ?_)
          ·
           replace hR := of_true h89 hR
           have h89_ := of_decide_eq_true h89
           refine Awp.region C (fun _ => .writer) (by kernel_rfl) ?_
           refine rvP C (.sl 0 0 data.length 1 false) ?_
           refine rvP C (.pv (.lit (.int .i64 (IntKind.i64.wrap (shrI .u64 (IntKind.u64.wrap (IntKind.i64.wrap (a + b))) 1))))) ?_
           refine rvP C (.pv (.lit (.int .i64 (IntKind.i64.wrap ((IntKind.i64.wrap ((IntKind.i64.wrap (shrI .u64 (IntKind.u64.wrap (IntKind.i64.wrap (a + b))) 1)) + m)) - start))))) ?_
           refine rvP C (.pv (.lit (.int .i64 b))) ?_
           refine rvP C (.fn g4 [] caps4) ?_
           have he_ := wrapI ((IntKind.i64.wrap ((IntKind.i64.wrap (shrI .u64 (IntKind.u64.wrap (IntKind.i64.wrap (a + b))) 1)) + m)) - start) (by omega)
           refine rvc_un (rexec_callM hP C (b := 0) rfl rfl rfl (hrec data (IntKind.i64.wrap (shrI .u64 (IntKind.u64.wrap (IntKind.i64.wrap (a + b))) 1)) (IntKind.i64.wrap ((IntKind.i64.wrap ((IntKind.i64.wrap (shrI .u64 (IntKind.u64.wrap (IntKind.i64.wrap (a + b))) 1)) + m)) - start)) b cmp g4 caps4 hp4 hw4 (by omega) (by omega) (by first | exact List.Perm.refl _ | exact rotate_perm (by omega) hL | exact hrp _ _ _ _ _ (by omega) (by omega) (List.Perm.refl _) | exact hrp _ _ _ _ _ (by omega) (by omega) (rotate_perm (by omega) hL))) (by simp only [AV.renL, AV.ren, AV.renL_none _ hw4]) rfl ?_)
           refine rvc_nil ?_
           subst hR
           exact ⟨.inr rfl, rfl, rfl⟩
          ·
           replace hR := of_false h89 hR
           have h89_ := of_decide_eq_false h89
           refine Awp.skip ?_
           subst hR
           exact ⟨.inr rfl, rfl, rfl⟩
         ·
          replace hR := of_false h88 hR
          have h88_ := of_decide_eq_false h88
          refine rvS ?_
          refine rvS ?_
          refine rvS ?_
          refine rvP C (.pv (.lit (.bool false))) ?_
          refine rvc_nil ?_
          refine Awp.condF (b := false) rfl rfl ?_
          refine Awp.skip ?_
          subst hR
          exact ⟨.inr rfl, rfl, rfl⟩
       ·
        replace hR := of_false h84 hR
        have h84_ := of_decide_eq_false h84
        refine rvS ?_
        refine rvS ?_
        refine rvS ?_
        refine rvP C (.pv (.lit (.bool false))) ?_
        refine rvc_nil ?_
        refine Awp.condF (b := false) rfl rfl ?_
        refine Awp.skip ?_
        refine Awp.consP C ?_
        refine rvP C (.pv (.lit (.int .i64 (IntKind.i64.wrap (shrI .u64 (IntKind.u64.wrap (IntKind.i64.wrap (a + b))) 1))))) ?_
        refine rvP C (.pv (.lit (.int .i64 (IntKind.i64.wrap ((IntKind.i64.wrap ((IntKind.i64.wrap (shrI .u64 (IntKind.u64.wrap (IntKind.i64.wrap (a + b))) 1)) + m)) - start))))) ?_
        refine rvP C (.pv (.lit (.bool (decide ((IntKind.i64.wrap (shrI .u64 (IntKind.u64.wrap (IntKind.i64.wrap (a + b))) 1)) < (IntKind.i64.wrap ((IntKind.i64.wrap ((IntKind.i64.wrap (shrI .u64 (IntKind.u64.wrap (IntKind.i64.wrap (a + b))) 1)) + m)) - start))))))) ?_
        refine rvP C (.pv (.lit (.bool (decide ((IntKind.i64.wrap (shrI .u64 (IntKind.u64.wrap (IntKind.i64.wrap (a + b))) 1)) < (IntKind.i64.wrap ((IntKind.i64.wrap ((IntKind.i64.wrap (shrI .u64 (IntKind.u64.wrap (IntKind.i64.wrap (a + b))) 1)) + m)) - start))))))) ?_
        refine rvc_case 209 (decide ((IntKind.i64.wrap (shrI .u64 (IntKind.u64.wrap (IntKind.i64.wrap (a + b))) 1)) < (IntKind.i64.wrap ((IntKind.i64.wrap ((IntKind.i64.wrap (shrI .u64 (IntKind.u64.wrap (IntKind.i64.wrap (a + b))) 1)) + m)) - start)))) rfl (fun h90 => ?_) (fun h90 => ?_)
        ·
         replace hR := of_true h90 hR
         have h90_ := of_decide_eq_true h90
         refine rvO C (.pv (.lit (.int .i64 (IntKind.i64.wrap ((IntKind.i64.wrap ((IntKind.i64.wrap (shrI .u64 (IntKind.u64.wrap (IntKind.i64.wrap (a + b))) 1)) + m)) - start))))) ?_
         refine rvO C (.pv (.lit (.int .i64 b))) ?_
         refine rvO C (.pv (.lit (.bool (decide ((IntKind.i64.wrap ((IntKind.i64.wrap ((IntKind.i64.wrap (shrI .u64 (IntKind.u64.wrap (IntKind.i64.wrap (a + b))) 1)) + m)) - start)) < b))))) ?_
         refine rvP C (.pv (.lit (.bool (decide ((IntKind.i64.wrap ((IntKind.i64.wrap ((IntKind.i64.wrap (shrI .u64 (IntKind.u64.wrap (IntKind.i64.wrap (a + b))) 1)) + m)) - start)) < b))))) ?_
         refine rvc_nil ?_
         refine Awp.cond (b := (decide ((IntKind.i64.wrap ((IntKind.i64.wrap ((IntKind.i64.wrap (shrI .u64 (IntKind.u64.wrap (IntKind.i64.wrap (a + b))) 1)) + m)) - start)) < b))) rfl (fun h91 => ?_) (fun h91 => ?_)
         ·
          replace hR := of_true h91 hR
          have h91_ := of_decide_eq_true h91
          refine Awp.region C (fun _ => .writer) (by kernel_rfl) ?_
          refine rvP C (.sl 0 0 data.length 1 false) ?_
          refine rvP C (.pv (.lit (.int .i64 (IntKind.i64.wrap (shrI .u64 (IntKind.u64.wrap (IntKind.i64.wrap (a + b))) 1))))) ?_
          refine rvP C (.pv (.lit (.int .i64 (IntKind.i64.wrap ((IntKind.i64.wrap ((IntKind.i64.wrap (shrI .u64 (IntKind.u64.wrap (IntKind.i64.wrap (a + b))) 1)) + m)) - start))))) ?_
          refine rvP C (.pv (.lit (.int .i64 b))) ?_
          refine rvP C (.fn g4 [] caps4) ?_
          have he_ := wrapI ((IntKind.i64.wrap ((IntKind.i64.wrap (shrI .u64 (IntKind.u64.wrap (IntKind.i64.wrap (a + b))) 1)) + m)) - start) (by omega)
          refine rvc_un (rexec_callM hP C (b := 0) rfl rfl rfl (hrec data (IntKind.i64.wrap (shrI .u64 (IntKind.u64.wrap (IntKind.i64.wrap (a + b))) 1)) (IntKind.i64.wrap ((IntKind.i64.wrap ((IntKind.i64.wrap (shrI .u64 (IntKind.u64.wrap (IntKind.i64.wrap (a + b))) 1)) + m)) - start)) b cmp g4 caps4 hp4 hw4 (by omega) (by omega) (by first | exact List.Perm.refl _ | exact rotate_perm (by omega) hL | exact hrp _ _ _ _ _ (by omega) (by omega) (List.Perm.refl _) | exact hrp _ _ _ _ _ (by omega) (by omega) (rotate_perm (by omega) hL))) (by simp only [AV.renL, AV.ren, AV.renL_none _ hw4]) rfl ?_)
          refine rvc_nil ?_
          subst hR
          exact ⟨.inr rfl, rfl, rfl⟩
         ·
          replace hR := of_false h91 hR
          have h91_ := of_decide_eq_false h91
          refine Awp.skip ?_
          subst hR
          exact ⟨.inr rfl, rfl, rfl⟩
        ·
         replace hR := of_false h90 hR
         have h90_ := of_decide_eq_false h90
         refine rvS ?_
         refine rvS ?_
         refine rvS ?_
         refine rvP C (.pv (.lit (.bool false))) ?_
         refine rvc_nil ?_
         refine Awp.condF (b := false) rfl rfl ?_
         refine Awp.skip ?_
         subst hR
         exact ⟨.inr rfl, rfl, rfl⟩
     ·
      replace hR := of_false h74 hR
      have h74_ := of_decide_eq_false h74
      refine rvS ?_
      refine rvS ?_
      refine rvS ?_
      refine rvP C (.pv (.lit (.bool false))) ?_
      refine rvc_nil ?_
      refine Awp.condF (b := false) rfl rfl ?_
      refine Awp.skip ?_
      refine Awp.seq ?_
      refine Awp.consP C ?_
      refine rvP C (.pv (.lit (.int .i64 a))) ?_
      refine rvP C (.pv (.lit (.int .i64 start))) ?_
      refine rvP C (.pv (.lit (.bool (decide (a < start))))) ?_
      refine rvP C (.pv (.lit (.bool (decide (a < start))))) ?_
      refine rvc_case 195 (decide (a < start)) rfl (fun h92 => ?_) (fun h92 => ?_)
      ·
       replace hR := of_true h92 hR
       have h92_ := of_decide_eq_true h92
       refine rvO C (.pv (.lit (.int .i64 start))) ?_
       refine rvO C (.pv (.lit (.int .i64 (IntKind.i64.wrap (shrI .u64 (IntKind.u64.wrap (IntKind.i64.wrap (a + b))) 1))))) ?_
       refine rvO C (.pv (.lit (.bool (decide (start < (IntKind.i64.wrap (shrI .u64 (IntKind.u64.wrap (IntKind.i64.wrap (a + b))) 1))))))) ?_
       refine rvP C (.pv (.lit (.bool (decide (start < (IntKind.i64.wrap (shrI .u64 (IntKind.u64.wrap (IntKind.i64.wrap (a + b))) 1))))))) ?_
       refine rvc_nil ?_
       refine Awp.cond (b := (decide (start < (IntKind.i64.wrap (shrI .u64 (IntKind.u64.wrap (IntKind.i64.wrap (a + b))) 1))))) rfl (fun h93 => ?_) (fun h93 => ?_)
       ·
        replace hR := of_true h93 hR
        have h93_ := of_decide_eq_true h93
        refine Awp.region C (fun _ => .writer) (by kernel_rfl) ?_
        refine rvP C (.sl 0 0 data.length 1 false) ?_
        refine rvP C (.pv (.lit (.int .i64 a))) ?_
        refine rvP C (.pv (.lit (.int .i64 start))) ?_
        refine rvP C (.pv (.lit (.int .i64 (IntKind.i64.wrap (shrI .u64 (IntKind.u64.wrap (IntKind.i64.wrap (a + b))) 1))))) ?_
        refine rvP C (.fn g4 [] caps4) ?_
        have he_ := wrapI ((IntKind.i64.wrap ((IntKind.i64.wrap (shrI .u64 (IntKind.u64.wrap (IntKind.i64.wrap (a + b))) 1)) + m)) - start) (by omega)
        refine rvc_un (rexec_callM hP C (b := 0) rfl rfl rfl (hrec data a start (IntKind.i64.wrap (shrI .u64 (IntKind.u64.wrap (IntKind.i64.wrap (a + b))) 1)) cmp g4 caps4 hp4 hw4 (by omega) (by omega) (by first | exact List.Perm.refl _ | exact rotate_perm (by omega) hL)) (by simp only [AV.renL, AV.ren, AV.renL_none _ hw4]) rfl ?_)
        refine rvc_nil ?_
        refine Awp.consP C ?_
        refine rvP C (.pv (.lit (.int .i64 (IntKind.i64.wrap (shrI .u64 (IntKind.u64.wrap (IntKind.i64.wrap (a + b))) 1))))) ?_
        refine rvP C (.pv (.lit (.int .i64 (IntKind.i64.wrap ((IntKind.i64.wrap ((IntKind.i64.wrap (shrI .u64 (IntKind.u64.wrap (IntKind.i64.wrap (a + b))) 1)) + m)) - start))))) ?_
        refine rvP C (.pv (.lit (.bool (decide ((IntKind.i64.wrap (shrI .u64 (IntKind.u64.wrap (IntKind.i64.wrap (a + b))) 1)) < (IntKind.i64.wrap ((IntKind.i64.wrap ((IntKind.i64.wrap (shrI .u64 (IntKind.u64.wrap (IntKind.i64.wrap (a + b))) 1)) + m)) - start))))))) ?_
        refine rvP C (.pv (.lit (.bool (decide ((IntKind.i64.wrap (shrI .u64 (IntKind.u64.wrap (IntKind.i64.wrap (a + b))) 1)) < (IntKind.i64.wrap ((IntKind.i64.wrap ((IntKind.i64.wrap (shrI .u64 (IntKind.u64.wrap (IntKind.i64.wrap (a + b))) 1)) + m)) - start))))))) ?_
        refine rvc_case 209 (decide ((IntKind.i64.wrap (shrI .u64 (IntKind.u64.wrap (IntKind.i64.wrap (a + b))) 1)) < (IntKind.i64.wrap ((IntKind.i64.wrap ((IntKind.i64.wrap (shrI .u64 (IntKind.u64.wrap (IntKind.i64.wrap (a + b))) 1)) + m)) - start)))) rfl (fun h94 => ?_) (fun h94 => ?_)
        ·
         replace hR := of_true h94 hR
         have h94_ := of_decide_eq_true h94
         refine rvO C (.pv (.lit (.int .i64 (IntKind.i64.wrap ((IntKind.i64.wrap ((IntKind.i64.wrap (shrI .u64 (IntKind.u64.wrap (IntKind.i64.wrap (a + b))) 1)) + m)) - start))))) ?_
         refine rvO C (.pv (.lit (.int .i64 b))) ?_
         refine rvO C (.pv (.lit (.bool (decide ((IntKind.i64.wrap ((IntKind.i64.wrap ((IntKind.i64.wrap (shrI .u64 (IntKind.u64.wrap (IntKind.i64.wrap (a + b))) 1)) + m)) - start)) < b))))) ?_
         refine rvP C (.pv (.lit (.bool (decide ((IntKind.i64.wrap ((IntKind.i64.wrap ((IntKind.i64.wrap (shrI .u64 (IntKind.u64.wrap (IntKind.i64.wrap (a + b))) 1)) + m)) - start)) < b))))) ?_
         refine rvc_nil ?_
         refine Awp.cond (b := (decide ((IntKind.i64.wrap ((IntKind.i64.wrap ((IntKind.i64.wrap (shrI .u64 (IntKind.u64.wrap (IntKind.i64.wrap (a + b))) 1)) + m)) - start)) < b))) rfl (fun h95 => ?_) (fun h95 => ?_)
         ·
          replace hR := of_true h95 hR
          have h95_ := of_decide_eq_true h95
          refine Awp.region C (fun _ => .writer) (by kernel_rfl) ?_
          refine rvP C (.sl 0 0 data.length 1 false) ?_
          refine rvP C (.pv (.lit (.int .i64 (IntKind.i64.wrap (shrI .u64 (IntKind.u64.wrap (IntKind.i64.wrap (a + b))) 1))))) ?_
          refine rvP C (.pv (.lit (.int .i64 (IntKind.i64.wrap ((IntKind.i64.wrap ((IntKind.i64.wrap (shrI .u64 (IntKind.u64.wrap (IntKind.i64.wrap (a + b))) 1)) + m)) - start))))) ?_
          refine rvP C (.pv (.lit (.int .i64 b))) ?_
          refine rvP C (.fn g4 [] caps4) ?_
          have he_ := wrapI ((IntKind.i64.wrap ((IntKind.i64.wrap (shrI .u64 (IntKind.u64.wrap (IntKind.i64.wrap (a + b))) 1)) + m)) - start) (by omega)
          refine rvc_un (rexec_callM hP C (b := 0) rfl rfl rfl (hrec (rec data a start (IntKind.i64.wrap (shrI .u64 (IntKind.u64.wrap (IntKind.i64.wrap (a + b))) 1)) cmp) (IntKind.i64.wrap (shrI .u64 (IntKind.u64.wrap (IntKind.i64.wrap (a + b))) 1)) (IntKind.i64.wrap ((IntKind.i64.wrap ((IntKind.i64.wrap (shrI .u64 (IntKind.u64.wrap (IntKind.i64.wrap (a + b))) 1)) + m)) - start)) b cmp g4 caps4 hp4 hw4 (by omega) (by omega) (by first | exact List.Perm.refl _ | exact rotate_perm (by omega) hL | exact hrp _ _ _ _ _ (by omega) (by omega) (List.Perm.refl _) | exact hrp _ _ _ _ _ (by omega) (by omega) (rotate_perm (by omega) hL))) (by have hl_ : (rec data a start (IntKind.i64.wrap (shrI .u64 (IntKind.u64.wrap (IntKind.i64.wrap (a + b))) 1)) cmp).length = data.length := (List.Perm.length_eq (by first | exact List.Perm.refl _ | exact rotate_perm (by omega) hL | exact hrp _ _ _ _ _ (by omega) (by omega) (List.Perm.refl _) | exact hrp _ _ _ _ _ (by omega) (by omega) (rotate_perm (by omega) hL))); simp only [AV.renL, AV.ren, hl_, AV.renL_none _ hw4]) rfl ?_)
          refine rvc_nil ?_
          subst hR
          exact ⟨.inr rfl, rfl, rfl⟩
         ·
          replace hR := of_false h95 hR
          have h95_ := of_decide_eq_false h95
          refine Awp.skip ?_
          subst hR
          exact ⟨.inr rfl, rfl, rfl⟩
        ·
         replace hR := of_false h94 hR
         have h94_ := of_decide_eq_false h94
         refine rvS ?_
         refine rvS ?_
         refine rvS ?_
         refine rvP C (.pv (.lit (.bool false))) ?_
         refine rvc_nil ?_
         refine Awp.condF (b := false) rfl rfl ?_
         refine Awp.skip ?_
         subst hR
         exact ⟨.inr rfl, rfl, rfl⟩
       ·
        replace hR := of_false h93 hR
        have h93_ := of_decide_eq_false h93
        refine Awp.skip ?_
        refine Awp.consP C ?_
        refine rvP C (.pv (.lit (.int .i64 (IntKind.i64.wrap (shrI .u64 (IntKind.u64.wrap (IntKind.i64.wrap (a + b))) 1))))) ?_
        refine rvP C (.pv (.lit (.int .i64 (IntKind.i64.wrap ((IntKind.i64.wrap ((IntKind.i64.wrap (shrI .u64 (IntKind.u64.wrap (IntKind.i64.wrap (a + b))) 1)) + m)) - start))))) ?_
        refine rvP C (.pv (.lit (.bool (decide ((IntKind.i64.wrap (shrI .u64 (IntKind.u64.wrap (IntKind.i64.wrap (a + b))) 1)) < (IntKind.i64.wrap ((IntKind.i64.wrap ((IntKind.i64.wrap (shrI .u64 (IntKind.u64.wrap (IntKind.i64.wrap (a + b))) 1)) + m)) - start))))))) ?_
        refine rvP C (.pv (.lit (.bool (decide ((IntKind.i64.wrap (shrI .u64 (IntKind.u64.wrap (IntKind.i64.wrap (a + b))) 1)) < (IntKind.i64.wrap ((IntKind.i64.wrap ((IntKind.i64.wrap (shrI .u64 (IntKind.u64.wrap (IntKind.i64.wrap (a + b))) 1)) + m)) - start))))))) ?_
        refine rvc_case 209 (decide ((IntKind.i64.wrap (shrI .u64 (IntKind.u64.wrap (IntKind.i64.wrap (a + b))) 1)) < (IntKind.i64.wrap ((IntKind.i64.wrap ((IntKind.i64.wrap (shrI .u64 (IntKind.u64.wrap (IntKind.i64.wrap (a + b))) 1)) + m)) - start)))) rfl (fun h96 => ?_) (fun h96 => ?_)
        ·
         replace hR := of_true h96 hR
         have h96_ := of_decide_eq_true h96
         refine rvO C (.pv (.lit (.int .i64 (IntKind.i64.wrap ((IntKind.i64.wrap ((IntKind.i64.wrap (shrI .u64 (IntKind.u64.wrap (IntKind.i64.wrap (a + b))) 1)) + m)) - start))))) ?_
         refine rvO C (.pv (.lit (.int .i64 b))) ?_
         refine rvO C (.pv (.lit (.bool (decide ((IntKind.i64.wrap ((IntKind.i64.wrap ((IntKind.i64.wrap (shrI .u64 (IntKind.u64.wrap (IntKind.i64.wrap (a + b))) 1)) + m)) - start)) < b))))) ?_
         refine rvP C (.pv (.lit (.bool (decide ((IntKind.i64.wrap ((IntKind.i64.wrap ((IntKind.i64.wrap (shrI .u64 (IntKind.u64.wrap (IntKind.i64.wrap (a + b))) 1)) + m)) - start)) < b))))) ?_
         refine rvc_nil ?_
         refine Awp.cond (b := (decide ((IntKind.i64.wrap ((IntKind.i64.wrap ((IntKind.i64.wrap (shrI .u64 (IntKind.u64.wrap (IntKind.i64.wrap (a + b))) 1)) + m)) - start)) < b))) rfl (fun h97 => ?_) (fun h97 => ?_)
         ·
          replace hR := of_true h97 hR
          have h97_ := of_decide_eq_true h97
          refine Awp.region C (fun _ => .writer) (by kernel_rfl) ?_
          refine rvP C (.sl 0 0 data.length 1 false) ?_
          refine rvP C (.pv (.lit (.int .i64 (IntKind.i64.wrap (shrI .u64 (IntKind.u64.wrap (IntKind.i64.wrap (a + b))) 1))))) ?_
          refine rvP C (.pv (.lit (.int .i64 (IntKind.i64.wrap ((IntKind.i64.wrap ((IntKind.i64.wrap (shrI .u64 (IntKind.u64.wrap (IntKind.i64.wrap (a + b))) 1)) + m)) - start))))) ?_
          refine rvP C (.pv (.lit (.int .i64 b))) ?_
          refine rvP C (.fn g4 [] caps4) ?_
          have he_ := wrapI ((IntKind.i64.wrap ((IntKind.i64.wrap (shrI .u64 (IntKind.u64.wrap (IntKind.i64.wrap (a + b))) 1)) + m)) - start) (by omega)
          refine rvc_un (rexec_callM hP C (b := 0) rfl rfl rfl (hrec data (IntKind.i64.wrap (shrI .u64 (IntKind.u64.wrap (IntKind.i64.wrap (a + b))) 1)) (IntKind.i64.wrap ((IntKind.i64.wrap ((IntKind.i64.wrap (shrI .u64 (IntKind.u64.wrap (IntKind.i64.wrap (a + b))) 1)) + m)) - start)) b cmp g4 caps4 hp4 hw4 (by omega) (by omega) (by first | exact List.Perm.refl _ | exact rotate_perm (by omega) hL | exact hrp _ _ _ _ _ (by omega) (by omega) (List.Perm.refl _) | exact hrp _ _ _ _ _ (by omega) (by omega) (rotate_perm (by omega) hL))) (by simp only [AV.renL, AV.ren, AV.renL_none _ hw4]) rfl ?_)
          refine rvc_nil ?_
          subst hR
          exact ⟨.inr rfl, rfl, rfl⟩
         ·
          replace hR := of_false h97 hR
          have h97_ := of_decide_eq_false h97
          refine Awp.skip ?_
          subst hR
          exact ⟨.inr rfl, rfl, rfl⟩
        ·
         replace hR := of_false h96 hR
         have h96_ := of_decide_eq_false h96
         refine rvS ?_
         refine rvS ?_
         refine rvS ?_
         refine rvP C (.pv (.lit (.bool false))) ?_
         refine rvc_nil ?_
         refine Awp.condF (b := false) rfl rfl ?_
         refine Awp.skip ?_
         subst hR
         exact ⟨.inr rfl, rfl, rfl⟩
      ·
       replace hR := of_false h92 hR
       have h92_ := of_decide_eq_false h92
       refine rvS ?_
       refine rvS ?_
       refine rvS ?_
       refine rvP C (.pv (.lit (.bool false))) ?_
       refine rvc_nil ?_
       refine Awp.condF (b := false) rfl rfl ?_
       refine Awp.skip ?_
       refine Awp.consP C ?_
       refine rvP C (.pv (.lit (.int .i64 (IntKind.i64.wrap (shrI .u64 (IntKind.u64.wrap (IntKind.i64.wrap (a + b))) 1))))) ?_
       refine rvP C (.pv (.lit (.int .i64 (IntKind.i64.wrap ((IntKind.i64.wrap ((IntKind.i64.wrap (shrI .u64 (IntKind.u64.wrap (IntKind.i64.wrap (a + b))) 1)) + m)) - start))))) ?_
       refine rvP C (.pv (.lit (.bool (decide ((IntKind.i64.wrap (shrI .u64 (IntKind.u64.wrap (IntKind.i64.wrap (a + b))) 1)) < (IntKind.i64.wrap ((IntKind.i64.wrap ((IntKind.i64.wrap (shrI .u64 (IntKind.u64.wrap (IntKind.i64.wrap (a + b))) 1)) + m)) - start))))))) ?_
       refine rvP C (.pv (.lit (.bool (decide ((IntKind.i64.wrap (shrI .u64 (IntKind.u64.wrap (IntKind.i64.wrap (a + b))) 1)) < (IntKind.i64.wrap ((IntKind.i64.wrap ((IntKind.i64.wrap (shrI .u64 (IntKind.u64.wrap (IntKind.i64.wrap (a + b))) 1)) + m)) - start))))))) ?_
       refine rvc_case 209 (decide ((IntKind.i64.wrap (shrI .u64 (IntKind.u64.wrap (IntKind.i64.wrap (a + b))) 1)) < (IntKind.i64.wrap ((IntKind.i64.wrap ((IntKind.i64.wrap (shrI .u64 (IntKind.u64.wrap (IntKind.i64.wrap (a + b))) 1)) + m)) - start)))) rfl (fun h98 => ?_) (fun h98 => ?_)
       ·
        replace hR := of_true h98 hR
        have h98_ := of_decide_eq_true h98
        refine rvO C (.pv (.lit (.int .i64 (IntKind.i64.wrap ((IntKind.i64.wrap ((IntKind.i64.wrap (shrI .u64 (IntKind.u64.wrap (IntKind.i64.wrap (a + b))) 1)) + m)) - start))))) ?_
        refine rvO C (.pv (.lit (.int .i64 b))) ?_
        refine rvO C (.pv (.lit (.bool (decide ((IntKind.i64.wrap ((IntKind.i64.wrap ((IntKind.i64.wrap (shrI .u64 (IntKind.u64.wrap (IntKind.i64.wrap (a + b))) 1)) + m)) - start)) < b))))) ?_
        refine rvP C (.pv (.lit (.bool (decide ((IntKind.i64.wrap ((IntKind.i64.wrap ((IntKind.i64.wrap (shrI .u64 (IntKind.u64.wrap (IntKind.i64.wrap (a + b))) 1)) + m)) - start)) < b))))) ?_
        refine rvc_nil ?_
        refine Awp.cond (b := (decide ((IntKind.i64.wrap ((IntKind.i64.wrap ((IntKind.i64.wrap (shrI .u64 (IntKind.u64.wrap (IntKind.i64.wrap (a + b))) 1)) + m)) - start)) < b))) rfl (fun h99 => ?_) (fun h99 => ?_)
        ·
         replace hR := of_true h99 hR
         have h99_ := of_decide_eq_true h99
         refine Awp.region C (fun _ => .writer) (by kernel_rfl) ?_
         refine rvP C (.sl 0 0 data.length 1 false) ?_
         refine rvP C (.pv (.lit (.int .i64 (IntKind.i64.wrap (shrI .u64 (IntKind.u64.wrap (IntKind.i64.wrap (a + b))) 1))))) ?_
         refine rvP C (.pv (.lit (.int .i64 (IntKind.i64.wrap ((IntKind.i64.wrap ((IntKind.i64.wrap (shrI .u64 (IntKind.u64.wrap (IntKind.i64.wrap (a + b))) 1)) + m)) - start))))) ?_
         refine rvP C (.pv (.lit (.int .i64 b))) ?_
         refine rvP C (.fn g4 [] caps4) ?_
         have he_ := wrapI ((IntKind.i64.wrap ((IntKind.i64.wrap (shrI .u64 (IntKind.u64.wrap (IntKind.i64.wrap (a + b))) 1)) + m)) - start) (by omega)
         refine rvc_un (rexec_callM hP C (b := 0) rfl rfl rfl (hrec data (IntKind.i64.wrap (shrI .u64 (IntKind.u64.wrap (IntKind.i64.wrap (a + b))) 1)) (IntKind.i64.wrap ((IntKind.i64.wrap ((IntKind.i64.wrap (shrI .u64 (IntKind.u64.wrap (IntKind.i64.wrap (a + b))) 1)) + m)) - start)) b cmp g4 caps4 hp4 hw4 (by omega) (by omega) (by first | exact List.Perm.refl _ | exact rotate_perm (by omega) hL | exact hrp _ _ _ _ _ (by omega) (by omega) (List.Perm.refl _) | exact hrp _ _ _ _ _ (by omega) (by omega) (rotate_perm (by omega) hL))) (by simp only [AV.renL, AV.ren, AV.renL_none _ hw4]) rfl ?_)
         refine rvc_nil ?_
         subst hR
         exact ⟨.inr rfl, rfl, rfl⟩
        ·
         replace hR := of_false h99 hR
         have h99_ := of_decide_eq_false h99
         refine Awp.skip ?_
         subst hR
         exact ⟨.inr rfl, rfl, rfl⟩
       ·
        replace hR := of_false h98 hR
        have h98_ := of_decide_eq_false h98
        refine rvS ?_
        refine rvS ?_
        refine rvS ?_
        refine rvP C (.pv (.lit (.bool false))) ?_
        refine rvc_nil ?_
        refine Awp.condF (b := false) rfl rfl ?_
        refine Awp.skip ?_
        subst hR
        exact ⟨.inr rfl, rfl, rfl⟩
end Go.Proofs.Ytoieegmebadfkaa
namespace Go.Proofs.Ytoieegmebadfkaa
open Go.Am
structure LeOk (cmp : Int → Int → Int) : Prop where
  asym : ∀ x y, cmp x y < 0 → ¬ cmp y x < 0
  trans : ∀ x y z, ¬ cmp y x < 0 → ¬ cmp z y < 0 → ¬ cmp z x < 0
def Lq (cmp : Int → Int → Int) (x y : Int) : Prop := ¬ cmp y x < 0
theorem LeOk.refl {cmp : Int → Int → Int} (h : LeOk cmp) (x : Int) : Lq cmp x x := fun e => h.asym _ _ e e
theorem LeOk.tr {cmp : Int → Int → Int} (h : LeOk cmp) {x y z : Int} (a : Lq cmp x y) (b : Lq cmp y z) : Lq cmp x z := h.trans _ _ _ a b
theorem LeOk.lt {cmp : Int → Int → Int} (h : LeOk cmp) {x y : Int} (a : cmp x y < 0) : Lq cmp x y := h.asym _ _ a
def Srt (cmp : Int → Int → Int) (f : Nat → Int) (lo hi : Nat) : Prop := ∀ i j, lo ≤ i → i < j → j < hi → Lq cmp (f i) (f j)
def Post (cmp : Int → Int → Int) (a b : Nat) (f g : Nat → Int) : Prop := (∀ k, ¬ (a ≤ k ∧ k < b) → g k = f k) ∧ (∀ k, a ≤ k → k < b → ∃ k', a ≤ k' ∧ k' < b ∧ g k = f k') ∧ Srt cmp g a b
def rotf (lo mid hi : Nat) (f : Nat → Int) (k : Nat) : Int := if lo ≤ k ∧ k < lo + (hi - mid) then f (k + (mid - lo)) else if lo + (hi - mid) ≤ k ∧ k < hi then f (k - (hi - mid)) else f k
theorem Srt.le {cmp : Int → Int → Int} (h : LeOk cmp) {f : Nat → Int} {lo hi i j : Nat} (s : Srt cmp f lo hi) (h1 : lo ≤ i) (h2 : i ≤ j) (h3 : j < hi) : Lq cmp (f i) (f j) := by
  rcases Nat.lt_or_ge i j with h4 | h4
  · exact s i j h1 h4 h3
  · have : i = j := by omega
    subst this; exact h.refl _
theorem Srt.join {cmp : Int → Int → Int} (h : LeOk cmp) {g : Nat → Int} {lo md hi : Nat} (s1 : Srt cmp g lo md) (s2 : Srt cmp g md hi) (c : lo = md ∨ md = hi ∨ Lq cmp (g (md - 1)) (g md)) : Srt cmp g lo hi := fun i j h1 h2 h3 => by
  by_cases c1 : j < md
  · exact s1 i j h1 h2 c1
  · by_cases c2 : md ≤ i
    · exact s2 i j c2 h2 h3
    · rcases c with c | c | c
      · omega
      · omega
      · exact h.tr (s1.le h h1 (show i ≤ md - 1 by omega) (by omega)) (h.tr c (s2.le h (Nat.le_refl _) (show md ≤ j by omega) h3))
theorem Srt.glue {cmp : Int → Int → Int} {g : Nat → Int} {lo md hi : Nat} (s1 : Srt cmp g lo md) (s2 : Srt cmp g md hi) (c : ∀ x y, lo ≤ x → x < md → md ≤ y → y < hi → Lq cmp (g x) (g y)) : Srt cmp g lo hi := fun i j h1 h2 h3 => by
  by_cases c1 : j < md
  · exact s1 i j h1 h2 c1
  · by_cases c2 : md ≤ i
    · exact s2 i j c2 h2 h3
    · exact c i j h1 (by omega) (by omega) h3
theorem rotf_lo {lo mid hi : Nat} {f : Nat → Int} {k : Nat} (h : lo ≤ k ∧ k < lo + (hi - mid)) : rotf lo mid hi f k = f (k + (mid - lo)) := by
  unfold rotf; rw [if_pos h]
theorem rotf_hi {lo mid hi : Nat} {f : Nat → Int} {k : Nat} (h : lo + (hi - mid) ≤ k ∧ k < hi) : rotf lo mid hi f k = f (k - (hi - mid)) := by
  unfold rotf; rw [if_neg (by omega), if_pos h]
theorem rotf_out {lo mid hi : Nat} {f : Nat → Int} {k : Nat} (h : k < lo ∨ hi ≤ k) (hm : lo ≤ mid ∧ mid ≤ hi) : rotf lo mid hi f k = f k := by
  unfold rotf; rw [if_neg (by omega), if_neg (by omega)]
theorem rotf_none {lo mid hi : Nat} {f : Nat → Int} (hm : lo ≤ mid ∧ mid ≤ hi) (h : lo = mid ∨ mid = hi) : rotf lo mid hi f = f := by
  funext k
  by_cases c1 : lo ≤ k ∧ k < lo + (hi - mid)
  · rw [rotf_lo c1, show k + (mid - lo) = k by omega]
  · by_cases c2 : lo + (hi - mid) ≤ k ∧ k < hi
    · rw [rotf_hi c2, show k - (hi - mid) = k by omega]
    · exact rotf_out (by omega) hm
structure Split (cmp : Int → Int → Int) (a s md e b : Nat) (f : Nat → Int) : Prop where
  s1 : Srt cmp f a s
  s2 : Srt cmp f s md
  s3 : Srt cmp f md e
  s4 : Srt cmp f e b
  cross : ∀ x y, a ≤ x → x < md → md ≤ y → y < b → Lq cmp (f x) (f y)
theorem rot_split {cmp : Int → Int → Int} (h : LeOk cmp) {f : Nat → Int} {a s m e b : Nat} (h1 : a ≤ s ∧ s ≤ m ∧ m ≤ e ∧ e ≤ b) (u : Srt cmp f a m) (v : Srt cmp f m b) (c1 : s = a ∨ e = b ∨ Lq cmp (f (s - 1)) (f e)) (c2 : s = m ∨ e = m ∨ Lq cmp (f (e - 1)) (f s)) : Split cmp a s (s + (e - m)) e b (rotf s m e f) where
  s1 := fun i j q1 q2 q3 => by
    rw [rotf_out (by omega) (by omega), rotf_out (by omega) (by omega)]
    exact u i j q1 q2 (by omega)
  s2 := fun i j q1 q2 q3 => by
    rw [rotf_lo (by omega), rotf_lo (by omega)]
    exact v _ _ (by omega) (by omega) (by omega)
  s3 := fun i j q1 q2 q3 => by
    rw [rotf_hi (by omega), rotf_hi (by omega)]
    exact u _ _ (by omega) (by omega) (by omega)
  s4 := fun i j q1 q2 q3 => by
    rw [rotf_out (by omega) (by omega), rotf_out (by omega) (by omega)]
    exact v i j (by omega) q2 q3
  cross := fun x y q1 q2 q3 q4 => by
    by_cases k1 : x < s
    · rw [rotf_out (by omega) (by omega)]
      by_cases k2 : y < e
      · rw [rotf_hi (by omega)]
        exact u.le h q1 (by omega) (by omega)
      · rw [rotf_out (by omega) (by omega)]
        rcases c1 with c | c | c
        · omega
        · omega
        · exact h.tr (u.le h q1 (show x ≤ s - 1 by omega) (by omega)) (h.tr c (v.le h (by omega) (show e ≤ y by omega) q4))
    · rw [rotf_lo (by omega)]
      by_cases k2 : y < e
      · rw [rotf_hi (by omega)]
        rcases c2 with c | c | c
        · omega
        · omega
        · exact h.tr (v.le h (by omega) (show x + (m - s) ≤ e - 1 by omega) (by omega)) (h.tr c (u.le h (by omega) (show s ≤ y - (e - m) by omega) (by omega)))
      · rw [rotf_out (by omega) (by omega)]
        exact v.le h (by omega) (by omega) q4
theorem rotf_in {lo mid hi a b : Nat} {f : Nat → Int} (h : a ≤ lo ∧ lo ≤ mid ∧ mid ≤ hi ∧ hi ≤ b) : (∀ k, ¬ (a ≤ k ∧ k < b) → rotf lo mid hi f k = f k) ∧ (∀ k, a ≤ k → k < b → ∃ k', a ≤ k' ∧ k' < b ∧ rotf lo mid hi f k = f k') := by
  refine ⟨fun k hk => rotf_out (by omega) (by omega), fun k h1 h2 => ?_⟩
  by_cases c1 : lo ≤ k ∧ k < lo + (hi - mid)
  · exact ⟨_, by omega, by omega, rotf_lo c1⟩
  · by_cases c2 : lo + (hi - mid) ≤ k ∧ k < hi
    · exact ⟨_, by omega, by omega, rotf_hi c2⟩
    · exact ⟨k, h1, h2, rotf_out (by omega) (by omega)⟩
theorem Post.id {cmp : Int → Int → Int} {a b : Nat} {f : Nat → Int} (s : Srt cmp f a b) : Post cmp a b f f := ⟨fun _ _ => rfl, fun k h1 h2 => ⟨k, h1, h2, rfl⟩, s⟩
/-- The middle turned round, then the left part sorted, then the right. -/
theorem Post.merge {cmp : Int → Int → Int} {f g1 g2 : Nat → Int} {a s m e b : Nat} (h1 : a ≤ s ∧ s ≤ m ∧ m ≤ e ∧ e ≤ b) (sp : Split cmp a s (s + (e - m)) e b (rotf s m e f)) (p1 : Post cmp a (s + (e - m)) (rotf s m e f) g1) (p2 : Post cmp (s + (e - m)) b g1 g2) : Post cmp a b f g2 := by
  obtain ⟨o1, i1, t1⟩ := p1
  obtain ⟨o2, i2, t2⟩ := p2
  obtain ⟨o0, i0⟩ := rotf_in (f := f) h1
  refine ⟨fun k hk => ?_, fun k q1 q2 => ?_, Srt.glue (md := s + (e - m)) ?_ t2 ?_⟩
  · rw [o2 k (by omega), o1 k (by omega), o0 k hk]
  · by_cases c : k < s + (e - m)
    · rw [o2 k (by omega)]
      obtain ⟨k1, r1, r2, e1⟩ := i1 k q1 c
      obtain ⟨k2, r3, r4, e2⟩ := i0 k1 r1 (by omega)
      exact ⟨k2, r3, r4, e1.trans e2⟩
    · obtain ⟨k1, r1, r2, e1⟩ := i2 k (by omega) q2
      obtain ⟨k2, r3, r4, e2⟩ := i0 k1 (by omega) r2
      exact ⟨k2, r3, r4, (e1.trans (o1 k1 (by omega))).trans e2⟩
  · intro i j q1 q2 q3
    rw [o2 i (by omega), o2 j (by omega)]
    exact t1 i j q1 q2 q3
  · intro x y q1 q2 q3 q4
    rw [o2 x (by omega)]
    obtain ⟨x1, r1, r2, e1⟩ := i1 x q1 q2
    obtain ⟨y1, r3, r4, e2⟩ := i2 y q3 q4
    rw [e1, e2, o1 y1 (by omega)]
    exact sp.cross x1 y1 r1 r2 r3 r4
end Go.Proofs.Ytoieegmebadfkaa
namespace Go.Proofs.Ytoieegmebadfkaa
open Go.Am
theorem swapF_a {a b n k : Nat} {f : Nat → Int} (h : a ≤ k ∧ k < a + n) : swapF a b n f k = f (k - a + b) := by
  unfold swapF; rw [if_pos h]
theorem swapF_b {a b n k : Nat} {f : Nat → Int} (h : b ≤ k ∧ k < b + n) (hab : a + n ≤ b) : swapF a b n f k = f (k - b + a) := by
  unfold swapF; rw [if_neg (by omega), if_pos h]
theorem swapF_o {a b n k : Nat} {f : Nat → Int} (h1 : ¬ (a ≤ k ∧ k < a + n)) (h2 : ¬ (b ≤ k ∧ k < b + n)) : swapF a b n f k = f k := by
  unfold swapF; rw [if_neg h1, if_neg h2]
theorem rotate_l0_get {m L : Nat} {cmp : Int → Int → Int} (hL : L ≤ 1000000) : ∀ (k i j : Nat) (vc : List Int), i + j ≤ k → 0 < i → i ≤ m → 0 < j → m + j ≤ L → vc.length = L → ∀ q, q < L → (rotate_l0 m cmp (k + 1) i j vc)[q]! = rotf (m - i) m (m + j) (fun q => vc[q]!) q
  | k, i, j, vc, hk, hi, him, hj, hjm, hv, q, hq => by
    unfold rotate_l0
    have e1 : IntKind.i64.wrap ((m : Int) - i) = ((m - i : Nat) : Int) := by rw [wrapI _ (by omega)]; omega
    by_cases h : i = j
    · subst h
      rw [show ((i : Int) != i) = false by simp, cond_false, e1, swapRange_get (by omega) (by omega) (by omega) (by omega)]
      by_cases c1 : m - i ≤ q ∧ q < m
      · rw [swapF_a (by omega), rotf_lo (by omega)]; rw [show q - (m - i) + m = q + (m - (m - i)) by omega]
      · by_cases c2 : m ≤ q ∧ q < m + i
        · rw [swapF_b (by omega) (by omega), rotf_hi (by omega)]; rw [show q - m + (m - i) = q - (m + i - m) by omega]
        · rw [swapF_o (by omega) (by omega), rotf_out (by omega) (by omega)]
    · rw [show ((i : Int) != j) = true from bne_iff_ne.2 (by omega), cond_true]
      obtain ⟨k, rfl⟩ : ∃ q, k = q + 1 := ⟨k - 1, by omega⟩
      by_cases h4 : j < i
      · rw [decide_eq_true (by omega : (i : Int) > j), cond_true, e1]
        have e2 : IntKind.i64.wrap ((i : Int) - j) = ((i - j : Nat) : Int) := by rw [wrapI _ (by omega)]; omega
        have hlen : (swapRange vc ((m - i : Nat) : Int) (m : Int) (j : Int) cmp).length = L := by rw [(swapRange_perm (by omega) (by omega)).length_eq]; exact hv
        have hg : ∀ q, q < L → (swapRange vc ((m - i : Nat) : Int) (m : Int) (j : Int) cmp)[q]! = swapF (m - i) m j (fun q => vc[q]!) q := fun q hq => swapRange_get (by omega) (by omega) (by omega) (by omega)
        rw [e2, rotate_l0_get hL k (i - j) j _ (by omega) (by omega) (by omega) hj hjm hlen q hq]
        by_cases c1 : m - i ≤ q ∧ q < m - i + j
        · rw [rotf_out (by omega) (by omega), hg q hq, swapF_a (by omega), rotf_lo (by omega)]; rw [show q - (m - i) + m = q + (m - (m - i)) by omega]
        · by_cases c2 : m - i + j ≤ q ∧ q < m + j
          · rw [rotf_hi (k := q) (f := fun q => vc[q]!) (by omega)]
            by_cases c3 : q < m - (i - j) + j
            · rw [rotf_lo (by omega), hg _ (by omega), swapF_b (by omega) (by omega)]; rw [show q + (m - (m - (i - j))) - m + (m - i) = q - (m + j - m) by omega]
            · rw [rotf_hi (by omega), hg _ (by omega), swapF_o (by omega) (by omega)]
          · rw [rotf_out (by omega) (by omega), hg q hq, swapF_o (by omega) (by omega), rotf_out (by omega) (by omega)]
      · rw [decide_eq_false (by omega : ¬ (i : Int) > j), cond_false, e1]
        have e2 : IntKind.i64.wrap ((j : Int) - i) = ((j - i : Nat) : Int) := by rw [wrapI _ (by omega)]; omega
        have e3 : IntKind.i64.wrap (IntKind.i64.wrap ((m : Int) + j) - i) = ((m + j - i : Nat) : Int) := by rw [wrapI ((m : Int) + j) (by omega), wrapI _ (by omega)]; omega
        have hlen : (swapRange vc ((m - i : Nat) : Int) ((m + j - i : Nat) : Int) (i : Int) cmp).length = L := by rw [(swapRange_perm (by omega) (by omega)).length_eq]; exact hv
        have hg : ∀ q, q < L → (swapRange vc ((m - i : Nat) : Int) ((m + j - i : Nat) : Int) (i : Int) cmp)[q]! = swapF (m - i) (m + j - i) i (fun q => vc[q]!) q := fun q hq => swapRange_get (by omega) (by omega) (by omega) (by omega)
        rw [e2, e3, rotate_l0_get hL k i (j - i) _ (by omega) hi him (by omega) (by omega) hlen q hq]
        by_cases c1 : m - i ≤ q ∧ q < m + j - i
        · rw [rotf_lo (k := q) (f := fun q => vc[q]!) (by omega)]
          by_cases c3 : q < m - i + (j - i)
          · rw [rotf_lo (by omega), hg _ (by omega), swapF_o (by omega) (by omega)]
          · rw [rotf_hi (by omega), hg _ (by omega), swapF_a (by omega)]; rw [show q - (m + (j - i) - m) - (m - i) + (m + j - i) = q + (m - (m - i)) by omega]
        · by_cases c2 : m + j - i ≤ q ∧ q < m + j
          · rw [rotf_out (by omega) (by omega), hg q hq, swapF_b (by omega) (by omega), rotf_hi (by omega)]; rw [show q - (m + j - i) + (m - i) = q - (m + j - m) by omega]
          · rw [rotf_out (by omega) (by omega), hg q hq, swapF_o (by omega) (by omega), rotf_out (by omega) (by omega)]
theorem rotate_get {data : List Int} {a m b : Nat} {cmp : Int → Int → Int} (h : a < m ∧ m < b ∧ b ≤ data.length) (hL : data.length ≤ 1000000) (q : Nat) : (rotate data a m b cmp)[q]! = rotf a m b (fun q => data[q]!) q := by
  by_cases hq : q < data.length
  · unfold rotate
    rw [show IntKind.i64.wrap ((m : Int) - a) = ((m - a : Nat) : Int) by rw [wrapI _ (by omega)]; omega, show IntKind.i64.wrap ((b : Int) - m) = ((b - m : Nat) : Int) by rw [wrapI _ (by omega)]; omega]
    rw [show ((((m - a : Nat) : Int) + ((b - m : Nat) : Int)).toNat) = (m - a) + (b - m) by omega]
    rw [rotate_l0_get hL _ (m - a) (b - m) data (Nat.le_refl _) (by omega) (by omega) (by omega) (by omega) rfl q hq, show m - (m - a) = a by omega, show m + (b - m) = b by omega]
  · rw [rotf_out (by omega) (by omega)]
    have hlen := (rotate_perm (data := data) (a := a) (m := m) (b := b) (cmp := cmp) (by omega) hL).length_eq
    rw [getElem!_neg _ q (by omega), getElem!_neg _ q hq]
end Go.Proofs.Ytoieegmebadfkaa
namespace Go.Proofs.Ytoieegmebadfkaa
open Go.Am
theorem half_nat {x y : Nat} (h : x + y ≤ 4000000) : IntKind.i64.wrap (shrI .u64 (IntKind.u64.wrap (IntKind.i64.wrap ((x : Int) + y))) 1) = (((x + y) / 2 : Nat) : Int) := by
  have := half_eq (x := (x : Int) + y) (by omega)
  omega
theorem up_nat {x : Nat} (h : x ≤ 4000000) : IntKind.i64.wrap ((x : Int) + 1) = ((x + 1 : Nat) : Int) := by rw [wrapI _ (by omega)]; omega
theorem dn_nat {x : Nat} (h : 0 < x ∧ x ≤ 4000000) : IntKind.i64.wrap ((x : Int) - 1) = ((x - 1 : Nat) : Int) := by rw [wrapI _ (by omega)]; omega
/-- One element is carried up to place i - 1. -/
theorem up_loop {i L : Nat} (hL : L ≤ 1000000) (hiL : i ≤ L) : ∀ (j k : Nat) (vc : List Int), i - 1 - k = j → k + 1 ≤ i → vc.length = L → (symMergeB_l1 i (j + 1) k vc).Perm vc ∧ ∀ q, q < L → (symMergeB_l1 i (j + 1) k vc)[q]! = rotf k (k + 1) i (fun q => vc[q]!) q
  | j, k, vc, hj, hk, hv => by
    unfold symMergeB_l1
    rw [dn_nat (x := i) (by omega)]
    by_cases h : k < i - 1
    · rw [decide_eq_true (by omega : (k : Int) < ((i - 1 : Nat) : Int)), cond_true, up_nat (by omega), Int.toNat_natCast, Int.toNat_natCast]
      obtain ⟨j, rfl⟩ : ∃ q, j = q + 1 := ⟨j - 1, by omega⟩
      have hp : ((vc.set k vc[k + 1]!).set (k + 1) vc[k]!).Perm vc := swap_perm (by omega) (by omega)
      have hg : ∀ q, q < L → ((vc.set k vc[k + 1]!).set (k + 1) vc[k]!)[q]! = if k + 1 = q then vc[k]! else if k = q then vc[k + 1]! else vc[q]! := fun q hq => swap_get (by omega)
      generalize ((vc.set k vc[k + 1]!).set (k + 1) vc[k]!) = w at hp hg ⊢
      obtain ⟨p1, g1⟩ := up_loop (i := i) hL hiL j (k + 1) w (by omega) (by omega) (by rw [hp.length_eq]; exact hv)
      refine ⟨p1.trans hp, fun q hq => ?_⟩
      rw [g1 q hq]
      by_cases c1 : k ≤ q ∧ q < i - 1
      · rw [rotf_lo (lo := k) (by omega)]
        by_cases c2 : q = k
        · subst c2
          rw [rotf_out (by omega) (by omega), hg _ hq, if_neg (by omega), if_pos rfl, show q + (q + 1 - q) = q + 1 by omega]
        · rw [rotf_lo (by omega), show q + (k + 1 + 1 - (k + 1)) = q + (k + 1 - k) by omega, hg _ (by omega), if_neg (by omega), if_neg (by omega)]
      · by_cases c2 : q = i - 1
        · rw [rotf_hi (lo := k) (by omega), rotf_hi (by omega), show q - (i - (k + 1 + 1)) = k + 1 by omega, hg _ (by omega), if_pos rfl, show q - (i - (k + 1)) = k by omega]
        · rw [rotf_out (by omega) (by omega), rotf_out (by omega) (by omega), hg _ hq, if_neg (by omega), if_neg (by omega)]
    · rw [decide_eq_false (by omega : ¬ (k : Int) < ((i - 1 : Nat) : Int)), cond_false]
      have : i = k + 1 := by omega
      subst this
      exact ⟨List.Perm.refl _, fun q _ => by rw [rotf_none (by omega) (by omega)]⟩
/-- One element is carried down to place i. -/
theorem down_loop {i L : Nat} (hL : L ≤ 1000000) : ∀ (j k : Nat) (vc : List Int), k - i = j → i ≤ k → k < L → vc.length = L → (symMergeB_l3 i (j + 1) k vc).Perm vc ∧ ∀ q, q < L → (symMergeB_l3 i (j + 1) k vc)[q]! = rotf i k (k + 1) (fun q => vc[q]!) q
  | j, k, vc, hj, hk, hkL, hv => by
    unfold symMergeB_l3
    by_cases h : i < k
    · rw [decide_eq_true (by omega : (k : Int) > (i : Int)), cond_true, dn_nat (x := k) (by omega), Int.toNat_natCast, Int.toNat_natCast]
      obtain ⟨j, rfl⟩ : ∃ q, j = q + 1 := ⟨j - 1, by omega⟩
      have hp : ((vc.set k vc[k - 1]!).set (k - 1) vc[k]!).Perm vc := swap_perm (by omega) (by omega)
      have hg : ∀ q, q < L → ((vc.set k vc[k - 1]!).set (k - 1) vc[k]!)[q]! = if k - 1 = q then vc[k]! else if k = q then vc[k - 1]! else vc[q]! := fun q hq => swap_get (by omega)
      generalize ((vc.set k vc[k - 1]!).set (k - 1) vc[k]!) = w at hp hg ⊢
      obtain ⟨p1, g1⟩ := down_loop (i := i) hL j (k - 1) w (by omega) (by omega) (by omega) (by rw [hp.length_eq]; exact hv)
      refine ⟨p1.trans hp, fun q hq => ?_⟩
      rw [g1 q hq]
      by_cases c1 : q = i
      · subst c1
        rw [rotf_lo (by omega), rotf_lo (by omega), show q + (k - 1 - q) = k - 1 by omega, hg _ (by omega), if_pos rfl, show q + (k - q) = k by omega]
      · by_cases c2 : i < q ∧ q ≤ k
        · rw [rotf_hi (hi := k + 1) (by omega), show q - (k + 1 - k) = q - 1 by omega]
          by_cases c3 : q = k
          · subst c3
            rw [rotf_out (by omega) (by omega), hg _ hq, if_neg (by omega), if_pos rfl]
          · rw [rotf_hi (by omega), show q - (k - 1 + 1 - (k - 1)) = q - 1 by omega, hg _ (by omega), if_neg (by omega), if_neg (by omega)]
        · rw [rotf_out (by omega) (by omega), rotf_out (by omega) (by omega), hg _ hq, if_neg (by omega), if_neg (by omega)]
    · rw [decide_eq_false (by omega : ¬ (k : Int) > (i : Int)), cond_false]
      have : i = k := by omega
      subst this
      exact ⟨List.Perm.refl _, fun q _ => by rw [rotf_none (by omega) (by omega)]⟩
/-- Where one element of the left goes among the right. -/
theorem find_up {D : List Int} {a m b : Nat} {cmp : Int → Int → Int} (hb : b ≤ 1000000) : ∀ (k i j : Nat), j - i ≤ k → m ≤ i → i ≤ j → j ≤ b → (i = m ∨ cmp D[i - 1]! D[a]! < 0) → (j = b ∨ ¬ cmp D[j]! D[a]! < 0) → ∃ e : Nat, m ≤ e ∧ e ≤ b ∧ (e = m ∨ cmp D[e - 1]! D[a]! < 0) ∧ (e = b ∨ ¬ cmp D[e]! D[a]! < 0) ∧ symMergeB_l0 D a cmp (k + 1) i j = symMergeB_l1 e ((IntKind.i64.wrap ((e : Int) - 1) - a).toNat + 1) a D
  | k, i, j, hk, h1, h2, h3, h4, h5 => by
    unfold symMergeB_l0
    by_cases h : i < j
    · rw [decide_eq_true (by omega : (i : Int) < j), cond_true, half_nat (by omega), Int.toNat_natCast, Int.toNat_natCast]
      obtain ⟨k, rfl⟩ : ∃ q, k = q + 1 := ⟨k - 1, by omega⟩
      by_cases c : cmp D[(i + j) / 2]! D[a]! < 0
      · rw [decide_eq_true c, cond_true, up_nat (by omega)]
        exact find_up hb k ((i + j) / 2 + 1) j (by omega) (by omega) (by omega) h3 (.inr (by rw [Nat.add_sub_cancel]; exact c)) h5
      · rw [decide_eq_false c, cond_false]
        exact find_up hb k i ((i + j) / 2) (by omega) h1 (by omega) (by omega) h4 (.inr c)
    · rw [decide_eq_false (by omega : ¬ (i : Int) < j), cond_false]
      have : i = j := by omega
      subst this
      exact ⟨i, h1, h3, h4, h5, rfl⟩
/-- Where one element of the right goes among the left. -/
theorem find_down {D : List Int} {a m : Nat} {cmp : Int → Int → Int} (hb : m ≤ 1000000) : ∀ (k i j : Nat), j - i ≤ k → a ≤ i → i ≤ j → j ≤ m → (i = a ∨ ¬ cmp D[m]! D[i - 1]! < 0) → (j = m ∨ cmp D[m]! D[j]! < 0) → ∃ s : Nat, a ≤ s ∧ s ≤ m ∧ (s = a ∨ ¬ cmp D[m]! D[s - 1]! < 0) ∧ (s = m ∨ cmp D[m]! D[s]! < 0) ∧ symMergeB_l2 D m cmp (k + 1) i j = symMergeB_l3 s (((m : Int) - s).toNat + 1) m D
  | k, i, j, hk, h1, h2, h3, h4, h5 => by
    unfold symMergeB_l2
    by_cases h : i < j
    · rw [decide_eq_true (by omega : (i : Int) < j), cond_true, half_nat (by omega), Int.toNat_natCast, Int.toNat_natCast]
      obtain ⟨k, rfl⟩ : ∃ q, k = q + 1 := ⟨k - 1, by omega⟩
      by_cases c : cmp D[m]! D[(i + j) / 2]! < 0
      · rw [decide_eq_true c, Bool.not_true, cond_false]
        exact find_down hb k i ((i + j) / 2) (by omega) h1 (by omega) (by omega) h4 (.inr c)
      · rw [decide_eq_false c, Bool.not_false, cond_true, up_nat (by omega)]
        exact find_down hb k ((i + j) / 2 + 1) j (by omega) (by omega) (by omega) h3 (.inr (by rw [Nat.add_sub_cancel]; exact c)) h5
    · rw [decide_eq_false (by omega : ¬ (i : Int) < j), cond_false]
      have : i = j := by omega
      subst this
      exact ⟨i, h1, h3, h4, h5, rfl⟩
/-- What is done once the middle is known. -/
def finish (rec : List Int → Int → Int → Int → (Int → Int → Int) → List Int) (D : List Int) (a m b : Int) (cmp : Int → Int → Int) (mid s e : Int) : List Int :=
  (fun d1 => (fun d2 => bif decide (mid < e) && decide (e < b) then rec d2 mid e b cmp else d2) (bif decide (a < s) && decide (s < mid) then rec d1 a s mid cmp else d1)) (bif decide (s < m) && decide (m < e) then rotate D s m e cmp else D)
theorem find_mid {rec : List Int → Int → Int → Int → (Int → Int → Int) → List Int} {D : List Int} {a m b lo hi : Nat} {cmp : Int → Int → Int} (hb : b ≤ 1000000) (hab : a < m ∧ m < b) (hhi : hi ≤ m ∧ hi ≤ (a + b) / 2) (hlo : (a + b) / 2 + m - b ≤ lo) : ∀ (k i j : Nat), j - i ≤ k → lo ≤ i → i ≤ j → j ≤ hi → (i = lo ∨ ¬ cmp D[(a + b) / 2 + m - 1 - (i - 1)]! D[i - 1]! < 0) → (j = hi ∨ cmp D[(a + b) / 2 + m - 1 - j]! D[j]! < 0) → ∃ s : Nat, lo ≤ s ∧ s ≤ hi ∧ (s = lo ∨ ¬ cmp D[(a + b) / 2 + m - 1 - (s - 1)]! D[s - 1]! < 0) ∧ (s = hi ∨ cmp D[(a + b) / 2 + m - 1 - s]! D[s]! < 0) ∧ symMergeB_l4 rec D a m b cmp (k + 1) i j = finish rec D a m b cmp (((a + b) / 2 : Nat) : Int) s (((a + b) / 2 + m - s : Nat) : Int)
  | k, i, j, hk, h1, h2, h3, h4, h5 => by
    unfold symMergeB_l4
    rw [half_nat (x := a) (y := b) (by omega)]
    have e1 : IntKind.i64.wrap ((((a + b) / 2 : Nat) : Int) + m) = (((a + b) / 2 + m : Nat) : Int) := by rw [wrapI _ (by omega)]; omega
    rw [e1, dn_nat (x := (a + b) / 2 + m) (by omega)]
    by_cases h : i < j
    · rw [decide_eq_true (by omega : (i : Int) < j), cond_true, half_nat (by omega), Int.toNat_natCast]
      have e2 : IntKind.i64.wrap (((((a + b) / 2 + m - 1 : Nat)) : Int) - (((i + j) / 2 : Nat) : Int)) = (((a + b) / 2 + m - 1 - (i + j) / 2 : Nat) : Int) := by rw [wrapI _ (by omega)]; omega
      rw [e2, Int.toNat_natCast]
      obtain ⟨k, rfl⟩ : ∃ q, k = q + 1 := ⟨k - 1, by omega⟩
      by_cases c : cmp D[(a + b) / 2 + m - 1 - (i + j) / 2]! D[(i + j) / 2]! < 0
      · rw [decide_eq_true c, Bool.not_true, cond_false]
        exact find_mid hb hab hhi hlo k i ((i + j) / 2) (by omega) h1 (by omega) (by omega) h4 (.inr c)
      · rw [decide_eq_false c, Bool.not_false, cond_true, up_nat (by omega)]
        exact find_mid hb hab hhi hlo k ((i + j) / 2 + 1) j (by omega) (by omega) (by omega) h3 (.inr (by rw [Nat.add_sub_cancel]; exact c)) h5
    · rw [decide_eq_false (by omega : ¬ (i : Int) < j), cond_false]
      have : i = j := by omega
      subst this
      refine ⟨i, h1, h3, h4, h5, ?_⟩
      have e3 : IntKind.i64.wrap ((((a + b) / 2 + m : Nat) : Int) - i) = (((a + b) / 2 + m - i : Nat) : Int) := by rw [wrapI _ (by omega)]; omega
      rw [e3]
      generalize (((a + b) / 2 + m - i : Nat) : Int) = e
      generalize (((a + b) / 2 : Nat) : Int) = mid
      generalize (i : Int) = s
      unfold finish
      cases decide (s < (m : Int)) <;> cases decide ((m : Int) < e) <;> cases decide ((a : Int) < s) <;> cases decide (s < mid) <;> cases decide (mid < e) <;> cases decide (e < (b : Int)) <;> rfl
end Go.Proofs.Ytoieegmebadfkaa
namespace Go.Proofs.Ytoieegmebadfkaa
open Go.Am
abbrev gt (D : List Int) (q : Nat) : Int := D[q]!
theorem sym_cases (rec : List Int → Int → Int → Int → (Int → Int → Int) → List Int) {D : List Int} {a m b : Nat} (cmp : Int → Int → Int) (h : a < m ∧ m < b ∧ b ≤ D.length) (hL : D.length ≤ 1000000) :
    (m = a + 1 ∧ ∃ e : Nat, m ≤ e ∧ e ≤ b ∧ (e = m ∨ cmp (gt D (e - 1)) (gt D a) < 0) ∧ (e = b ∨ ¬ cmp (gt D e) (gt D a) < 0) ∧ symMergeB rec D a m b cmp = symMergeB_l1 e (e - 1 - a + 1) a D) ∨
    (b = m + 1 ∧ ∃ s : Nat, a ≤ s ∧ s ≤ m ∧ (s = a ∨ ¬ cmp (gt D m) (gt D (s - 1)) < 0) ∧ (s = m ∨ cmp (gt D m) (gt D s) < 0) ∧ symMergeB rec D a m b cmp = symMergeB_l3 s (m - s + 1) m D) ∨
    (∃ s e mid : Nat, (a ≤ s ∧ s ≤ m ∧ m ≤ e ∧ e ≤ b ∧ mid = s + (e - m) ∧ a < mid ∧ mid < b) ∧ (s = a ∨ e = b ∨ ¬ cmp (gt D e) (gt D (s - 1)) < 0) ∧ (s = m ∨ e = m ∨ cmp (gt D (e - 1)) (gt D s) < 0) ∧ symMergeB rec D a m b cmp = finish rec D a m b cmp mid s e) := by
  unfold symMergeB
  by_cases h1 : m = a + 1
  · refine .inl ⟨h1, ?_⟩
    have e1 : (IntKind.i64.wrap ((m : Int) - a) == 1) = true := by rw [wrapI _ (by omega)]; simp; omega
    rw [e1, cond_true, show ((b : Int) - m).toNat = b - m by omega]
    obtain ⟨e, q1, q2, q3, q4, q5⟩ := find_up (D := D) (a := a) (m := m) (b := b) (cmp := cmp) (by omega) (b - m) m b (Nat.le_refl _) (Nat.le_refl _) (by omega) (Nat.le_refl _) (.inl rfl) (.inl rfl)
    refine ⟨e, q1, q2, q3, q4, ?_⟩
    rw [q5, dn_nat (x := e) (by omega), show (((e - 1 : Nat) : Int) - a).toNat = e - 1 - a by omega]
  · right
    have e1 : (IntKind.i64.wrap ((m : Int) - a) == 1) = false := by rw [wrapI _ (by omega)]; simp; omega
    rw [e1, cond_false]
    by_cases h2 : b = m + 1
    · refine .inl ⟨h2, ?_⟩
      have e2 : (IntKind.i64.wrap ((b : Int) - m) == 1) = true := by rw [wrapI _ (by omega)]; simp; omega
      rw [e2, cond_true, show ((m : Int) - a).toNat = m - a by omega]
      obtain ⟨s, q1, q2, q3, q4, q5⟩ := find_down (D := D) (a := a) (m := m) (cmp := cmp) (by omega) (m - a) a m (Nat.le_refl _) (Nat.le_refl _) (by omega) (Nat.le_refl _) (.inl rfl) (.inl rfl)
      refine ⟨s, q1, q2, q3, q4, ?_⟩
      rw [q5, show ((m : Int) - s).toNat = m - s by omega]
    · right
      have e2 : (IntKind.i64.wrap ((b : Int) - m) == 1) = false := by rw [wrapI _ (by omega)]; simp; omega
      rw [e2, cond_false, half_nat (x := a) (y := b) (by omega)]
      have e3 : IntKind.i64.wrap ((((a + b) / 2 : Nat) : Int) + m) = (((a + b) / 2 + m : Nat) : Int) := by rw [wrapI _ (by omega)]; omega
      rw [e3]
      by_cases h3 : (a + b) / 2 < m
      · have e4 : IntKind.i64.wrap ((((a + b) / 2 + m : Nat) : Int) - b) = (((a + b) / 2 + m - b : Nat) : Int) := by rw [wrapI _ (by omega)]; omega
        rw [decide_eq_true (by omega : (m : Int) > (((a + b) / 2 : Nat) : Int)), cond_true, e4, show ((((a + b) / 2 : Nat) : Int) - (((a + b) / 2 + m - b : Nat) : Int)).toNat = (a + b) / 2 - ((a + b) / 2 + m - b) by omega]
        obtain ⟨s, q1, q2, q3, q4, q5⟩ := find_mid (rec := rec) (D := D) (a := a) (m := m) (b := b) (lo := (a + b) / 2 + m - b) (hi := (a + b) / 2) (cmp := cmp) (by omega) (by omega) (by omega) (by omega) _ _ _ (Nat.le_refl _) (Nat.le_refl _) (by omega) (Nat.le_refl _) (.inl rfl) (.inl rfl)
        refine ⟨s, (a + b) / 2 + m - s, (a + b) / 2, by omega, ?_, ?_, q5⟩
        · rcases q3 with q | q
          · right; left; omega
          · by_cases c : s = 0
            · left; omega
            · right; right; rw [show (a + b) / 2 + m - 1 - (s - 1) = (a + b) / 2 + m - s by omega] at q; exact q
        · rcases q4 with q | q
          · right; left; omega
          · right; right; rw [show (a + b) / 2 + m - s - 1 = (a + b) / 2 + m - 1 - s by omega]; exact q
      · rw [decide_eq_false (by omega : ¬ (m : Int) > (((a + b) / 2 : Nat) : Int)), cond_false, show ((m : Int) - a).toNat = m - a by omega]
        obtain ⟨s, q1, q2, q3, q4, q5⟩ := find_mid (rec := rec) (D := D) (a := a) (m := m) (b := b) (lo := a) (hi := m) (cmp := cmp) (by omega) (by omega) (by omega) (by omega) _ _ _ (Nat.le_refl _) (Nat.le_refl _) (by omega) (Nat.le_refl _) (.inl rfl) (.inl rfl)
        refine ⟨s, (a + b) / 2 + m - s, (a + b) / 2, by omega, ?_, ?_, q5⟩
        · rcases q3 with q | q
          · left; exact q
          · by_cases c : s = 0
            · left; omega
            · right; right; rw [show (a + b) / 2 + m - 1 - (s - 1) = (a + b) / 2 + m - s by omega] at q; exact q
        · rcases q4 with q | q
          · left; exact q
          · right; right; rw [show (a + b) / 2 + m - s - 1 = (a + b) / 2 + m - 1 - s by omega]; exact q
theorem sym_perm {rec : List Int → Int → Int → Int → (Int → Int → Int) → List Int} {D : List Int} {a m b : Nat} {cmp : Int → Int → Int} (h : a < m ∧ m < b ∧ b ≤ D.length) (hL : D.length ≤ 1000000) (hrp : ∀ (d : List Int) (a' m' b' : Nat) (cmp : Int → Int → Int), a' < m' ∧ m' < b' ∧ b' ≤ d.length → d.length ≤ 1000000 → b' - a' < b - a → (rec d a' m' b' cmp).Perm d) : (symMergeB rec D a m b cmp).Perm D := by
  rcases sym_cases rec cmp h hL with ⟨h1, e, q1, q2, -, -, q5⟩ | ⟨h1, s, q1, q2, -, -, q5⟩ | ⟨s, e, mid, q1, -, -, q5⟩
  · rw [q5]; exact (up_loop (L := D.length) hL (by omega) _ a D rfl (by omega) rfl).1
  · rw [q5]; exact (down_loop (L := D.length) hL _ m D rfl (by omega) (by omega) rfl).1
  · rw [q5]
    unfold finish
    dsimp only
    have p1 : (bif decide ((s : Int) < m) && decide ((m : Int) < e) then rotate D s m e cmp else D).Perm D := by
      by_cases c : s < m ∧ m < e
      · rw [decide_eq_true (by omega : (s : Int) < m), decide_eq_true (by omega : (m : Int) < e)]; exact rotate_perm (by omega) hL
      · cases hc : (decide ((s : Int) < m) && decide ((m : Int) < e))
        · exact List.Perm.refl _
        · rw [Bool.and_eq_true, decide_eq_true_eq, decide_eq_true_eq] at hc; omega
    generalize (bif decide ((s : Int) < m) && decide ((m : Int) < e) then rotate D s m e cmp else D) = d1 at p1 ⊢
    have p2 : (bif decide ((a : Int) < s) && decide ((s : Int) < mid) then rec d1 a s mid cmp else d1).Perm D := by
      by_cases c : a < s ∧ s < mid
      · rw [decide_eq_true (by omega : (a : Int) < s), decide_eq_true (by omega : (s : Int) < mid)]; exact (hrp d1 a s mid cmp (by have := p1.length_eq; omega) (by rw [p1.length_eq]; exact hL) (by omega)).trans p1
      · cases hc : (decide ((a : Int) < s) && decide ((s : Int) < mid))
        · exact p1
        · rw [Bool.and_eq_true, decide_eq_true_eq, decide_eq_true_eq] at hc; omega
    generalize (bif decide ((a : Int) < s) && decide ((s : Int) < mid) then rec d1 a s mid cmp else d1) = d2 at p2 ⊢
    by_cases c : mid < e ∧ e < b
    · rw [decide_eq_true (by omega : (mid : Int) < e), decide_eq_true (by omega : (e : Int) < b)]; exact (hrp d2 mid e b cmp (by have := p2.length_eq; omega) (by rw [p2.length_eq]; exact hL) (by omega)).trans p2
    · cases hc : (decide ((mid : Int) < e) && decide ((e : Int) < b))
      · exact p2
      · rw [Bool.and_eq_true, decide_eq_true_eq, decide_eq_true_eq] at hc; omega
theorem perm_far {D R : List Int} (h : R.Perm D) {q : Nat} (hq : ¬ q < D.length) : gt R q = gt D q := by
  have := h.length_eq
  show R[q]! = D[q]!
  rw [getElem!_neg _ q (by omega), getElem!_neg _ q hq]
theorem fun_get {D R : List Int} {f : Nat → Int} (hp : R.Perm D) (h1 : ∀ q, q < D.length → R[q]! = f q) (h2 : ∀ q, ¬ q < D.length → f q = gt D q) : gt R = f := by
  funext q
  by_cases h : q < D.length
  · exact h1 q h
  · rw [h2 q h]; exact perm_far hp h
theorem sym_post {rec : List Int → Int → Int → Int → (Int → Int → Int) → List Int} {D : List Int} {a m b : Nat} {cmp : Int → Int → Int} (ok : LeOk cmp) (h : a < m ∧ m < b ∧ b ≤ D.length) (hL : D.length ≤ 1000000) (u : Srt cmp (gt D) a m) (v : Srt cmp (gt D) m b)
    (hrp : ∀ (d : List Int) (a' m' b' : Nat) (cmp : Int → Int → Int), a' < m' ∧ m' < b' ∧ b' ≤ d.length → d.length ≤ 1000000 → b' - a' < b - a → (rec d a' m' b' cmp).Perm d)
    (hrs : ∀ (d : List Int) (a' m' b' : Nat), a' < m' ∧ m' < b' ∧ b' ≤ d.length → d.length ≤ 1000000 → b' - a' < b - a → Srt cmp (gt d) a' m' → Srt cmp (gt d) m' b' → Post cmp a' b' (gt d) (gt (rec d a' m' b' cmp))) : Post cmp a b (gt D) (gt (symMergeB rec D a m b cmp)) := by
  rcases sym_cases rec cmp h hL with ⟨h1, e, q1, q2, q3, q4, q5⟩ | ⟨h1, s, q1, q2, q3, q4, q5⟩ | ⟨s, e, mid, q1, q3, q4, q5⟩
  · rw [q5]
    obtain ⟨p, g⟩ := up_loop (i := e) (L := D.length) hL (by omega) _ a D rfl (by omega) rfl
    rw [fun_get p g (fun q hq => by rw [rotf_out (by omega) (by omega)])]
    have sp := rot_split ok (f := gt D) (a := a) (s := a) (m := m) (e := e) (b := b) (by omega) u v (.inl rfl) (by
      rcases q3 with q | q
      · exact .inr (.inl q)
      · exact .inr (.inr (ok.lt q)))
    rw [show a + 1 = m by omega]
    refine Post.merge (s := a) (m := m) (e := e) (by omega) sp (Post.id sp.s2) (Post.id (sp.s3.join ok sp.s4 ?_))
    rcases q4 with q | q
    · exact .inr (.inl q)
    · right; right
      by_cases c : e = b
      · rw [rotf_hi (by omega), rotf_out (by omega) (by omega), show e - 1 - (e - m) = a by omega]; exact q
      · rw [rotf_hi (by omega), rotf_out (by omega) (by omega), show e - 1 - (e - m) = a by omega]; exact q
  · rw [q5]
    obtain ⟨p, g⟩ := down_loop (i := s) (L := D.length) hL _ m D rfl (by omega) (by omega) rfl
    rw [fun_get p g (fun q hq => by rw [rotf_out (by omega) (by omega)])]
    subst h1
    have sp := rot_split ok (f := gt D) (a := a) (s := s) (m := m) (e := m + 1) (b := m + 1) (by omega) u v (.inr (.inl rfl)) (by
      rcases q4 with q | q
      · exact .inl q
      · exact .inr (.inr (ok.lt q)))
    refine Post.merge (s := s) (m := m) (e := m + 1) (by omega) sp (Post.id (sp.s1.join ok sp.s2 ?_)) (Post.id sp.s3)
    rcases q3 with q | q
    · exact .inl q.symm
    · right; right
      by_cases c : s = 0
      · subst c
        rw [show rotf 0 m (m + 1) (gt D) (0 - 1) = rotf 0 m (m + 1) (gt D) 0 from rfl]; exact ok.refl _
      · rw [rotf_out (by omega) (by omega), rotf_lo (by omega), show s + (m - s) = m by omega]; exact q
  · rw [q5]
    unfold finish
    dsimp only
    obtain ⟨m1, m2, m3, m4, rfl, m6, m7⟩ := q1
    have sp := rot_split ok (f := gt D) (a := a) (s := s) (m := m) (e := e) (b := b) (by omega) u v q3 (by
      rcases q4 with q | q | q
      · exact .inl q
      · exact .inr (.inl q)
      · exact .inr (.inr (ok.lt q)))
    have p1 : (bif decide ((s : Int) < m) && decide ((m : Int) < e) then rotate D s m e cmp else D).Perm D ∧ gt (bif decide ((s : Int) < m) && decide ((m : Int) < e) then rotate D s m e cmp else D) = rotf s m e (gt D) := by
      by_cases c : s < m ∧ m < e
      · rw [decide_eq_true (by omega : (s : Int) < m), decide_eq_true (by omega : (m : Int) < e)]; exact ⟨rotate_perm (by omega) hL, funext fun q => rotate_get (by omega) hL q⟩
      · cases hc : (decide ((s : Int) < m) && decide ((m : Int) < e))
        · exact ⟨List.Perm.refl _, (rotf_none (by omega) (by omega)).symm⟩
        · rw [Bool.and_eq_true, decide_eq_true_eq, decide_eq_true_eq] at hc; omega
    generalize (bif decide ((s : Int) < m) && decide ((m : Int) < e) then rotate D s m e cmp else D) = d1 at p1 ⊢
    obtain ⟨p1, g1⟩ := p1
    rw [← g1] at sp
    have p2 : (bif decide ((a : Int) < s) && decide ((s : Int) < (s + (e - m) : Nat)) then rec d1 a s (s + (e - m) : Nat) cmp else d1).Perm D ∧ Post cmp a (s + (e - m)) (gt d1) (gt (bif decide ((a : Int) < s) && decide ((s : Int) < (s + (e - m) : Nat)) then rec d1 a s (s + (e - m) : Nat) cmp else d1)) := by
      by_cases c : a < s ∧ s < s + (e - m)
      · rw [decide_eq_true (by omega : (a : Int) < s), decide_eq_true (by omega : (s : Int) < (s + (e - m) : Nat))]
        exact ⟨(hrp d1 a s (s + (e - m)) cmp (by have := p1.length_eq; omega) (by rw [p1.length_eq]; exact hL) (by omega)).trans p1, hrs d1 a s (s + (e - m)) (by have := p1.length_eq; omega) (by rw [p1.length_eq]; exact hL) (by omega) sp.s1 sp.s2⟩
      · cases hc : (decide ((a : Int) < s) && decide ((s : Int) < (s + (e - m) : Nat)))
        · exact ⟨p1, Post.id (sp.s1.join ok sp.s2 (by omega))⟩
        · rw [Bool.and_eq_true, decide_eq_true_eq, decide_eq_true_eq] at hc; omega
    generalize (bif decide ((a : Int) < s) && decide ((s : Int) < (s + (e - m) : Nat)) then rec d1 a s (s + (e - m) : Nat) cmp else d1) = d2 at p2 ⊢
    obtain ⟨p2, g2⟩ := p2
    have t3 : Srt cmp (gt d2) (s + (e - m)) e := fun i j r1 r2 r3 => by rw [g2.1 i (by omega), g2.1 j (by omega)]; exact sp.s3 i j r1 r2 r3
    have t4 : Srt cmp (gt d2) e b := fun i j r1 r2 r3 => by rw [g2.1 i (by omega), g2.1 j (by omega)]; exact sp.s4 i j r1 r2 r3
    rw [g1] at sp g2
    refine Post.merge (s := s) (m := m) (e := e) (by omega) sp g2 ?_
    by_cases c : s + (e - m) < e ∧ e < b
    · rw [decide_eq_true (by omega : ((s + (e - m) : Nat) : Int) < e), decide_eq_true (by omega : (e : Int) < b)]
      exact hrs d2 (s + (e - m)) e b (by have := p2.length_eq; omega) (by rw [p2.length_eq]; exact hL) (by omega) t3 t4
    · cases hc : (decide (((s + (e - m) : Nat) : Int) < e) && decide ((e : Int) < b))
      · exact Post.id (t3.join ok t4 (by omega))
      · rw [Bool.and_eq_true, decide_eq_true_eq, decide_eq_true_eq] at hc; omega
end Go.Proofs.Ytoieegmebadfkaa
namespace Go.Proofs.Ytoieegmebadfkaa
open Go.Am
def symMergeO : Nat → List Int → Int → Int → Int → (Int → Int → Int) → List Int
  | 0, d, _, _, _, _ => d
  | n + 1, d, a, m, b, cmp => symMergeB (symMergeO n) d a m b cmp
theorem symO_perm : ∀ (n : Nat) (d : List Int) (a m b : Nat) (cmp : Int → Int → Int), a < m ∧ m < b ∧ b ≤ d.length → d.length ≤ 1000000 → (symMergeO n d a m b cmp).Perm d
  | 0, _, _, _, _, _, _, _ => List.Perm.refl _
  | n + 1, _, _, _, _, _, h, hL => sym_perm h hL fun d a' m' b' cmp h' hL' _ => symO_perm n d a' m' b' cmp h' hL'
theorem symO_post {cmp : Int → Int → Int} (ok : LeOk cmp) : ∀ (n : Nat) (d : List Int) (a m b : Nat), a < m ∧ m < b ∧ b ≤ d.length → d.length ≤ 1000000 → b - a ≤ n → Srt cmp (gt d) a m → Srt cmp (gt d) m b → Post cmp a b (gt d) (gt (symMergeO n d a m b cmp))
  | 0, d, a, m, b, h, hL, hn, u, v => by omega
  | n + 1, d, a, m, b, h, hL, hn, u, v => sym_post ok h hL u v (fun d a' m' b' cmp h' hL' _ => symO_perm n d a' m' b' cmp h' hL') fun d a' m' b' h' hL' hlt u' v' => symO_post ok n d a' m' b' h' hL' (by omega) u' v'
theorem symO_calls {P_ : Int → Prop} : ∀ (n : Nat) (data : List Int) (a m b : Int) (cmp : Int → Int → Int) (g : Nat) (caps : List AV) (_ : ∀ (x0 : Int) (x1 : Int), P_ x0 → P_ x1 → PCalls Try.prog g ([.pv (.lit (.int .i64 x0)), .pv (.lit (.int .i64 x1))] ++ caps) (.pv (.lit (.int .i64 (cmp x0 x1))))) (_ : AV.withinL (fun _ => false) caps = true) (_ : 0 ≤ a ∧ a < m ∧ m < b ∧ b ≤ (data.length : Int)) (_ : data.length ≤ 1000000) (_ : ∀ x ∈ data, P_ x) (_ : b - a ≤ (n : Int)), MCalls Try.prog 76 [.sl 0 0 data.length 1 false, .pv (.lit (.int .i64 a)), .pv (.lit (.int .i64 m)), .pv (.lit (.int .i64 b)), .fn g [] caps] (.cells (encC (eI .i64) data)) (.tup []) (.cells (encC (eI .i64) (symMergeO n data a m b cmp)))
  | 0, _, _, _, _, _, _, _, _, _, h, _, _, hn => absurd hn (by omega)
  | n + 1, data, a, m, b, cmp, g, caps, hp, hw, h, hL, hs, hn =>
    symMergeB_calls (symMergeO n) data a m b cmp (fun d_ a_ m_ b_ cmp_ g_ caps_ hp_ hw_ h_ hlt hpm => symO_calls n d_ a_ m_ b_ cmp_ g_ caps_ hp_ hw_ (by rw [hpm.length_eq]; exact h_) (by rw [hpm.length_eq]; exact hL) (mem_perm hpm hs) (by omega)) g caps hp hw h hL hs (fun d_ a_ m_ b_ cmp_ h_ _ hpm => by
      obtain ⟨a', rfl⟩ := Int.eq_ofNat_of_zero_le h_.1
      obtain ⟨m', rfl⟩ := Int.eq_ofNat_of_zero_le (show 0 ≤ m_ by omega)
      obtain ⟨b', rfl⟩ := Int.eq_ofNat_of_zero_le (show 0 ≤ b_ by omega)
      exact (symO_perm n d_ a' m' b' cmp_ (by have := hpm.length_eq; omega) (by rw [hpm.length_eq]; exact hL)).trans hpm)
/-- What insertion keeps: all but place j is sorted, and what is above j is not below it. -/
def InsInv (cmp : Int → Int → Int) (a j hi : Nat) (f : Nat → Int) : Prop := (∀ p q, a ≤ p → p < q → q < hi → p ≠ j → q ≠ j → Lq cmp (f p) (f q)) ∧ ∀ q, j < q → q < hi → Lq cmp (f j) (f q)
theorem ins_l1 {cmp : Int → Int → Int} (ok : LeOk cmp) {a hi L : Nat} (hL : L ≤ 1000000) (hhi : hi ≤ L) (kk : Int → List Int → List Int) : ∀ (k j : Nat) (vc : List Int), j - a = k → a ≤ j → j < hi → vc.length = L → InsInv cmp a j hi (gt vc) → ∃ (j' : Int) (w : List Int), insSort_l1 a cmp kk (k + 1) j vc = kk j' w ∧ w.Perm vc ∧ (∀ q, ¬ (a ≤ q ∧ q < hi) → gt w q = gt vc q) ∧ Srt cmp (gt w) a hi
  | k, j, vc, hk, h1, h2, hv, hI => by
    unfold insSort_l1
    have fin : (j = a ∨ Lq cmp (gt vc (j - 1)) (gt vc j)) → Srt cmp (gt vc) a hi := fun hc p q r1 r2 r3 => by
      by_cases c1 : p = j
      · subst c1; exact hI.2 q r2 r3
      · by_cases c2 : q = j
        · subst c2
          rcases hc with hc | hc
          · omega
          · by_cases c3 : p = q - 1
            · subst c3; exact hc
            · exact ok.tr (hI.1 p (q - 1) r1 (by omega) (by omega) c1 (by omega)) hc
        · exact hI.1 p q r1 r2 r3 c1 c2
    by_cases h : a < j
    · rw [decide_eq_true (by omega : (j : Int) > a), cond_true, dn_nat (x := j) (by omega), Int.toNat_natCast, Int.toNat_natCast]
      obtain ⟨k, rfl⟩ : ∃ q, k = q + 1 := ⟨k - 1, by omega⟩
      by_cases c : cmp vc[j]! vc[j - 1]! < 0
      · rw [decide_eq_true c, cond_true]
        have hp : ((vc.set j vc[j - 1]!).set (j - 1) vc[j]!).Perm vc := swap_perm (by omega) (by omega)
        have hg : ∀ q, q < L → gt ((vc.set j vc[j - 1]!).set (j - 1) vc[j]!) q = if j - 1 = q then vc[j]! else if j = q then vc[j - 1]! else vc[q]! := fun q hq => swap_get (by omega)
        generalize ((vc.set j vc[j - 1]!).set (j - 1) vc[j]!) = w at hp hg ⊢
        have g1 : gt w (j - 1) = gt vc j := by rw [hg _ (by omega), if_pos rfl]
        have g2 : gt w j = gt vc (j - 1) := by rw [hg _ (by omega), if_neg (by omega), if_pos rfl]
        have g3 : ∀ q, q ≠ j → q ≠ j - 1 → gt w q = gt vc q := fun q r1 r2 => by
          by_cases hq : q < L
          · rw [hg _ hq, if_neg (by omega), if_neg (by omega)]
          · exact perm_far hp (by omega)
        have i1 : ∀ p q, a ≤ p → p < q → q < hi → p ≠ j - 1 → q ≠ j - 1 → Lq cmp (gt w p) (gt w q) := fun p q r1 r2 r3 r4 r5 => by
          by_cases c1 : p = j
          · subst c1; rw [g2, g3 q (by omega) r5]; exact hI.1 _ _ (by omega) (by omega) r3 (by omega) (by omega)
          · rw [g3 p c1 r4]
            by_cases c2 : q = j
            · subst c2; rw [g2]; exact hI.1 _ _ r1 (by omega) (by omega) c1 (by omega)
            · rw [g3 q c2 r5]; exact hI.1 p q r1 r2 r3 c1 c2
        have i2 : ∀ q, j - 1 < q → q < hi → Lq cmp (gt w (j - 1)) (gt w q) := fun q r1 r2 => by
          rw [g1]
          by_cases c2 : q = j
          · subst c2; rw [g2]; exact ok.lt c
          · rw [g3 q c2 (by omega)]; exact hI.2 q (by omega) r2
        obtain ⟨j', w', e, hp', ho, hs⟩ := ins_l1 ok (a := a) (hi := hi) hL hhi kk k (j - 1) w (by omega) (by omega) (by omega) (by rw [hp.length_eq]; exact hv) ⟨i1, i2⟩
        exact ⟨j', w', e, hp'.trans hp, fun q hq => by rw [ho q hq, g3 q (by omega) (by omega)], hs⟩
      · rw [decide_eq_false c, cond_false]
        exact ⟨_, _, rfl, List.Perm.refl _, fun _ _ => rfl, fin (.inr c)⟩
    · rw [decide_eq_false (by omega : ¬ (j : Int) > a), cond_false]
      exact ⟨_, _, rfl, List.Perm.refl _, fun _ _ => rfl, fin (.inl (by omega))⟩
theorem ins_l0 {cmp : Int → Int → Int} (ok : LeOk cmp) {a b L : Nat} (hL : L ≤ 1000000) (hb : b ≤ L) : ∀ (k i : Nat) (vc : List Int), b - i = k → a + 1 ≤ i → vc.length = L → Srt cmp (gt vc) a i → (insSort_l0 a b cmp (k + 1) i vc).Perm vc ∧ (∀ q, ¬ (a ≤ q ∧ q < b) → gt (insSort_l0 a b cmp (k + 1) i vc) q = gt vc q) ∧ Srt cmp (gt (insSort_l0 a b cmp (k + 1) i vc)) a b
  | k, i, vc, hk, hi, hv, hs => by
    unfold insSort_l0
    by_cases h : i < b
    · rw [decide_eq_true (by omega : (i : Int) < b), cond_true, show ((i : Int) - a).toNat = i - a by omega]
      obtain ⟨k, rfl⟩ : ∃ q, k = q + 1 := ⟨k - 1, by omega⟩
      obtain ⟨j', w, e, hp, ho, hw⟩ := ins_l1 ok (a := a) (hi := i + 1) hL (by omega) (fun _ vc1 => insSort_l0 a b cmp (k + 1) (IntKind.i64.wrap ((i : Int) + 1)) vc1) (i - a) i vc rfl (by omega) (by omega) hv ⟨fun p q r1 r2 r3 _ r5 => hs p q r1 r2 (by omega), fun q r1 r2 => absurd r2 (by omega)⟩
      rw [e, up_nat (by omega)]
      obtain ⟨p2, o2, s2⟩ := ins_l0 ok (a := a) hL hb k (i + 1) w (by omega) (by omega) (by rw [hp.length_eq]; exact hv) hw
      exact ⟨p2.trans hp, fun q hq => by rw [o2 q hq, ho q (by omega)], s2⟩
    · rw [decide_eq_false (by omega : ¬ (i : Int) < b), cond_false]
      exact ⟨List.Perm.refl _, fun _ _ => rfl, fun p q r1 r2 r3 => hs p q r1 r2 (by omega)⟩
theorem ins_sorts {cmp : Int → Int → Int} (ok : LeOk cmp) {a b : Nat} {data : List Int} (hL : data.length ≤ 1000000) (hb : a ≤ b ∧ b ≤ data.length) : (insSort data a b cmp).Perm data ∧ (∀ q, ¬ (a ≤ q ∧ q < b) → gt (insSort data a b cmp) q = gt data q) ∧ Srt cmp (gt (insSort data a b cmp)) a b := by
  unfold insSort
  rw [up_nat (by omega), show ((b : Int) - ((a + 1 : Nat) : Int)).toNat = b - (a + 1) by omega]
  exact ins_l0 ok hL hb.2 _ _ _ rfl (Nat.le_refl _) rfl (fun p q r1 r2 r3 => by omega)
end Go.Proofs.Ytoieegmebadfkaa
namespace Go.Proofs.Ytoieegmebadfkaa
open Go.Am
theorem ins_permI {cmp : Int → Int → Int} {vc : List Int} {a b : Int} (ok : LeOk cmp) (h : 0 ≤ a ∧ a ≤ b ∧ b ≤ (vc.length : Int)) (hL : vc.length ≤ 1000000) : (insSort vc a b cmp).Perm vc := by
  obtain ⟨a', rfl⟩ := Int.eq_ofNat_of_zero_le h.1
  obtain ⟨b', rfl⟩ := Int.eq_ofNat_of_zero_le (show 0 ≤ b by omega)
  exact (ins_sorts ok hL (by omega)).1
theorem symO_permI {n : Nat} {cmp : Int → Int → Int} {vc : List Int} {a m b : Int} (h : 0 ≤ a ∧ a < m ∧ m < b ∧ b ≤ (vc.length : Int)) (hL : vc.length ≤ 1000000) : (symMergeO n vc a m b cmp).Perm vc := by
  obtain ⟨a', rfl⟩ := Int.eq_ofNat_of_zero_le h.1
  obtain ⟨m', rfl⟩ := Int.eq_ofNat_of_zero_le (show 0 ≤ m by omega)
  obtain ⟨b', rfl⟩ := Int.eq_ofNat_of_zero_le (show 0 ≤ b by omega)
  exact symO_perm _ _ _ _ _ _ (by omega) hL
end Go.Proofs.Ytoieegmebadfkaa
