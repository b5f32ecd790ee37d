import Derived.Test.YtihccnkegkkikaaM3
import Derived.Shelf.Small.Bits
import Derived.Sort.Row
import Derived.Sort.Grow
import Derived.Deep.Draws
import Derived.Shelf.SlSortCmp.Whole1
/- The reference: who is near, how far a write goes. No conditions. -/
namespace Go.Proofs.Ytihccnkegkkikaa
open Go.Am
def rNear_l2 (w : (Nat → (Nat → Int))) (from_ : Int) (x : Bool) (i1 : Nat) (kk : (List Int) → ((Sl Int) × Int)) : List Member → Nat → (List Int) → (Sl Int) × Int
  | [], _, out2 => kk out2
  | x1 :: x1s, i2, out2 => (bif (x1.fresh == x) then (bif (((w from_.toNat) x1.site.toNat) == (i1 : Int)) then rNear_l2 w from_ x i1 kk x1s (i2 + 1) (out2 ++ [x1.node]) else rNear_l2 w from_ x i1 kk x1s (i2 + 1) out2) else rNear_l2 w from_ x i1 kk x1s (i2 + 1) out2)
def rNear_l1 (c : Chain) (w : (Nat → (Nat → Int))) (from_ : Int) (x : Bool) (kk : (List Int) → ((Sl Int) × Int)) : Nat → Nat → (List Int) → (Sl Int) × Int
  | 0, _, out1 => kk out1
  | k + 1, i1, out1 => rNear_l2 w from_ x i1 (fun out3 => rNear_l1 c w from_ x kk k (i1 + 1) out3) c.members.D 0 out1
def rNear_l0 (c : Chain) (w : (Nat → (Nat → Int))) (from_ : Int) : List Bool → Nat → (List Int) → (Sl Int) × Int
  | [], _, out => ((Sl.mk out.isEmpty out), 0)
  | x :: xs, i, out => rNear_l1 c w from_ x (fun out4 => rNear_l0 c w from_ xs (i + 1) out4) 1001 0 out
def rNear (c : Chain) (w : (Nat → (Nat → Int))) (from_ : Int) : (Sl Int) × Int :=
  (bif ((rMay c w from_) != 0) then ((Sl.mk true []), (rMay c w from_)) else rNear_l0 c w from_ [false, true] 0 [])
theorem rNear_calls (c : Chain) (w : (Nat → (Nat → Int))) (from_ : Int) (hl1 : c.members.D.length ≤ 1000000) : PCalls Try.prog 16 [.agg [.pv (.lit (.int .i64 c.epoch)), sS (some c.members.nil) eMember c.members.D], .agg [.pv (.lit (.int .i64 ((w 0) 0))), .pv (.lit (.int .i64 ((w 0) 1))), .pv (.lit (.int .i64 ((w 0) 2))), .pv (.lit (.int .i64 ((w 1) 0))), .pv (.lit (.int .i64 ((w 1) 1))), .pv (.lit (.int .i64 ((w 1) 2))), .pv (.lit (.int .i64 ((w 2) 0))), .pv (.lit (.int .i64 ((w 2) 1))), .pv (.lit (.int .i64 ((w 2) 2)))], .pv (.lit (.int .i64 from_))] (.tup [sS (some (rNear c w from_).1.nil) (eI .i64) ((rNear c w from_).1.D), .pv (.lit (.int .i64 ((rNear c w from_).2)))]) := by
 generalize hR : rNear c w from_ = R
 refine PCalls.of_body tabOk Try.func16 rfl rfl rfl rfl rfl mixed fun E hP C hI => ?_
 refine Awp.consP C ?_
 refine rvc_un (rexec_prim C (δ := { v := .ptr 3 0, new := [(3, .cells [.pv (.lit (.int .i64 c.epoch)), sS (some c.members.nil) eMember c.members.D])] }) rfl rfl rfl rfl trivial rfl ?_)
 refine rvc_un (rexec_prim C (δ := { v := .ptr 4 0, new := [(4, .cells [.pv (.lit (.int .i64 ((w 0) 0))), .pv (.lit (.int .i64 ((w 0) 1))), .pv (.lit (.int .i64 ((w 0) 2))), .pv (.lit (.int .i64 ((w 1) 0))), .pv (.lit (.int .i64 ((w 1) 1))), .pv (.lit (.int .i64 ((w 1) 2))), .pv (.lit (.int .i64 ((w 2) 0))), .pv (.lit (.int .i64 ((w 2) 1))), .pv (.lit (.int .i64 ((w 2) 2)))])] }) rfl rfl rfl rfl trivial rfl ?_)
 refine rvP C (sS (some true) (eI .i64) []) ?_
 refine rvP C (.pv (.lit (.int .i64 0))) ?_
 refine rvc_nil ?_
 refine Awp.seq ?_
 refine Awp.consP C ?_
 refine rvP C (.agg [.pv (.lit (.int .i64 c.epoch)), sS (some c.members.nil) eMember c.members.D]) ?_
 refine rvP C (.agg [.pv (.lit (.int .i64 ((w 0) 0))), .pv (.lit (.int .i64 ((w 0) 1))), .pv (.lit (.int .i64 ((w 0) 2))), .pv (.lit (.int .i64 ((w 1) 0))), .pv (.lit (.int .i64 ((w 1) 1))), .pv (.lit (.int .i64 ((w 1) 2))), .pv (.lit (.int .i64 ((w 2) 0))), .pv (.lit (.int .i64 ((w 2) 1))), .pv (.lit (.int .i64 ((w 2) 2)))]) ?_
 refine rvP C (.pv (.lit (.int .i64 from_))) ?_
 refine rvc_un (rexec_call hP C rfl rfl rfl (rMay_calls c w from_ hl1) ?_)
 refine rvP C (.pv (.lit (.int .i64 (rMay c w from_)))) ?_
 refine rvc_nil ?_
 refine Awp.consP C ?_
 refine rvP C (.pv (.lit (.int .i64 (rMay c w from_)))) ?_
 refine rvP C (.pv (.lit (.bool ((rMay c w from_) != 0)))) ?_
 refine rvc_nil ?_
 refine Awp.cond (b := ((rMay c w from_) != 0)) rfl (fun h1 => ?_) (fun h1 => ?_)
 ·
  replace hR := of_true h1 hR
  refine Awp.consP C ?_
  refine rvP C (.pv (.lit (.int .i64 (rMay c w from_)))) ?_
  refine rvP C (sS (some true) (eI .i64) []) ?_
  refine rvP C (.pv (.lit (.int .i64 (rMay c w from_)))) ?_
  refine rvc_nil ?_
  refine Awp.ret ?_
  subst hR
  exact ⟨.inl rfl, rfl⟩
 ·
  replace hR := of_false h1 hR
  refine Awp.skip ?_
  refine Awp.consP C ?_
  refine rvP C (sS (some true) (eI .i64) []) ?_
  refine rvc_nil ?_
  refine Awp.seq ?_
  refine Awp.consP C ?_
  refine rvc_un (rexec_buildSliceF C eB [false, true] rfl rfl rfl rfl rfl rfl rfl (by decide) rfl ?_)
  refine rvP C (.pv (.lit (.int .i64 ([false, true].length : Int)))) ?_
  refine rvP C (.pv (.lit (.int .i64 0))) ?_
  refine rvc_nil ?_
  refine Awp.block ?_
  refine Awp.forR (σ := ((List Int))) ([false, true].length) (fun i v => [(2, .pv (.lit (.int .i64 from_))), (3, .ptr 3 0), (4, .ptr 4 0), (9, grow 900 (eI .i64) v), (22, sS (some false) eB [false, true]), (23, .pv (.lit (.int .i64 ([false, true].length : Int)))), (24, .pv (.lit (.int .i64 (i : Int))))]) (fun i v => (growH 900 (eI .i64) v ++ ([(3, .cells [.pv (.lit (.int .i64 c.epoch)), sS (some c.members.nil) eMember c.members.D]), (4, .cells [.pv (.lit (.int .i64 ((w 0) 0))), .pv (.lit (.int .i64 ((w 0) 1))), .pv (.lit (.int .i64 ((w 0) 2))), .pv (.lit (.int .i64 ((w 1) 0))), .pv (.lit (.int .i64 ((w 1) 1))), .pv (.lit (.int .i64 ((w 1) 2))), .pv (.lit (.int .i64 ((w 2) 0))), .pv (.lit (.int .i64 ((w 2) 1))), .pv (.lit (.int .i64 ((w 2) 2)))])]))) [3, 4, 900] (fun i v => (rNear_l0 c w from_ ([false, true].drop i) i v = R) ∧ (v.length ≤ i * 6006)) [] ?_ ?_ (fun i out h2 hR => ?_)
  · exact ⟨hR, (by first | omega | (simp <;> omega))⟩
  · exact ⟨fun b => b, WeakerR.ofL (Ks := [3, 4, 900]) hI ⟨⟨rfl, rfl⟩, ⟨rfl, rfl⟩, ⟨rfl, rfl⟩, ⟨rfl, rfl⟩, ⟨rfl, rfl⟩, ⟨rfl, rfl⟩, ⟨rfl, rfl⟩, trivial⟩ (okH_grow (fun hne => absurd rfl hne) rfl rfl (okH_cons rfl rfl rfl rfl (okH_cons rfl rfl rfl rfl (okH_nil)))) rfl⟩
  obtain ⟨hR, hi_out⟩ := hR
  replace hi_out : out.length ≤ i * 6006 := hi_out
  have h6_ := check_le6 (may_ok (eq_of_bne_false h1)).1
  have hb2_ : ([false, true] : List Bool).length = 2 := rfl
  by_cases h3 : out = []
  ·
   refine Awp.wordsR [(2, .pv (.lit (.int .i64 from_))), (3, .ptr 3 0), (4, .ptr 4 0), (9, sS (some out.isEmpty) (eI .i64) out), (22, sS (some false) eB [false, true]), (23, .pv (.lit (.int .i64 ([false, true].length : Int)))), (24, .pv (.lit (.int .i64 (i : Int))))] [(3, .cells [.pv (.lit (.int .i64 c.epoch)), sS (some c.members.nil) eMember c.members.D]), (4, .cells [.pv (.lit (.int .i64 ((w 0) 0))), .pv (.lit (.int .i64 ((w 0) 1))), .pv (.lit (.int .i64 ((w 0) 2))), .pv (.lit (.int .i64 ((w 1) 0))), .pv (.lit (.int .i64 ((w 1) 1))), .pv (.lit (.int .i64 ((w 1) 2))), .pv (.lit (.int .i64 ((w 2) 0))), .pv (.lit (.int .i64 ((w 2) 1))), .pv (.lit (.int .i64 ((w 2) 2)))])] [3, 4] (WeakerR.ofL (Ks := [3, 4]) hI ⟨⟨rfl, rfl⟩, ⟨rfl, rfl⟩, ⟨rfl, rfl⟩, ⟨(by exact grow_at_nil (b := 900) (e := (eI .i64)) (l := out) rfl h3), rfl⟩, ⟨rfl, rfl⟩, ⟨rfl, rfl⟩, ⟨rfl, rfl⟩, trivial⟩ (okH_cons (look_nil h3 rfl) rfl rfl rfl (okH_cons (look_nil h3 rfl) rfl rfl rfl (okH_nil))) rfl) ?_
   refine Awp.consP C ?_
   refine rvP C (.pv (.lit (.bool (decide ((i : Int) < ([false, true].length : Int)))))) ?_
   refine rvc_nil ?_
   refine Awp.seq ?_
   refine Awp.cond (b := (decide ((i : Int) < ([false, true].length : Int)))) rfl (fun h4 => ?_) (fun h4 => ?_)
   ·
    have h5 : i < [false, true].length := by have := of_decide_eq_true h4; omega
    obtain ⟨x, h6⟩ := getX h5
    rw [drop_at h6] at hR
    refine Awp.skip ?_
    refine Awp.seq ?_
    refine Awp.block ?_
    refine Awp.consP C ?_
    refine rvc_un (rexec_idxS C rfl rfl rfl rfl rfl rfl x (Int.natCast_nonneg _) h6 ?_)
    refine rvP C (.pv (.lit (.bool x))) ?_
    refine rvP C (.pv (.lit (.bool x))) ?_
    refine rvc_nil ?_
    refine Awp.consP C ?_
    refine rvP C (.pv (.lit (.int .i64 0))) ?_
    refine rvc_nil ?_
    refine Awp.block ?_
    refine Awp.forR (σ := ((List Int))) (1001) (fun i1 v => [(2, .pv (.lit (.int .i64 from_))), (3, .ptr 3 0), (4, .ptr 4 0), (9, grow 901 (eI .i64) v), (11, .pv (.lit (.bool x))), (22, sS (some false) eB [false, true]), (23, .pv (.lit (.int .i64 ([false, true].length : Int)))), (24, .pv (.lit (.int .i64 (i : Int)))), (28, .pv (.lit (.int .i64 (i1 : Int))))]) (fun i1 v => (growH 901 (eI .i64) v ++ ([(3, .cells [.pv (.lit (.int .i64 c.epoch)), sS (some c.members.nil) eMember c.members.D]), (4, .cells [.pv (.lit (.int .i64 ((w 0) 0))), .pv (.lit (.int .i64 ((w 0) 1))), .pv (.lit (.int .i64 ((w 0) 2))), .pv (.lit (.int .i64 ((w 1) 0))), .pv (.lit (.int .i64 ((w 1) 1))), .pv (.lit (.int .i64 ((w 1) 2))), .pv (.lit (.int .i64 ((w 2) 0))), .pv (.lit (.int .i64 ((w 2) 1))), .pv (.lit (.int .i64 ((w 2) 2)))])]))) [3, 4, 901] (fun i1 v => (rNear_l1 c w from_ x (fun out1 => rNear_l0 c w from_ ([false, true].drop (i + 1)) (i + 1) out1) (1001 - i1) i1 v = R) ∧ (v.length ≤ out.length + i1 * 6)) out ?_ ?_ (fun i1 out1 h7 hR => ?_)
    · exact ⟨hR, (by first | omega | (simp <;> omega))⟩
    · exact ⟨fun b => b, WeakerR.ofL (Ks := [3, 4, 901]) hI ⟨⟨rfl, rfl⟩, ⟨rfl, rfl⟩, ⟨rfl, rfl⟩, ⟨grow_to_nil rfl h3 (.inr rfl), grow_within rfl⟩, ⟨rfl, rfl⟩, ⟨rfl, rfl⟩, ⟨rfl, rfl⟩, ⟨rfl, rfl⟩, ⟨rfl, rfl⟩, trivial⟩ (okH_grow (fun hne => absurd h3 hne) rfl rfl (okH_cons rfl rfl rfl rfl (okH_cons rfl rfl rfl rfl (okH_nil)))) rfl⟩
    obtain ⟨hR, hi_out1⟩ := hR
    replace hi_out1 : out1.length ≤ out.length + i1 * 6 := hi_out1
    by_cases h8 : out1 = []
    ·
     refine Awp.wordsR [(2, .pv (.lit (.int .i64 from_))), (3, .ptr 3 0), (4, .ptr 4 0), (9, sS (some out1.isEmpty) (eI .i64) out1), (11, .pv (.lit (.bool x))), (22, sS (some false) eB [false, true]), (23, .pv (.lit (.int .i64 ([false, true].length : Int)))), (24, .pv (.lit (.int .i64 (i : Int)))), (28, .pv (.lit (.int .i64 (i1 : Int))))] [(3, .cells [.pv (.lit (.int .i64 c.epoch)), sS (some c.members.nil) eMember c.members.D]), (4, .cells [.pv (.lit (.int .i64 ((w 0) 0))), .pv (.lit (.int .i64 ((w 0) 1))), .pv (.lit (.int .i64 ((w 0) 2))), .pv (.lit (.int .i64 ((w 1) 0))), .pv (.lit (.int .i64 ((w 1) 1))), .pv (.lit (.int .i64 ((w 1) 2))), .pv (.lit (.int .i64 ((w 2) 0))), .pv (.lit (.int .i64 ((w 2) 1))), .pv (.lit (.int .i64 ((w 2) 2)))])] [3, 4] (WeakerR.ofL (Ks := [3, 4]) hI ⟨⟨rfl, rfl⟩, ⟨rfl, rfl⟩, ⟨rfl, rfl⟩, ⟨(by exact grow_at_nil (b := 901) (e := (eI .i64)) (l := out1) rfl h8), rfl⟩, ⟨rfl, rfl⟩, ⟨rfl, rfl⟩, ⟨rfl, rfl⟩, ⟨rfl, rfl⟩, ⟨rfl, rfl⟩, trivial⟩ (okH_cons (look_nil h8 rfl) rfl rfl rfl (okH_cons (look_nil h8 rfl) rfl rfl rfl (okH_nil))) rfl) ?_
     refine Awp.consP C ?_
     refine rvP C (.pv (.lit (.bool (decide ((i1 : Int) < 1001))))) ?_
     refine rvc_nil ?_
     refine Awp.seq ?_
     refine Awp.cond (b := (decide ((i1 : Int) < 1001))) rfl (fun h9 => ?_) (fun h9 => ?_)
     ·
      have h10 : i1 < 1001 := by have := of_decide_eq_true h9; omega
      obtain ⟨k, h11⟩ : ∃ k, 1001 - i1 = k + 1 := ⟨1001 - i1 - 1, by omega⟩
      rw [h11] at hR
      refine Awp.skip ?_
      refine Awp.seq ?_
      refine Awp.block ?_
      refine Awp.consP C ?_
      refine rvP C (.pv (.lit (.int .i64 (i1 : Int)))) ?_
      refine rvP C (.pv (.lit (.int .i64 (i1 : Int)))) ?_
      refine rvc_nil ?_
      refine Awp.consP C ?_
      refine rvP C (.ptr 3 1) ?_
      refine rvP C (sS (some c.members.nil) eMember c.members.D) ?_
      refine rvP C (.pv (.lit (.int .i64 (c.members.D.length : Int)))) ?_
      refine rvP C (.pv (.lit (.int .i64 0))) ?_
      refine rvc_nil ?_
      refine Awp.block ?_
      refine Awp.forR (σ := ((List Int))) (c.members.D.length) (fun i2 v => [(2, .pv (.lit (.int .i64 from_))), (3, .ptr 3 0), (4, .ptr 4 0), (9, grow 902 (eI .i64) v), (11, .pv (.lit (.bool x))), (12, .pv (.lit (.int .i64 (i1 : Int)))), (22, sS (some false) eB [false, true]), (23, .pv (.lit (.int .i64 ([false, true].length : Int)))), (24, .pv (.lit (.int .i64 (i : Int)))), (28, .pv (.lit (.int .i64 (i1 : Int)))), (32, sS (some c.members.nil) eMember c.members.D), (33, .pv (.lit (.int .i64 (c.members.D.length : Int)))), (34, .pv (.lit (.int .i64 (i2 : Int))))]) (fun i2 v => (growH 902 (eI .i64) v ++ ([(3, .cells [.pv (.lit (.int .i64 c.epoch)), sS (some c.members.nil) eMember c.members.D]), (4, .cells [.pv (.lit (.int .i64 ((w 0) 0))), .pv (.lit (.int .i64 ((w 0) 1))), .pv (.lit (.int .i64 ((w 0) 2))), .pv (.lit (.int .i64 ((w 1) 0))), .pv (.lit (.int .i64 ((w 1) 1))), .pv (.lit (.int .i64 ((w 1) 2))), .pv (.lit (.int .i64 ((w 2) 0))), .pv (.lit (.int .i64 ((w 2) 1))), .pv (.lit (.int .i64 ((w 2) 2)))])]))) [3, 4, 902] (fun i2 v => (rNear_l2 w from_ x i1 (fun out2 => rNear_l1 c w from_ x (fun out1 => rNear_l0 c w from_ ([false, true].drop (i + 1)) (i + 1) out1) k (i1 + 1) out2) (c.members.D.drop i2) i2 v = R) ∧ (v.length ≤ out1.length + i2)) out1 ?_ ?_ (fun i2 out2 h12 hR => ?_)
      · exact ⟨hR, (by first | omega | (simp <;> omega))⟩
      · exact ⟨fun b => b, WeakerR.ofL (Ks := [3, 4, 902]) hI ⟨⟨rfl, rfl⟩, ⟨rfl, rfl⟩, ⟨rfl, rfl⟩, ⟨grow_to_nil rfl h8 (.inr rfl), grow_within rfl⟩, ⟨rfl, rfl⟩, ⟨rfl, rfl⟩, ⟨rfl, rfl⟩, ⟨rfl, rfl⟩, ⟨rfl, rfl⟩, ⟨rfl, rfl⟩, ⟨rfl, rfl⟩, ⟨rfl, rfl⟩, ⟨rfl, rfl⟩, trivial⟩ (okH_grow (fun hne => absurd h8 hne) rfl rfl (okH_cons rfl rfl rfl rfl (okH_cons rfl rfl rfl rfl (okH_nil)))) rfl⟩
      obtain ⟨hR, hi_out2⟩ := hR
      replace hi_out2 : out2.length ≤ out1.length + i2 := hi_out2
      by_cases h13 : out2 = []
      ·
       refine Awp.wordsR [(2, .pv (.lit (.int .i64 from_))), (3, .ptr 3 0), (4, .ptr 4 0), (9, sS (some out2.isEmpty) (eI .i64) out2), (11, .pv (.lit (.bool x))), (12, .pv (.lit (.int .i64 (i1 : Int)))), (22, sS (some false) eB [false, true]), (23, .pv (.lit (.int .i64 ([false, true].length : Int)))), (24, .pv (.lit (.int .i64 (i : Int)))), (28, .pv (.lit (.int .i64 (i1 : Int)))), (32, sS (some c.members.nil) eMember c.members.D), (33, .pv (.lit (.int .i64 (c.members.D.length : Int)))), (34, .pv (.lit (.int .i64 (i2 : Int))))] [(3, .cells [.pv (.lit (.int .i64 c.epoch)), sS (some c.members.nil) eMember c.members.D]), (4, .cells [.pv (.lit (.int .i64 ((w 0) 0))), .pv (.lit (.int .i64 ((w 0) 1))), .pv (.lit (.int .i64 ((w 0) 2))), .pv (.lit (.int .i64 ((w 1) 0))), .pv (.lit (.int .i64 ((w 1) 1))), .pv (.lit (.int .i64 ((w 1) 2))), .pv (.lit (.int .i64 ((w 2) 0))), .pv (.lit (.int .i64 ((w 2) 1))), .pv (.lit (.int .i64 ((w 2) 2)))])] [3, 4] (WeakerR.ofL (Ks := [3, 4]) hI ⟨⟨rfl, rfl⟩, ⟨rfl, rfl⟩, ⟨rfl, rfl⟩, ⟨(by exact grow_at_nil (b := 902) (e := (eI .i64)) (l := out2) rfl h13), rfl⟩, ⟨rfl, rfl⟩, ⟨rfl, rfl⟩, ⟨rfl, rfl⟩, ⟨rfl, rfl⟩, ⟨rfl, rfl⟩, ⟨rfl, rfl⟩, ⟨rfl, rfl⟩, ⟨rfl, rfl⟩, ⟨rfl, rfl⟩, trivial⟩ (okH_cons (look_nil h13 rfl) rfl rfl rfl (okH_cons (look_nil h13 rfl) rfl rfl rfl (okH_nil))) rfl) ?_
       refine Awp.consP C ?_
       refine rvP C (.pv (.lit (.bool (decide ((i2 : Int) < (c.members.D.length : Int)))))) ?_
       refine rvc_nil ?_
       refine Awp.seq ?_
       refine Awp.cond (b := (decide ((i2 : Int) < (c.members.D.length : Int)))) rfl (fun h14 => ?_) (fun h14 => ?_)
       ·
        have h15 : i2 < c.members.D.length := by have := of_decide_eq_true h14; omega
        obtain ⟨x1, h16⟩ := getX h15
        rw [drop_at h16] at hR
        refine Awp.skip ?_
        refine Awp.seq ?_
        refine Awp.block ?_
        refine Awp.consP C ?_
        refine rvc_un (rexec_idxS C rfl rfl rfl rfl rfl rfl x1 (Int.natCast_nonneg _) h16 ?_)
        refine rvP C (.agg [.pv (.lit (.int .i64 x1.node)), .pv (.lit (.int .i64 x1.site)), .pv (.lit (.bool x1.fresh))]) ?_
        refine rvc_un (rexec_prim C (δ := { v := .ptr 14 0, new := [(14, .cells [.pv (.lit (.int .i64 0)), .pv (.lit (.int .i64 0)), .pv (.lit (.bool false))])] }) rfl rfl rfl rfl trivial rfl ?_)
        refine rvc_un (rexec_prim C (δ := { v := .undef, wr := [(14, some (.cells [.pv (.lit (.int .i64 x1.node)), .pv (.lit (.int .i64 x1.site)), .pv (.lit (.bool x1.fresh))]))] }) rfl rfl rfl rfl trivial rfl ?_)
        refine rvc_nil ?_
        refine Awp.consP C ?_
        refine rvP C (.ptr 14 2) ?_
        refine rvP C (.pv (.lit (.bool x1.fresh))) ?_
        refine rvP C (.pv (.lit (.bool x))) ?_
        refine rvP C (.pv (.lit (.bool (x1.fresh == x)))) ?_
        refine rvP C (.pv (.lit (.bool (x1.fresh == x)))) ?_
        refine rvc_case 42 (x1.fresh == x) rfl (fun h17 => ?_) (fun h17 => ?_)
        ·
         replace hR := of_true h17 hR
         refine rvO C (.pv (.lit (.int .i64 from_))) ?_
         refine rvO C (.ptr 14 1) ?_
         refine rvO C (.pv (.lit (.int .i64 x1.site))) ?_
         refine rvc_open rfl rfl rfl (rexec_prim C (δ := { v := .ptr 4 (0 + from_.toNat * 3) }) rfl rfl rfl rfl ⟨(by have hAB_ := (may_ok (eq_of_bne_false h1)); first | omega | (have q_ := sites_ok hAB_.1 _ (List.mem_of_getElem? ‹c.members.D[_]? = some _›); omega)), (by have hAB_ := (may_ok (eq_of_bne_false h1)); first | omega | (have q_ := sites_ok hAB_.1 _ (List.mem_of_getElem? ‹c.members.D[_]? = some _›); omega))⟩ rfl ?_)
         refine rvc_open rfl rfl rfl (rexec_prim C (δ := { v := .ptr 4 (0 + from_.toNat * 3 + x1.site.toNat * 1) }) rfl rfl rfl rfl ⟨(by have hAB_ := (may_ok (eq_of_bne_false h1)); first | omega | (have q_ := sites_ok hAB_.1 _ (List.mem_of_getElem? ‹c.members.D[_]? = some _›); omega)), (by have hAB_ := (may_ok (eq_of_bne_false h1)); first | omega | (have q_ := sites_ok hAB_.1 _ (List.mem_of_getElem? ‹c.members.D[_]? = some _›); omega))⟩ rfl ?_)
         refine rvc_open rfl rfl rfl (rexec_load33 C (fun p q => .pv (.lit (.int .i64 ((w p) q)))) from_.toNat x1.site.toNat (.pv (.lit (.int .i64 ((w from_.toNat) x1.site.toNat)))) rfl rfl rfl rfl rfl rfl rfl (by have hAB_ := (may_ok (eq_of_bne_false h1)); first | omega | (have q_ := sites_ok hAB_.1 _ (List.mem_of_getElem? ‹c.members.D[_]? = some _›); omega)) (by have hAB_ := (may_ok (eq_of_bne_false h1)); first | omega | (have q_ := sites_ok hAB_.1 _ (List.mem_of_getElem? ‹c.members.D[_]? = some _›); omega)) rfl ?_)
         refine rvO C (.pv (.lit (.int .i64 (i1 : Int)))) ?_
         refine rvO C (.pv (.lit (.bool (((w from_.toNat) x1.site.toNat) == (i1 : Int))))) ?_
         refine rvP C (.pv (.lit (.bool (((w from_.toNat) x1.site.toNat) == (i1 : Int))))) ?_
         refine rvc_nil ?_
         refine Awp.cond (b := (((w from_.toNat) x1.site.toNat) == (i1 : Int))) rfl (fun h18 => ?_) (fun h18 => ?_)
         ·
          replace hR := of_true h18 hR
          refine Awp.regionP C ?_
          refine rvP C (sS (some out2.isEmpty) (eI .i64) out2) ?_
          refine rvP C (.ptr 14 0) ?_
          refine rvP C (.pv (.lit (.int .i64 x1.node))) ?_
          refine rvc_un (rexec_buildSliceF C (eI .i64) [x1.node] rfl rfl rfl rfl rfl rfl rfl (by decide) rfl ?_)
          refine rvc_un (rexec_appendG C rfl rfl rfl rfl rfl rfl rfl rfl (fun _ h => by cases h) rfl (en := (eI .i64)) (l := out2) (D := [x1.node]) rfl rfl h13 (by rw [h13]; rfl) (by simp) (by have := eq_of_bne_false h1; have := of_decide_eq_true h4; have := of_decide_eq_true h9; have := of_decide_eq_true h14; have := beq_iff_eq.1 h17; have := beq_iff_eq.1 h18; first | omega | (simp <;> omega)) (by decide) (nn := (out2 ++ [x1.node]).length) (by simp) ?_)
          refine rvP C (.sl 56 0 ((out2 ++ [x1.node]).length) 1 false) ?_
          refine rvc_nil ?_
          refine Awp.regionP C ?_
          refine rvP C (.pv (.lit (.int .i64 (IntKind.i64.wrap ((i2 : Int) + 1))))) ?_
          refine rvP C (.pv (.lit (.int .i64 (IntKind.i64.wrap ((i2 : Int) + 1))))) ?_
          refine rvc_nil ?_
          refine ⟨h15, (out2 ++ [x1.node]), ?_, ?_⟩
          · exact ⟨hR, (by first | omega | (simp <;> omega))⟩
          · exact ⟨fun b => bif b == 902 then 56 else (fun b => b) b, WeakerR.ofL (Ks := [3, 4, 902]) hI ⟨⟨rfl, rfl⟩, ⟨rfl, rfl⟩, ⟨rfl, rfl⟩, ⟨grow_to rfl rfl app_ne rfl rfl, grow_within rfl⟩, ⟨rfl, rfl⟩, ⟨rfl, rfl⟩, ⟨rfl, rfl⟩, ⟨rfl, rfl⟩, ⟨rfl, rfl⟩, ⟨rfl, rfl⟩, ⟨rfl, rfl⟩, ⟨rfl, rfl⟩, ⟨lit_cast (wrap_i64 (by omega) (by omega)), rfl⟩, trivial⟩ (okH_grow (fun _ => rfl) rfl rfl (okH_cons rfl rfl rfl rfl (okH_cons rfl rfl rfl rfl (okH_nil)))) rfl⟩
         ·
          replace hR := of_false h18 hR
          refine Awp.skip ?_
          refine Awp.regionP C ?_
          refine rvP C (.pv (.lit (.int .i64 (IntKind.i64.wrap ((i2 : Int) + 1))))) ?_
          refine rvP C (.pv (.lit (.int .i64 (IntKind.i64.wrap ((i2 : Int) + 1))))) ?_
          refine rvc_nil ?_
          refine ⟨h15, out2, ?_, ?_⟩
          · exact ⟨hR, (by first | omega | (simp <;> omega))⟩
          · exact ⟨fun b => b, WeakerR.ofL (Ks := [3, 4, 902]) hI ⟨⟨rfl, rfl⟩, ⟨rfl, rfl⟩, ⟨rfl, rfl⟩, ⟨grow_to_nil rfl h13 (.inr rfl), grow_within rfl⟩, ⟨rfl, rfl⟩, ⟨rfl, rfl⟩, ⟨rfl, rfl⟩, ⟨rfl, rfl⟩, ⟨rfl, rfl⟩, ⟨rfl, rfl⟩, ⟨rfl, rfl⟩, ⟨rfl, rfl⟩, ⟨lit_cast (wrap_i64 (by omega) (by omega)), rfl⟩, trivial⟩ (okH_grow (fun hne => absurd h13 hne) rfl rfl (okH_cons rfl rfl rfl rfl (okH_cons rfl rfl rfl rfl (okH_nil)))) rfl⟩
        ·
         replace hR := of_false h17 hR
         refine rvS ?_
         refine rvS ?_
         refine rvS ?_
         refine rvS ?_
         refine rvS ?_
         refine rvS ?_
         refine rvS ?_
         refine rvS ?_
         refine rvP C (.pv (.lit (.bool false))) ?_
         refine rvc_nil ?_
         refine Awp.condF (b := false) rfl rfl ?_
         refine Awp.skip ?_
         refine Awp.regionP C ?_
         refine rvP C (.pv (.lit (.int .i64 (IntKind.i64.wrap ((i2 : Int) + 1))))) ?_
         refine rvP C (.pv (.lit (.int .i64 (IntKind.i64.wrap ((i2 : Int) + 1))))) ?_
         refine rvc_nil ?_
         refine ⟨h15, out2, ?_, ?_⟩
         · exact ⟨hR, (by first | omega | (simp <;> omega))⟩
         · exact ⟨fun b => b, WeakerR.ofL (Ks := [3, 4, 902]) hI ⟨⟨rfl, rfl⟩, ⟨rfl, rfl⟩, ⟨rfl, rfl⟩, ⟨grow_to_nil rfl h13 (.inr rfl), grow_within rfl⟩, ⟨rfl, rfl⟩, ⟨rfl, rfl⟩, ⟨rfl, rfl⟩, ⟨rfl, rfl⟩, ⟨rfl, rfl⟩, ⟨rfl, rfl⟩, ⟨rfl, rfl⟩, ⟨rfl, rfl⟩, ⟨lit_cast (wrap_i64 (by omega) (by omega)), rfl⟩, trivial⟩ (okH_grow (fun hne => absurd h13 hne) rfl rfl (okH_cons rfl rfl rfl rfl (okH_cons rfl rfl rfl rfl (okH_nil)))) rfl⟩
       ·
        have h15 : ¬ i2 < c.members.D.length := by have := of_decide_eq_false h14; omega
        rw [drop_end h15] at hR
        refine Awp.exit ?_
        refine Awp.regionP C ?_
        refine rvP C (.pv (.lit (.int .i64 (IntKind.i64.wrap ((i1 : Int) + 1))))) ?_
        refine rvP C (.pv (.lit (.int .i64 (IntKind.i64.wrap ((i1 : Int) + 1))))) ?_
        refine rvc_nil ?_
        refine ⟨h10, out2, ?_, ?_⟩
        · exact ⟨(by rw [show 1001 - (i1 + 1) = k by omega]; exact hR), (by first | omega | (simp <;> omega))⟩
        · exact ⟨fun b => b, WeakerR.ofL (Ks := [3, 4, 901]) hI ⟨⟨rfl, rfl⟩, ⟨rfl, rfl⟩, ⟨rfl, rfl⟩, ⟨grow_to_nil rfl h13 (.inr rfl), grow_within rfl⟩, ⟨rfl, rfl⟩, ⟨rfl, rfl⟩, ⟨rfl, rfl⟩, ⟨rfl, rfl⟩, ⟨lit_cast (wrap_i64 (by omega) (by omega)), rfl⟩, trivial⟩ (okH_grow (fun hne => absurd h13 hne) rfl rfl (okH_cons rfl rfl rfl rfl (okH_cons rfl rfl rfl rfl (okH_nil)))) rfl⟩
      ·
       refine Awp.wordsR [(2, .pv (.lit (.int .i64 from_))), (3, .ptr 3 0), (4, .ptr 4 0), (9, .sl 902 0 out2.length 1 false), (11, .pv (.lit (.bool x))), (12, .pv (.lit (.int .i64 (i1 : Int)))), (22, sS (some false) eB [false, true]), (23, .pv (.lit (.int .i64 ([false, true].length : Int)))), (24, .pv (.lit (.int .i64 (i : Int)))), (28, .pv (.lit (.int .i64 (i1 : Int)))), (32, sS (some c.members.nil) eMember c.members.D), (33, .pv (.lit (.int .i64 (c.members.D.length : Int)))), (34, .pv (.lit (.int .i64 (i2 : Int))))] [(902, .cells (encC (eI .i64) out2)), (3, .cells [.pv (.lit (.int .i64 c.epoch)), sS (some c.members.nil) eMember c.members.D]), (4, .cells [.pv (.lit (.int .i64 ((w 0) 0))), .pv (.lit (.int .i64 ((w 0) 1))), .pv (.lit (.int .i64 ((w 0) 2))), .pv (.lit (.int .i64 ((w 1) 0))), .pv (.lit (.int .i64 ((w 1) 1))), .pv (.lit (.int .i64 ((w 1) 2))), .pv (.lit (.int .i64 ((w 2) 0))), .pv (.lit (.int .i64 ((w 2) 1))), .pv (.lit (.int .i64 ((w 2) 2)))])] [3, 4, 902] (WeakerR.ofL (Ks := [3, 4, 902]) hI ⟨⟨rfl, rfl⟩, ⟨rfl, rfl⟩, ⟨rfl, rfl⟩, ⟨(by exact grow_at_cons (b := 902) (b' := 902) (e := (eI .i64)) (l := out2) rfl h13 rfl rfl rfl), rfl⟩, ⟨rfl, rfl⟩, ⟨rfl, rfl⟩, ⟨rfl, rfl⟩, ⟨rfl, rfl⟩, ⟨rfl, rfl⟩, ⟨rfl, rfl⟩, ⟨rfl, rfl⟩, ⟨rfl, rfl⟩, ⟨rfl, rfl⟩, trivial⟩ (okH_list (look_cons h13 rfl) rfl rfl (okH_cons (look_cons h13 rfl) rfl rfl rfl (okH_cons (look_cons h13 rfl) rfl rfl rfl (okH_nil)))) rfl) ?_
       refine Awp.consP C ?_
       refine rvP C (.pv (.lit (.bool (decide ((i2 : Int) < (c.members.D.length : Int)))))) ?_
       refine rvc_nil ?_
       refine Awp.seq ?_
       refine Awp.cond (b := (decide ((i2 : Int) < (c.members.D.length : Int)))) rfl (fun h19 => ?_) (fun h19 => ?_)
       ·
        have h20 : i2 < c.members.D.length := by have := of_decide_eq_true h19; omega
        obtain ⟨x1, h21⟩ := getX h20
        rw [drop_at h21] at hR
        refine Awp.skip ?_
        refine Awp.seq ?_
        refine Awp.block ?_
        refine Awp.consP C ?_
        refine rvc_un (rexec_idxS C rfl rfl rfl rfl rfl rfl x1 (Int.natCast_nonneg _) h21 ?_)
        refine rvP C (.agg [.pv (.lit (.int .i64 x1.node)), .pv (.lit (.int .i64 x1.site)), .pv (.lit (.bool x1.fresh))]) ?_
        refine rvc_un (rexec_prim C (δ := { v := .ptr 14 0, new := [(14, .cells [.pv (.lit (.int .i64 0)), .pv (.lit (.int .i64 0)), .pv (.lit (.bool false))])] }) rfl rfl rfl rfl trivial rfl ?_)
        refine rvc_un (rexec_prim C (δ := { v := .undef, wr := [(14, some (.cells [.pv (.lit (.int .i64 x1.node)), .pv (.lit (.int .i64 x1.site)), .pv (.lit (.bool x1.fresh))]))] }) rfl rfl rfl rfl trivial rfl ?_)
        refine rvc_nil ?_
        refine Awp.consP C ?_
        refine rvP C (.ptr 14 2) ?_
        refine rvP C (.pv (.lit (.bool x1.fresh))) ?_
        refine rvP C (.pv (.lit (.bool x))) ?_
        refine rvP C (.pv (.lit (.bool (x1.fresh == x)))) ?_
        refine rvP C (.pv (.lit (.bool (x1.fresh == x)))) ?_
        refine rvc_case 42 (x1.fresh == x) rfl (fun h22 => ?_) (fun h22 => ?_)
        ·
         replace hR := of_true h22 hR
         refine rvO C (.pv (.lit (.int .i64 from_))) ?_
         refine rvO C (.ptr 14 1) ?_
         refine rvO C (.pv (.lit (.int .i64 x1.site))) ?_
         refine rvc_open rfl rfl rfl (rexec_prim C (δ := { v := .ptr 4 (0 + from_.toNat * 3) }) rfl rfl rfl rfl ⟨(by have hAB_ := (may_ok (eq_of_bne_false h1)); first | omega | (have q_ := sites_ok hAB_.1 _ (List.mem_of_getElem? ‹c.members.D[_]? = some _›); omega)), (by have hAB_ := (may_ok (eq_of_bne_false h1)); first | omega | (have q_ := sites_ok hAB_.1 _ (List.mem_of_getElem? ‹c.members.D[_]? = some _›); omega))⟩ rfl ?_)
         refine rvc_open rfl rfl rfl (rexec_prim C (δ := { v := .ptr 4 (0 + from_.toNat * 3 + x1.site.toNat * 1) }) rfl rfl rfl rfl ⟨(by have hAB_ := (may_ok (eq_of_bne_false h1)); first | omega | (have q_ := sites_ok hAB_.1 _ (List.mem_of_getElem? ‹c.members.D[_]? = some _›); omega)), (by have hAB_ := (may_ok (eq_of_bne_false h1)); first | omega | (have q_ := sites_ok hAB_.1 _ (List.mem_of_getElem? ‹c.members.D[_]? = some _›); omega))⟩ rfl ?_)
         refine rvc_open rfl rfl rfl (rexec_load33 C (fun p q => .pv (.lit (.int .i64 ((w p) q)))) from_.toNat x1.site.toNat (.pv (.lit (.int .i64 ((w from_.toNat) x1.site.toNat)))) rfl rfl rfl rfl rfl rfl rfl (by have hAB_ := (may_ok (eq_of_bne_false h1)); first | omega | (have q_ := sites_ok hAB_.1 _ (List.mem_of_getElem? ‹c.members.D[_]? = some _›); omega)) (by have hAB_ := (may_ok (eq_of_bne_false h1)); first | omega | (have q_ := sites_ok hAB_.1 _ (List.mem_of_getElem? ‹c.members.D[_]? = some _›); omega)) rfl ?_)
         refine rvO C (.pv (.lit (.int .i64 (i1 : Int)))) ?_
         refine rvO C (.pv (.lit (.bool (((w from_.toNat) x1.site.toNat) == (i1 : Int))))) ?_
         refine rvP C (.pv (.lit (.bool (((w from_.toNat) x1.site.toNat) == (i1 : Int))))) ?_
         refine rvc_nil ?_
         refine Awp.cond (b := (((w from_.toNat) x1.site.toNat) == (i1 : Int))) rfl (fun h23 => ?_) (fun h23 => ?_)
         ·
          replace hR := of_true h23 hR
          refine Awp.regionP C ?_
          refine rvP C (.sl 902 0 out2.length 1 false) ?_
          refine rvP C (.ptr 14 0) ?_
          refine rvP C (.pv (.lit (.int .i64 x1.node))) ?_
          refine rvc_un (rexec_buildSliceF C (eI .i64) [x1.node] rfl rfl rfl rfl rfl rfl rfl (by decide) rfl ?_)
          refine rvc_un (rexec_append C rfl rfl rfl rfl rfl rfl rfl rfl (fun _ h => by cases h) rfl (en := (eI .i64)) (D0 := out2) (D := [x1.node]) rfl rfl rfl rfl (by have := eq_of_bne_false h1; have := of_decide_eq_true h4; have := of_decide_eq_true h9; have := of_decide_eq_true h19; have := beq_iff_eq.1 h22; have := beq_iff_eq.1 h23; first | omega | (simp <;> omega)) (by decide) (nn := (out2 ++ [x1.node]).length) (by simp) ?_)
          refine rvP C (.sl 56 0 ((out2 ++ [x1.node]).length) 1 false) ?_
          refine rvc_nil ?_
          refine Awp.regionP C ?_
          refine rvP C (.pv (.lit (.int .i64 (IntKind.i64.wrap ((i2 : Int) + 1))))) ?_
          refine rvP C (.pv (.lit (.int .i64 (IntKind.i64.wrap ((i2 : Int) + 1))))) ?_
          refine rvc_nil ?_
          refine ⟨h20, (out2 ++ [x1.node]), ?_, ?_⟩
          · exact ⟨hR, (by first | omega | (simp <;> omega))⟩
          · exact ⟨fun b => bif b == 902 then 56 else (fun b => b) b, WeakerR.ofL (Ks := [3, 4, 902]) hI ⟨⟨rfl, rfl⟩, ⟨rfl, rfl⟩, ⟨rfl, rfl⟩, ⟨grow_to rfl rfl app_ne rfl rfl, grow_within rfl⟩, ⟨rfl, rfl⟩, ⟨rfl, rfl⟩, ⟨rfl, rfl⟩, ⟨rfl, rfl⟩, ⟨rfl, rfl⟩, ⟨rfl, rfl⟩, ⟨rfl, rfl⟩, ⟨rfl, rfl⟩, ⟨lit_cast (wrap_i64 (by omega) (by omega)), rfl⟩, trivial⟩ (okH_grow (fun _ => rfl) rfl rfl (okH_cons rfl rfl rfl rfl (okH_cons rfl rfl rfl rfl (okH_nil)))) rfl⟩
         ·
          replace hR := of_false h23 hR
          refine Awp.skip ?_
          refine Awp.regionP C ?_
          refine rvP C (.pv (.lit (.int .i64 (IntKind.i64.wrap ((i2 : Int) + 1))))) ?_
          refine rvP C (.pv (.lit (.int .i64 (IntKind.i64.wrap ((i2 : Int) + 1))))) ?_
          refine rvc_nil ?_
          refine ⟨h20, out2, ?_, ?_⟩
          · exact ⟨hR, (by first | omega | (simp <;> omega))⟩
          · exact ⟨fun b => b, WeakerR.ofL (Ks := [3, 4, 902]) hI ⟨⟨rfl, rfl⟩, ⟨rfl, rfl⟩, ⟨rfl, rfl⟩, ⟨grow_to rfl rfl h13 rfl rfl, grow_within rfl⟩, ⟨rfl, rfl⟩, ⟨rfl, rfl⟩, ⟨rfl, rfl⟩, ⟨rfl, rfl⟩, ⟨rfl, rfl⟩, ⟨rfl, rfl⟩, ⟨rfl, rfl⟩, ⟨rfl, rfl⟩, ⟨lit_cast (wrap_i64 (by omega) (by omega)), rfl⟩, trivial⟩ (okH_grow (fun _ => rfl) rfl rfl (okH_cons rfl rfl rfl rfl (okH_cons rfl rfl rfl rfl (okH_nil)))) rfl⟩
        ·
         replace hR := of_false h22 hR
         refine rvS ?_
         refine rvS ?_
         refine rvS ?_
         refine rvS ?_
         refine rvS ?_
         refine rvS ?_
         refine rvS ?_
         refine rvS ?_
         refine rvP C (.pv (.lit (.bool false))) ?_
         refine rvc_nil ?_
         refine Awp.condF (b := false) rfl rfl ?_
         refine Awp.skip ?_
         refine Awp.regionP C ?_
         refine rvP C (.pv (.lit (.int .i64 (IntKind.i64.wrap ((i2 : Int) + 1))))) ?_
         refine rvP C (.pv (.lit (.int .i64 (IntKind.i64.wrap ((i2 : Int) + 1))))) ?_
         refine rvc_nil ?_
         refine ⟨h20, out2, ?_, ?_⟩
         · exact ⟨hR, (by first | omega | (simp <;> omega))⟩
         · exact ⟨fun b => b, WeakerR.ofL (Ks := [3, 4, 902]) hI ⟨⟨rfl, rfl⟩, ⟨rfl, rfl⟩, ⟨rfl, rfl⟩, ⟨grow_to rfl rfl h13 rfl rfl, grow_within rfl⟩, ⟨rfl, rfl⟩, ⟨rfl, rfl⟩, ⟨rfl, rfl⟩, ⟨rfl, rfl⟩, ⟨rfl, rfl⟩, ⟨rfl, rfl⟩, ⟨rfl, rfl⟩, ⟨rfl, rfl⟩, ⟨lit_cast (wrap_i64 (by omega) (by omega)), rfl⟩, trivial⟩ (okH_grow (fun _ => rfl) rfl rfl (okH_cons rfl rfl rfl rfl (okH_cons rfl rfl rfl rfl (okH_nil)))) rfl⟩
       ·
        have h20 : ¬ i2 < c.members.D.length := by have := of_decide_eq_false h19; omega
        rw [drop_end h20] at hR
        refine Awp.exit ?_
        refine Awp.regionP C ?_
        refine rvP C (.pv (.lit (.int .i64 (IntKind.i64.wrap ((i1 : Int) + 1))))) ?_
        refine rvP C (.pv (.lit (.int .i64 (IntKind.i64.wrap ((i1 : Int) + 1))))) ?_
        refine rvc_nil ?_
        refine ⟨h10, out2, ?_, ?_⟩
        · exact ⟨(by rw [show 1001 - (i1 + 1) = k by omega]; exact hR), (by first | omega | (simp <;> omega))⟩
        · exact ⟨fun b => bif b == 901 then 902 else (fun b => b) b, WeakerR.ofL (Ks := [3, 4, 901]) hI ⟨⟨rfl, rfl⟩, ⟨rfl, rfl⟩, ⟨rfl, rfl⟩, ⟨grow_to rfl rfl h13 rfl rfl, grow_within rfl⟩, ⟨rfl, rfl⟩, ⟨rfl, rfl⟩, ⟨rfl, rfl⟩, ⟨rfl, rfl⟩, ⟨lit_cast (wrap_i64 (by omega) (by omega)), rfl⟩, trivial⟩ (okH_grow (fun _ => rfl) rfl rfl (okH_cons rfl rfl rfl rfl (okH_cons rfl rfl rfl rfl (okH_nil)))) rfl⟩
     ·
      rw [show 1001 - i1 = 0 by have := of_decide_eq_false h9; omega] at hR
      refine Awp.exit ?_
      refine Awp.regionP C ?_
      refine rvP C (.pv (.lit (.int .i64 (IntKind.i64.wrap ((i : Int) + 1))))) ?_
      refine rvP C (.pv (.lit (.int .i64 (IntKind.i64.wrap ((i : Int) + 1))))) ?_
      refine rvc_nil ?_
      refine ⟨h5, out1, ?_, ?_⟩
      · exact ⟨hR, (by first | omega | (simp <;> omega))⟩
      · exact ⟨fun b => b, WeakerR.ofL (Ks := [3, 4, 900]) hI ⟨⟨rfl, rfl⟩, ⟨rfl, rfl⟩, ⟨rfl, rfl⟩, ⟨grow_to_nil rfl h8 (.inr rfl), grow_within rfl⟩, ⟨rfl, rfl⟩, ⟨rfl, rfl⟩, ⟨lit_cast (wrap_i64 (by omega) (by omega)), rfl⟩, trivial⟩ (okH_grow (fun hne => absurd h8 hne) rfl rfl (okH_cons rfl rfl rfl rfl (okH_cons rfl rfl rfl rfl (okH_nil)))) rfl⟩
    ·
     refine Awp.wordsR [(2, .pv (.lit (.int .i64 from_))), (3, .ptr 3 0), (4, .ptr 4 0), (9, .sl 901 0 out1.length 1 false), (11, .pv (.lit (.bool x))), (22, sS (some false) eB [false, true]), (23, .pv (.lit (.int .i64 ([false, true].length : Int)))), (24, .pv (.lit (.int .i64 (i : Int)))), (28, .pv (.lit (.int .i64 (i1 : Int))))] [(901, .cells (encC (eI .i64) out1)), (3, .cells [.pv (.lit (.int .i64 c.epoch)), sS (some c.members.nil) eMember c.members.D]), (4, .cells [.pv (.lit (.int .i64 ((w 0) 0))), .pv (.lit (.int .i64 ((w 0) 1))), .pv (.lit (.int .i64 ((w 0) 2))), .pv (.lit (.int .i64 ((w 1) 0))), .pv (.lit (.int .i64 ((w 1) 1))), .pv (.lit (.int .i64 ((w 1) 2))), .pv (.lit (.int .i64 ((w 2) 0))), .pv (.lit (.int .i64 ((w 2) 1))), .pv (.lit (.int .i64 ((w 2) 2)))])] [3, 4, 901] (WeakerR.ofL (Ks := [3, 4, 901]) hI ⟨⟨rfl, rfl⟩, ⟨rfl, rfl⟩, ⟨rfl, rfl⟩, ⟨(by exact grow_at_cons (b := 901) (b' := 901) (e := (eI .i64)) (l := out1) rfl h8 rfl rfl rfl), rfl⟩, ⟨rfl, rfl⟩, ⟨rfl, rfl⟩, ⟨rfl, rfl⟩, ⟨rfl, rfl⟩, ⟨rfl, rfl⟩, trivial⟩ (okH_list (look_cons h8 rfl) rfl rfl (okH_cons (look_cons h8 rfl) rfl rfl rfl (okH_cons (look_cons h8 rfl) rfl rfl rfl (okH_nil)))) rfl) ?_
     refine Awp.consP C ?_
     refine rvP C (.pv (.lit (.bool (decide ((i1 : Int) < 1001))))) ?_
     refine rvc_nil ?_
     refine Awp.seq ?_
     refine Awp.cond (b := (decide ((i1 : Int) < 1001))) rfl (fun h24 => ?_) (fun h24 => ?_)
     ·
      have h25 : i1 < 1001 := by have := of_decide_eq_true h24; omega
      obtain ⟨k, h26⟩ : ∃ k, 1001 - i1 = k + 1 := ⟨1001 - i1 - 1, by omega⟩
      rw [h26] at hR
      refine Awp.skip ?_
      refine Awp.seq ?_
      refine Awp.block ?_
      refine Awp.consP C ?_
      refine rvP C (.pv (.lit (.int .i64 (i1 : Int)))) ?_
      refine rvP C (.pv (.lit (.int .i64 (i1 : Int)))) ?_
      refine rvc_nil ?_
      refine Awp.consP C ?_
      refine rvP C (.ptr 3 1) ?_
      refine rvP C (sS (some c.members.nil) eMember c.members.D) ?_
      refine rvP C (.pv (.lit (.int .i64 (c.members.D.length : Int)))) ?_
      refine rvP C (.pv (.lit (.int .i64 0))) ?_
      refine rvc_nil ?_
      refine Awp.block ?_
      refine Awp.forR (σ := ((List Int))) (c.members.D.length) (fun i3 v => [(2, .pv (.lit (.int .i64 from_))), (3, .ptr 3 0), (4, .ptr 4 0), (9, .sl 903 0 v.length 1 false), (11, .pv (.lit (.bool x))), (12, .pv (.lit (.int .i64 (i1 : Int)))), (22, sS (some false) eB [false, true]), (23, .pv (.lit (.int .i64 ([false, true].length : Int)))), (24, .pv (.lit (.int .i64 (i : Int)))), (28, .pv (.lit (.int .i64 (i1 : Int)))), (32, sS (some c.members.nil) eMember c.members.D), (33, .pv (.lit (.int .i64 (c.members.D.length : Int)))), (34, .pv (.lit (.int .i64 (i3 : Int))))]) (fun i3 v => [(3, .cells [.pv (.lit (.int .i64 c.epoch)), sS (some c.members.nil) eMember c.members.D]), (4, .cells [.pv (.lit (.int .i64 ((w 0) 0))), .pv (.lit (.int .i64 ((w 0) 1))), .pv (.lit (.int .i64 ((w 0) 2))), .pv (.lit (.int .i64 ((w 1) 0))), .pv (.lit (.int .i64 ((w 1) 1))), .pv (.lit (.int .i64 ((w 1) 2))), .pv (.lit (.int .i64 ((w 2) 0))), .pv (.lit (.int .i64 ((w 2) 1))), .pv (.lit (.int .i64 ((w 2) 2)))]), (903, .cells (encC (eI .i64) v))]) [3, 4, 903] (fun i3 v => (rNear_l2 w from_ x i1 (fun out3 => rNear_l1 c w from_ x (fun out1 => rNear_l0 c w from_ ([false, true].drop (i + 1)) (i + 1) out1) k (i1 + 1) out3) (c.members.D.drop i3) i3 v = R) ∧ (v ≠ [] ∧ v.length ≤ out1.length + i3)) out1 ?_ ?_ (fun i3 out3 h27 hR => ?_)
      · exact ⟨hR, ⟨h8, (by first | omega | (simp <;> omega))⟩⟩
      · exact ⟨fun b => bif b == 903 then 901 else (fun b => b) b, WeakerR.ofL (Ks := [3, 4, 903]) hI ⟨⟨rfl, rfl⟩, ⟨rfl, rfl⟩, ⟨rfl, rfl⟩, ⟨rfl, rfl⟩, ⟨rfl, rfl⟩, ⟨rfl, rfl⟩, ⟨rfl, rfl⟩, ⟨rfl, rfl⟩, ⟨rfl, rfl⟩, ⟨rfl, rfl⟩, ⟨rfl, rfl⟩, ⟨rfl, rfl⟩, ⟨rfl, rfl⟩, trivial⟩ (okH_cons rfl rfl rfl rfl (okH_cons rfl rfl rfl rfl (okH_list rfl rfl rfl (okH_nil)))) rfl⟩
      obtain ⟨hR, ⟨hn_out3, hi_out3⟩⟩ := hR
      replace hi_out3 : out3.length ≤ out1.length + i3 := hi_out3
      refine Awp.consP C ?_
      refine rvP C (.pv (.lit (.bool (decide ((i3 : Int) < (c.members.D.length : Int)))))) ?_
      refine rvc_nil ?_
      refine Awp.seq ?_
      refine Awp.cond (b := (decide ((i3 : Int) < (c.members.D.length : Int)))) rfl (fun h28 => ?_) (fun h28 => ?_)
      ·
       have h29 : i3 < c.members.D.length := by have := of_decide_eq_true h28; omega
       obtain ⟨x2, h30⟩ := getX h29
       rw [drop_at h30] at hR
       refine Awp.skip ?_
       refine Awp.seq ?_
       refine Awp.block ?_
       refine Awp.consP C ?_
       refine rvc_un (rexec_idxS C rfl rfl rfl rfl rfl rfl x2 (Int.natCast_nonneg _) h30 ?_)
       refine rvP C (.agg [.pv (.lit (.int .i64 x2.node)), .pv (.lit (.int .i64 x2.site)), .pv (.lit (.bool x2.fresh))]) ?_
       refine rvc_un (rexec_prim C (δ := { v := .ptr 14 0, new := [(14, .cells [.pv (.lit (.int .i64 0)), .pv (.lit (.int .i64 0)), .pv (.lit (.bool false))])] }) rfl rfl rfl rfl trivial rfl ?_)
       refine rvc_un (rexec_prim C (δ := { v := .undef, wr := [(14, some (.cells [.pv (.lit (.int .i64 x2.node)), .pv (.lit (.int .i64 x2.site)), .pv (.lit (.bool x2.fresh))]))] }) rfl rfl rfl rfl trivial rfl ?_)
       refine rvc_nil ?_
       refine Awp.consP C ?_
       refine rvP C (.ptr 14 2) ?_
       refine rvP C (.pv (.lit (.bool x2.fresh))) ?_
       refine rvP C (.pv (.lit (.bool x))) ?_
       refine rvP C (.pv (.lit (.bool (x2.fresh == x)))) ?_
       refine rvP C (.pv (.lit (.bool (x2.fresh == x)))) ?_
       refine rvc_case 42 (x2.fresh == x) rfl (fun h31 => ?_) (fun h31 => ?_)
       ·
        replace hR := of_true h31 hR
        refine rvO C (.pv (.lit (.int .i64 from_))) ?_
        refine rvO C (.ptr 14 1) ?_
        refine rvO C (.pv (.lit (.int .i64 x2.site))) ?_
        refine rvc_open rfl rfl rfl (rexec_prim C (δ := { v := .ptr 4 (0 + from_.toNat * 3) }) rfl rfl rfl rfl ⟨(by have hAB_ := (may_ok (eq_of_bne_false h1)); first | omega | (have q_ := sites_ok hAB_.1 _ (List.mem_of_getElem? ‹c.members.D[_]? = some _›); omega)), (by have hAB_ := (may_ok (eq_of_bne_false h1)); first | omega | (have q_ := sites_ok hAB_.1 _ (List.mem_of_getElem? ‹c.members.D[_]? = some _›); omega))⟩ rfl ?_)
        refine rvc_open rfl rfl rfl (rexec_prim C (δ := { v := .ptr 4 (0 + from_.toNat * 3 + x2.site.toNat * 1) }) rfl rfl rfl rfl ⟨(by have hAB_ := (may_ok (eq_of_bne_false h1)); first | omega | (have q_ := sites_ok hAB_.1 _ (List.mem_of_getElem? ‹c.members.D[_]? = some _›); omega)), (by have hAB_ := (may_ok (eq_of_bne_false h1)); first | omega | (have q_ := sites_ok hAB_.1 _ (List.mem_of_getElem? ‹c.members.D[_]? = some _›); omega))⟩ rfl ?_)
        refine rvc_open rfl rfl rfl (rexec_load33 C (fun p q => .pv (.lit (.int .i64 ((w p) q)))) from_.toNat x2.site.toNat (.pv (.lit (.int .i64 ((w from_.toNat) x2.site.toNat)))) rfl rfl rfl rfl rfl rfl rfl (by have hAB_ := (may_ok (eq_of_bne_false h1)); first | omega | (have q_ := sites_ok hAB_.1 _ (List.mem_of_getElem? ‹c.members.D[_]? = some _›); omega)) (by have hAB_ := (may_ok (eq_of_bne_false h1)); first | omega | (have q_ := sites_ok hAB_.1 _ (List.mem_of_getElem? ‹c.members.D[_]? = some _›); omega)) rfl ?_)
        refine rvO C (.pv (.lit (.int .i64 (i1 : Int)))) ?_
        refine rvO C (.pv (.lit (.bool (((w from_.toNat) x2.site.toNat) == (i1 : Int))))) ?_
        refine rvP C (.pv (.lit (.bool (((w from_.toNat) x2.site.toNat) == (i1 : Int))))) ?_
        refine rvc_nil ?_
        refine Awp.cond (b := (((w from_.toNat) x2.site.toNat) == (i1 : Int))) rfl (fun h32 => ?_) (fun h32 => ?_)
        ·
         replace hR := of_true h32 hR
         refine Awp.regionP C ?_
         refine rvP C (.sl 903 0 out3.length 1 false) ?_
         refine rvP C (.ptr 14 0) ?_
         refine rvP C (.pv (.lit (.int .i64 x2.node))) ?_
         refine rvc_un (rexec_buildSliceF C (eI .i64) [x2.node] rfl rfl rfl rfl rfl rfl rfl (by decide) rfl ?_)
         refine rvc_un (rexec_append C rfl rfl rfl rfl rfl rfl rfl rfl (fun _ h => by cases h) rfl (en := (eI .i64)) (D0 := out3) (D := [x2.node]) rfl rfl rfl rfl (by have := eq_of_bne_false h1; have := of_decide_eq_true h4; have := of_decide_eq_true h24; have := of_decide_eq_true h28; have := beq_iff_eq.1 h31; have := beq_iff_eq.1 h32; first | omega | (simp <;> omega)) (by decide) (nn := (out3 ++ [x2.node]).length) (by simp) ?_)
         refine rvP C (.sl 56 0 ((out3 ++ [x2.node]).length) 1 false) ?_
         refine rvc_nil ?_
         refine Awp.regionP C ?_
         refine rvP C (.pv (.lit (.int .i64 (IntKind.i64.wrap ((i3 : Int) + 1))))) ?_
         refine rvP C (.pv (.lit (.int .i64 (IntKind.i64.wrap ((i3 : Int) + 1))))) ?_
         refine rvc_nil ?_
         refine ⟨h29, (out3 ++ [x2.node]), ?_, ?_⟩
         · exact ⟨hR, ⟨app_ne, (by first | omega | (simp <;> omega))⟩⟩
         · exact ⟨fun b => bif b == 903 then 56 else (fun b => b) b, WeakerR.ofL (Ks := [3, 4, 903]) hI ⟨⟨rfl, rfl⟩, ⟨rfl, rfl⟩, ⟨rfl, rfl⟩, ⟨rfl, rfl⟩, ⟨rfl, rfl⟩, ⟨rfl, rfl⟩, ⟨rfl, rfl⟩, ⟨rfl, rfl⟩, ⟨rfl, rfl⟩, ⟨rfl, rfl⟩, ⟨rfl, rfl⟩, ⟨rfl, rfl⟩, ⟨lit_cast (wrap_i64 (by omega) (by omega)), rfl⟩, trivial⟩ (okH_cons rfl rfl rfl rfl (okH_cons rfl rfl rfl rfl (okH_list rfl rfl rfl (okH_nil)))) rfl⟩
        ·
         replace hR := of_false h32 hR
         refine Awp.skip ?_
         refine Awp.regionP C ?_
         refine rvP C (.pv (.lit (.int .i64 (IntKind.i64.wrap ((i3 : Int) + 1))))) ?_
         refine rvP C (.pv (.lit (.int .i64 (IntKind.i64.wrap ((i3 : Int) + 1))))) ?_
         refine rvc_nil ?_
         refine ⟨h29, out3, ?_, ?_⟩
         · exact ⟨hR, ⟨hn_out3, (by first | omega | (simp <;> omega))⟩⟩
         · exact ⟨fun b => b, WeakerR.ofL (Ks := [3, 4, 903]) hI ⟨⟨rfl, rfl⟩, ⟨rfl, rfl⟩, ⟨rfl, rfl⟩, ⟨rfl, rfl⟩, ⟨rfl, rfl⟩, ⟨rfl, rfl⟩, ⟨rfl, rfl⟩, ⟨rfl, rfl⟩, ⟨rfl, rfl⟩, ⟨rfl, rfl⟩, ⟨rfl, rfl⟩, ⟨rfl, rfl⟩, ⟨lit_cast (wrap_i64 (by omega) (by omega)), rfl⟩, trivial⟩ (okH_cons rfl rfl rfl rfl (okH_cons rfl rfl rfl rfl (okH_list rfl rfl rfl (okH_nil)))) rfl⟩
       ·
        replace hR := of_false h31 hR
        refine rvS ?_
        refine rvS ?_
        refine rvS ?_
        refine rvS ?_
        refine rvS ?_
        refine rvS ?_
        refine rvS ?_
        refine rvS ?_
        refine rvP C (.pv (.lit (.bool false))) ?_
        refine rvc_nil ?_
        refine Awp.condF (b := false) rfl rfl ?_
        refine Awp.skip ?_
        refine Awp.regionP C ?_
        refine rvP C (.pv (.lit (.int .i64 (IntKind.i64.wrap ((i3 : Int) + 1))))) ?_
        refine rvP C (.pv (.lit (.int .i64 (IntKind.i64.wrap ((i3 : Int) + 1))))) ?_
        refine rvc_nil ?_
        refine ⟨h29, out3, ?_, ?_⟩
        · exact ⟨hR, ⟨hn_out3, (by first | omega | (simp <;> omega))⟩⟩
        · exact ⟨fun b => b, WeakerR.ofL (Ks := [3, 4, 903]) hI ⟨⟨rfl, rfl⟩, ⟨rfl, rfl⟩, ⟨rfl, rfl⟩, ⟨rfl, rfl⟩, ⟨rfl, rfl⟩, ⟨rfl, rfl⟩, ⟨rfl, rfl⟩, ⟨rfl, rfl⟩, ⟨rfl, rfl⟩, ⟨rfl, rfl⟩, ⟨rfl, rfl⟩, ⟨rfl, rfl⟩, ⟨lit_cast (wrap_i64 (by omega) (by omega)), rfl⟩, trivial⟩ (okH_cons rfl rfl rfl rfl (okH_cons rfl rfl rfl rfl (okH_list rfl rfl rfl (okH_nil)))) rfl⟩
      ·
       have h29 : ¬ i3 < c.members.D.length := by have := of_decide_eq_false h28; omega
       rw [drop_end h29] at hR
       refine Awp.exit ?_
       refine Awp.regionP C ?_
       refine rvP C (.pv (.lit (.int .i64 (IntKind.i64.wrap ((i1 : Int) + 1))))) ?_
       refine rvP C (.pv (.lit (.int .i64 (IntKind.i64.wrap ((i1 : Int) + 1))))) ?_
       refine rvc_nil ?_
       refine ⟨h25, out3, ?_, ?_⟩
       · exact ⟨(by rw [show 1001 - (i1 + 1) = k by omega]; exact hR), (by first | omega | (simp <;> omega))⟩
       · exact ⟨fun b => bif b == 901 then 903 else (fun b => b) b, WeakerR.ofL (Ks := [3, 4, 901]) hI ⟨⟨rfl, rfl⟩, ⟨rfl, rfl⟩, ⟨rfl, rfl⟩, ⟨grow_to rfl rfl hn_out3 rfl rfl, grow_within rfl⟩, ⟨rfl, rfl⟩, ⟨rfl, rfl⟩, ⟨rfl, rfl⟩, ⟨rfl, rfl⟩, ⟨lit_cast (wrap_i64 (by omega) (by omega)), rfl⟩, trivial⟩ (okH_grow (fun _ => rfl) rfl rfl (okH_cons rfl rfl rfl rfl (okH_cons rfl rfl rfl rfl (okH_nil)))) rfl⟩
     ·
      rw [show 1001 - i1 = 0 by have := of_decide_eq_false h24; omega] at hR
      refine Awp.exit ?_
      refine Awp.regionP C ?_
      refine rvP C (.pv (.lit (.int .i64 (IntKind.i64.wrap ((i : Int) + 1))))) ?_
      refine rvP C (.pv (.lit (.int .i64 (IntKind.i64.wrap ((i : Int) + 1))))) ?_
      refine rvc_nil ?_
      refine ⟨h5, out1, ?_, ?_⟩
      · exact ⟨hR, (by first | omega | (simp <;> omega))⟩
      · exact ⟨fun b => bif b == 900 then 901 else (fun b => b) b, WeakerR.ofL (Ks := [3, 4, 900]) hI ⟨⟨rfl, rfl⟩, ⟨rfl, rfl⟩, ⟨rfl, rfl⟩, ⟨grow_to rfl rfl h8 rfl rfl, grow_within rfl⟩, ⟨rfl, rfl⟩, ⟨rfl, rfl⟩, ⟨lit_cast (wrap_i64 (by omega) (by omega)), rfl⟩, trivial⟩ (okH_grow (fun _ => rfl) rfl rfl (okH_cons rfl rfl rfl rfl (okH_cons rfl rfl rfl rfl (okH_nil)))) rfl⟩
    -- !! two models: ('rNear_l0 c w from_ ([false, true].drop (i + 1)) (i + 1) out1', 'rNear_l2 w from_ x i1 (fun out2 => rNear_l1 c w from_ x (fun out1 => rNear_l0 c w from_ ([false, true].drop (i + 1)) (i + 1) out1) k (i1 + 1) out2) c.members.D 0 out1') ||| ('rNear_l0 c w from_ ([false, true].drop (i + 1)) (i + 1) out1', 'rNear_l2 w from_ x i1 (fun out3 => rNear_l1 c w from_ x (fun out1 => rNear_l0 c w from_ ([false, true].drop (i + 1)) (i + 1) out1) k (i1 + 1) out3) c.members.D 0 out1')
   ·
    have h5 : ¬ i < [false, true].length := by have := of_decide_eq_false h4; omega
    rw [drop_end h5] at hR
    refine Awp.exit ?_
    refine Awp.consP C ?_
    refine rvP C (sS (some out.isEmpty) (eI .i64) out) ?_
    refine rvP C (sS (some out.isEmpty) (eI .i64) out) ?_
    refine rvP C (.pv (.lit (.int .i64 0))) ?_
    refine rvc_nil ?_
    refine Awp.ret ?_
    subst hR
    exact ⟨.inl rfl, rfl⟩
  ·
   refine Awp.wordsR [(2, .pv (.lit (.int .i64 from_))), (3, .ptr 3 0), (4, .ptr 4 0), (9, .sl 900 0 out.length 1 false), (22, sS (some false) eB [false, true]), (23, .pv (.lit (.int .i64 ([false, true].length : Int)))), (24, .pv (.lit (.int .i64 (i : Int))))] [(900, .cells (encC (eI .i64) out)), (3, .cells [.pv (.lit (.int .i64 c.epoch)), sS (some c.members.nil) eMember c.members.D]), (4, .cells [.pv (.lit (.int .i64 ((w 0) 0))), .pv (.lit (.int .i64 ((w 0) 1))), .pv (.lit (.int .i64 ((w 0) 2))), .pv (.lit (.int .i64 ((w 1) 0))), .pv (.lit (.int .i64 ((w 1) 1))), .pv (.lit (.int .i64 ((w 1) 2))), .pv (.lit (.int .i64 ((w 2) 0))), .pv (.lit (.int .i64 ((w 2) 1))), .pv (.lit (.int .i64 ((w 2) 2)))])] [3, 4, 900] (WeakerR.ofL (Ks := [3, 4, 900]) hI ⟨⟨rfl, rfl⟩, ⟨rfl, rfl⟩, ⟨rfl, rfl⟩, ⟨(by exact grow_at_cons (b := 900) (b' := 900) (e := (eI .i64)) (l := out) rfl h3 rfl rfl rfl), rfl⟩, ⟨rfl, rfl⟩, ⟨rfl, rfl⟩, ⟨rfl, rfl⟩, trivial⟩ (okH_list (look_cons h3 rfl) rfl rfl (okH_cons (look_cons h3 rfl) rfl rfl rfl (okH_cons (look_cons h3 rfl) rfl rfl rfl (okH_nil)))) rfl) ?_
   refine Awp.consP C ?_
   refine rvP C (.pv (.lit (.bool (decide ((i : Int) < ([false, true].length : Int)))))) ?_
   refine rvc_nil ?_
   refine Awp.seq ?_
   refine Awp.cond (b := (decide ((i : Int) < ([false, true].length : Int)))) rfl (fun h33 => ?_) (fun h33 => ?_)
   ·
    have h34 : i < [false, true].length := by have := of_decide_eq_true h33; omega
    obtain ⟨x, h35⟩ := getX h34
    rw [drop_at h35] at hR
    refine Awp.skip ?_
    refine Awp.seq ?_
    refine Awp.block ?_
    refine Awp.consP C ?_
    refine rvc_un (rexec_idxS C rfl rfl rfl rfl rfl rfl x (Int.natCast_nonneg _) h35 ?_)
    refine rvP C (.pv (.lit (.bool x))) ?_
    refine rvP C (.pv (.lit (.bool x))) ?_
    refine rvc_nil ?_
    refine Awp.consP C ?_
    refine rvP C (.pv (.lit (.int .i64 0))) ?_
    refine rvc_nil ?_
    refine Awp.block ?_
    refine Awp.forR (σ := ((List Int))) (1001) (fun i4 v => [(2, .pv (.lit (.int .i64 from_))), (3, .ptr 3 0), (4, .ptr 4 0), (9, .sl 904 0 v.length 1 false), (11, .pv (.lit (.bool x))), (22, sS (some false) eB [false, true]), (23, .pv (.lit (.int .i64 ([false, true].length : Int)))), (24, .pv (.lit (.int .i64 (i : Int)))), (28, .pv (.lit (.int .i64 (i4 : Int))))]) (fun i4 v => [(3, .cells [.pv (.lit (.int .i64 c.epoch)), sS (some c.members.nil) eMember c.members.D]), (4, .cells [.pv (.lit (.int .i64 ((w 0) 0))), .pv (.lit (.int .i64 ((w 0) 1))), .pv (.lit (.int .i64 ((w 0) 2))), .pv (.lit (.int .i64 ((w 1) 0))), .pv (.lit (.int .i64 ((w 1) 1))), .pv (.lit (.int .i64 ((w 1) 2))), .pv (.lit (.int .i64 ((w 2) 0))), .pv (.lit (.int .i64 ((w 2) 1))), .pv (.lit (.int .i64 ((w 2) 2)))]), (904, .cells (encC (eI .i64) v))]) [3, 4, 904] (fun i4 v => (rNear_l1 c w from_ x (fun out4 => rNear_l0 c w from_ ([false, true].drop (i + 1)) (i + 1) out4) (1001 - i4) i4 v = R) ∧ (v ≠ [] ∧ v.length ≤ out.length + i4 * 6)) out ?_ ?_ (fun i4 out4 h36 hR => ?_)
    · exact ⟨hR, ⟨h3, (by first | omega | (simp <;> omega))⟩⟩
    · exact ⟨fun b => bif b == 904 then 900 else (fun b => b) b, WeakerR.ofL (Ks := [3, 4, 904]) hI ⟨⟨rfl, rfl⟩, ⟨rfl, rfl⟩, ⟨rfl, rfl⟩, ⟨rfl, rfl⟩, ⟨rfl, rfl⟩, ⟨rfl, rfl⟩, ⟨rfl, rfl⟩, ⟨rfl, rfl⟩, ⟨rfl, rfl⟩, trivial⟩ (okH_cons rfl rfl rfl rfl (okH_cons rfl rfl rfl rfl (okH_list rfl rfl rfl (okH_nil)))) rfl⟩
    obtain ⟨hR, ⟨hn_out4, hi_out4⟩⟩ := hR
    replace hi_out4 : out4.length ≤ out.length + i4 * 6 := hi_out4
    refine Awp.consP C ?_
    refine rvP C (.pv (.lit (.bool (decide ((i4 : Int) < 1001))))) ?_
    refine rvc_nil ?_
    refine Awp.seq ?_
    refine Awp.cond (b := (decide ((i4 : Int) < 1001))) rfl (fun h37 => ?_) (fun h37 => ?_)
    ·
     have h38 : i4 < 1001 := by have := of_decide_eq_true h37; omega
     obtain ⟨k1, h39⟩ : ∃ k, 1001 - i4 = k + 1 := ⟨1001 - i4 - 1, by omega⟩
     rw [h39] at hR
     refine Awp.skip ?_
     refine Awp.seq ?_
     refine Awp.block ?_
     refine Awp.consP C ?_
     refine rvP C (.pv (.lit (.int .i64 (i4 : Int)))) ?_
     refine rvP C (.pv (.lit (.int .i64 (i4 : Int)))) ?_
     refine rvc_nil ?_
     refine Awp.consP C ?_
     refine rvP C (.ptr 3 1) ?_
     refine rvP C (sS (some c.members.nil) eMember c.members.D) ?_
     refine rvP C (.pv (.lit (.int .i64 (c.members.D.length : Int)))) ?_
     refine rvP C (.pv (.lit (.int .i64 0))) ?_
     refine rvc_nil ?_
     refine Awp.block ?_
     refine Awp.forR (σ := ((List Int))) (c.members.D.length) (fun i5 v => [(2, .pv (.lit (.int .i64 from_))), (3, .ptr 3 0), (4, .ptr 4 0), (9, .sl 905 0 v.length 1 false), (11, .pv (.lit (.bool x))), (12, .pv (.lit (.int .i64 (i4 : Int)))), (22, sS (some false) eB [false, true]), (23, .pv (.lit (.int .i64 ([false, true].length : Int)))), (24, .pv (.lit (.int .i64 (i : Int)))), (28, .pv (.lit (.int .i64 (i4 : Int)))), (32, sS (some c.members.nil) eMember c.members.D), (33, .pv (.lit (.int .i64 (c.members.D.length : Int)))), (34, .pv (.lit (.int .i64 (i5 : Int))))]) (fun i5 v => [(3, .cells [.pv (.lit (.int .i64 c.epoch)), sS (some c.members.nil) eMember c.members.D]), (4, .cells [.pv (.lit (.int .i64 ((w 0) 0))), .pv (.lit (.int .i64 ((w 0) 1))), .pv (.lit (.int .i64 ((w 0) 2))), .pv (.lit (.int .i64 ((w 1) 0))), .pv (.lit (.int .i64 ((w 1) 1))), .pv (.lit (.int .i64 ((w 1) 2))), .pv (.lit (.int .i64 ((w 2) 0))), .pv (.lit (.int .i64 ((w 2) 1))), .pv (.lit (.int .i64 ((w 2) 2)))]), (905, .cells (encC (eI .i64) v))]) [3, 4, 905] (fun i5 v => (rNear_l2 w from_ x i4 (fun out5 => rNear_l1 c w from_ x (fun out4 => rNear_l0 c w from_ ([false, true].drop (i + 1)) (i + 1) out4) k1 (i4 + 1) out5) (c.members.D.drop i5) i5 v = R) ∧ (v ≠ [] ∧ v.length ≤ out4.length + i5)) out4 ?_ ?_ (fun i5 out5 h40 hR => ?_)
     · exact ⟨hR, ⟨hn_out4, (by first | omega | (simp <;> omega))⟩⟩
     · exact ⟨fun b => bif b == 905 then 904 else (fun b => b) b, WeakerR.ofL (Ks := [3, 4, 905]) hI ⟨⟨rfl, rfl⟩, ⟨rfl, rfl⟩, ⟨rfl, rfl⟩, ⟨rfl, rfl⟩, ⟨rfl, rfl⟩, ⟨rfl, rfl⟩, ⟨rfl, rfl⟩, ⟨rfl, rfl⟩, ⟨rfl, rfl⟩, ⟨rfl, rfl⟩, ⟨rfl, rfl⟩, ⟨rfl, rfl⟩, ⟨rfl, rfl⟩, trivial⟩ (okH_cons rfl rfl rfl rfl (okH_cons rfl rfl rfl rfl (okH_list rfl rfl rfl (okH_nil)))) rfl⟩
     obtain ⟨hR, ⟨hn_out5, hi_out5⟩⟩ := hR
     replace hi_out5 : out5.length ≤ out4.length + i5 := hi_out5
     refine Awp.consP C ?_
     refine rvP C (.pv (.lit (.bool (decide ((i5 : Int) < (c.members.D.length : Int)))))) ?_
     refine rvc_nil ?_
     refine Awp.seq ?_
     refine Awp.cond (b := (decide ((i5 : Int) < (c.members.D.length : Int)))) rfl (fun h41 => ?_) (fun h41 => ?_)
     ·
      have h42 : i5 < c.members.D.length := by have := of_decide_eq_true h41; omega
      obtain ⟨x3, h43⟩ := getX h42
      rw [drop_at h43] at hR
      refine Awp.skip ?_
      refine Awp.seq ?_
      refine Awp.block ?_
      refine Awp.consP C ?_
      refine rvc_un (rexec_idxS C rfl rfl rfl rfl rfl rfl x3 (Int.natCast_nonneg _) h43 ?_)
      refine rvP C (.agg [.pv (.lit (.int .i64 x3.node)), .pv (.lit (.int .i64 x3.site)), .pv (.lit (.bool x3.fresh))]) ?_
      refine rvc_un (rexec_prim C (δ := { v := .ptr 14 0, new := [(14, .cells [.pv (.lit (.int .i64 0)), .pv (.lit (.int .i64 0)), .pv (.lit (.bool false))])] }) rfl rfl rfl rfl trivial rfl ?_)
      refine rvc_un (rexec_prim C (δ := { v := .undef, wr := [(14, some (.cells [.pv (.lit (.int .i64 x3.node)), .pv (.lit (.int .i64 x3.site)), .pv (.lit (.bool x3.fresh))]))] }) rfl rfl rfl rfl trivial rfl ?_)
      refine rvc_nil ?_
      refine Awp.consP C ?_
      refine rvP C (.ptr 14 2) ?_
      refine rvP C (.pv (.lit (.bool x3.fresh))) ?_
      refine rvP C (.pv (.lit (.bool x))) ?_
      refine rvP C (.pv (.lit (.bool (x3.fresh == x)))) ?_
      refine rvP C (.pv (.lit (.bool (x3.fresh == x)))) ?_
      refine rvc_case 42 (x3.fresh == x) rfl (fun h44 => ?_) (fun h44 => ?_)
      ·
       replace hR := of_true h44 hR
       refine rvO C (.pv (.lit (.int .i64 from_))) ?_
       refine rvO C (.ptr 14 1) ?_
       refine rvO C (.pv (.lit (.int .i64 x3.site))) ?_
       refine rvc_open rfl rfl rfl (rexec_prim C (δ := { v := .ptr 4 (0 + from_.toNat * 3) }) rfl rfl rfl rfl ⟨(by have hAB_ := (may_ok (eq_of_bne_false h1)); first | omega | (have q_ := sites_ok hAB_.1 _ (List.mem_of_getElem? ‹c.members.D[_]? = some _›); omega)), (by have hAB_ := (may_ok (eq_of_bne_false h1)); first | omega | (have q_ := sites_ok hAB_.1 _ (List.mem_of_getElem? ‹c.members.D[_]? = some _›); omega))⟩ rfl ?_)
       refine rvc_open rfl rfl rfl (rexec_prim C (δ := { v := .ptr 4 (0 + from_.toNat * 3 + x3.site.toNat * 1) }) rfl rfl rfl rfl ⟨(by have hAB_ := (may_ok (eq_of_bne_false h1)); first | omega | (have q_ := sites_ok hAB_.1 _ (List.mem_of_getElem? ‹c.members.D[_]? = some _›); omega)), (by have hAB_ := (may_ok (eq_of_bne_false h1)); first | omega | (have q_ := sites_ok hAB_.1 _ (List.mem_of_getElem? ‹c.members.D[_]? = some _›); omega))⟩ rfl ?_)
       refine rvc_open rfl rfl rfl (rexec_load33 C (fun p q => .pv (.lit (.int .i64 ((w p) q)))) from_.toNat x3.site.toNat (.pv (.lit (.int .i64 ((w from_.toNat) x3.site.toNat)))) rfl rfl rfl rfl rfl rfl rfl (by have hAB_ := (may_ok (eq_of_bne_false h1)); first | omega | (have q_ := sites_ok hAB_.1 _ (List.mem_of_getElem? ‹c.members.D[_]? = some _›); omega)) (by have hAB_ := (may_ok (eq_of_bne_false h1)); first | omega | (have q_ := sites_ok hAB_.1 _ (List.mem_of_getElem? ‹c.members.D[_]? = some _›); omega)) rfl ?_)
       refine rvO C (.pv (.lit (.int .i64 (i4 : Int)))) ?_
       refine rvO C (.pv (.lit (.bool (((w from_.toNat) x3.site.toNat) == (i4 : Int))))) ?_
       refine rvP C (.pv (.lit (.bool (((w from_.toNat) x3.site.toNat) == (i4 : Int))))) ?_
       refine rvc_nil ?_
       refine Awp.cond (b := (((w from_.toNat) x3.site.toNat) == (i4 : Int))) rfl (fun h45 => ?_) (fun h45 => ?_)
       ·
        replace hR := of_true h45 hR
        refine Awp.regionP C ?_
        refine rvP C (.sl 905 0 out5.length 1 false) ?_
        refine rvP C (.ptr 14 0) ?_
        refine rvP C (.pv (.lit (.int .i64 x3.node))) ?_
        refine rvc_un (rexec_buildSliceF C (eI .i64) [x3.node] rfl rfl rfl rfl rfl rfl rfl (by decide) rfl ?_)
        refine rvc_un (rexec_append C rfl rfl rfl rfl rfl rfl rfl rfl (fun _ h => by cases h) rfl (en := (eI .i64)) (D0 := out5) (D := [x3.node]) rfl rfl rfl rfl (by have := eq_of_bne_false h1; have := of_decide_eq_true h33; have := of_decide_eq_true h37; have := of_decide_eq_true h41; have := beq_iff_eq.1 h44; have := beq_iff_eq.1 h45; first | omega | (simp <;> omega)) (by decide) (nn := (out5 ++ [x3.node]).length) (by simp) ?_)
        refine rvP C (.sl 56 0 ((out5 ++ [x3.node]).length) 1 false) ?_
        refine rvc_nil ?_
        refine Awp.regionP C ?_
        refine rvP C (.pv (.lit (.int .i64 (IntKind.i64.wrap ((i5 : Int) + 1))))) ?_
        refine rvP C (.pv (.lit (.int .i64 (IntKind.i64.wrap ((i5 : Int) + 1))))) ?_
        refine rvc_nil ?_
        refine ⟨h42, (out5 ++ [x3.node]), ?_, ?_⟩
        · exact ⟨hR, ⟨app_ne, (by first | omega | (simp <;> omega))⟩⟩
        · exact ⟨fun b => bif b == 905 then 56 else (fun b => b) b, WeakerR.ofL (Ks := [3, 4, 905]) hI ⟨⟨rfl, rfl⟩, ⟨rfl, rfl⟩, ⟨rfl, rfl⟩, ⟨rfl, rfl⟩, ⟨rfl, rfl⟩, ⟨rfl, rfl⟩, ⟨rfl, rfl⟩, ⟨rfl, rfl⟩, ⟨rfl, rfl⟩, ⟨rfl, rfl⟩, ⟨rfl, rfl⟩, ⟨rfl, rfl⟩, ⟨lit_cast (wrap_i64 (by omega) (by omega)), rfl⟩, trivial⟩ (okH_cons rfl rfl rfl rfl (okH_cons rfl rfl rfl rfl (okH_list rfl rfl rfl (okH_nil)))) rfl⟩
       ·
        replace hR := of_false h45 hR
        refine Awp.skip ?_
        refine Awp.regionP C ?_
        refine rvP C (.pv (.lit (.int .i64 (IntKind.i64.wrap ((i5 : Int) + 1))))) ?_
        refine rvP C (.pv (.lit (.int .i64 (IntKind.i64.wrap ((i5 : Int) + 1))))) ?_
        refine rvc_nil ?_
        refine ⟨h42, out5, ?_, ?_⟩
        · exact ⟨hR, ⟨hn_out5, (by first | omega | (simp <;> omega))⟩⟩
        · exact ⟨fun b => b, WeakerR.ofL (Ks := [3, 4, 905]) hI ⟨⟨rfl, rfl⟩, ⟨rfl, rfl⟩, ⟨rfl, rfl⟩, ⟨rfl, rfl⟩, ⟨rfl, rfl⟩, ⟨rfl, rfl⟩, ⟨rfl, rfl⟩, ⟨rfl, rfl⟩, ⟨rfl, rfl⟩, ⟨rfl, rfl⟩, ⟨rfl, rfl⟩, ⟨rfl, rfl⟩, ⟨lit_cast (wrap_i64 (by omega) (by omega)), rfl⟩, trivial⟩ (okH_cons rfl rfl rfl rfl (okH_cons rfl rfl rfl rfl (okH_list rfl rfl rfl (okH_nil)))) rfl⟩
      ·
       replace hR := of_false h44 hR
       refine rvS ?_
       refine rvS ?_
       refine rvS ?_
       refine rvS ?_
       refine rvS ?_
       refine rvS ?_
       refine rvS ?_
       refine rvS ?_
       refine rvP C (.pv (.lit (.bool false))) ?_
       refine rvc_nil ?_
       refine Awp.condF (b := false) rfl rfl ?_
       refine Awp.skip ?_
       refine Awp.regionP C ?_
       refine rvP C (.pv (.lit (.int .i64 (IntKind.i64.wrap ((i5 : Int) + 1))))) ?_
       refine rvP C (.pv (.lit (.int .i64 (IntKind.i64.wrap ((i5 : Int) + 1))))) ?_
       refine rvc_nil ?_
       refine ⟨h42, out5, ?_, ?_⟩
       · exact ⟨hR, ⟨hn_out5, (by first | omega | (simp <;> omega))⟩⟩
       · exact ⟨fun b => b, WeakerR.ofL (Ks := [3, 4, 905]) hI ⟨⟨rfl, rfl⟩, ⟨rfl, rfl⟩, ⟨rfl, rfl⟩, ⟨rfl, rfl⟩, ⟨rfl, rfl⟩, ⟨rfl, rfl⟩, ⟨rfl, rfl⟩, ⟨rfl, rfl⟩, ⟨rfl, rfl⟩, ⟨rfl, rfl⟩, ⟨rfl, rfl⟩, ⟨rfl, rfl⟩, ⟨lit_cast (wrap_i64 (by omega) (by omega)), rfl⟩, trivial⟩ (okH_cons rfl rfl rfl rfl (okH_cons rfl rfl rfl rfl (okH_list rfl rfl rfl (okH_nil)))) rfl⟩
     ·
      have h42 : ¬ i5 < c.members.D.length := by have := of_decide_eq_false h41; omega
      rw [drop_end h42] at hR
      refine Awp.exit ?_
      refine Awp.regionP C ?_
      refine rvP C (.pv (.lit (.int .i64 (IntKind.i64.wrap ((i4 : Int) + 1))))) ?_
      refine rvP C (.pv (.lit (.int .i64 (IntKind.i64.wrap ((i4 : Int) + 1))))) ?_
      refine rvc_nil ?_
      refine ⟨h38, out5, ?_, ?_⟩
      · exact ⟨(by rw [show 1001 - (i4 + 1) = k1 by omega]; exact hR), ⟨hn_out5, (by first | omega | (simp <;> omega))⟩⟩
      · exact ⟨fun b => bif b == 904 then 905 else (fun b => b) b, WeakerR.ofL (Ks := [3, 4, 904]) hI ⟨⟨rfl, rfl⟩, ⟨rfl, rfl⟩, ⟨rfl, rfl⟩, ⟨rfl, rfl⟩, ⟨rfl, rfl⟩, ⟨rfl, rfl⟩, ⟨rfl, rfl⟩, ⟨rfl, rfl⟩, ⟨lit_cast (wrap_i64 (by omega) (by omega)), rfl⟩, trivial⟩ (okH_cons rfl rfl rfl rfl (okH_cons rfl rfl rfl rfl (okH_list rfl rfl rfl (okH_nil)))) rfl⟩
    ·
     rw [show 1001 - i4 = 0 by have := of_decide_eq_false h37; omega] at hR
     refine Awp.exit ?_
     refine Awp.regionP C ?_
     refine rvP C (.pv (.lit (.int .i64 (IntKind.i64.wrap ((i : Int) + 1))))) ?_
     refine rvP C (.pv (.lit (.int .i64 (IntKind.i64.wrap ((i : Int) + 1))))) ?_
     refine rvc_nil ?_
     refine ⟨h34, out4, ?_, ?_⟩
     · exact ⟨hR, (by first | omega | (simp <;> omega))⟩
     · exact ⟨fun b => bif b == 900 then 904 else (fun b => b) b, WeakerR.ofL (Ks := [3, 4, 900]) hI ⟨⟨rfl, rfl⟩, ⟨rfl, rfl⟩, ⟨rfl, rfl⟩, ⟨grow_to rfl rfl hn_out4 rfl rfl, grow_within rfl⟩, ⟨rfl, rfl⟩, ⟨rfl, rfl⟩, ⟨lit_cast (wrap_i64 (by omega) (by omega)), rfl⟩, trivial⟩ (okH_grow (fun _ => rfl) rfl rfl (okH_cons rfl rfl rfl rfl (okH_cons rfl rfl rfl rfl (okH_nil)))) rfl⟩
   ·
    have h34 : ¬ i < [false, true].length := by have := of_decide_eq_false h33; omega
    rw [drop_end h34] at hR
    refine Awp.exit ?_
    refine Awp.consP C ?_
    refine rvP C (.sl 900 0 out.length 1 false) ?_
    refine rvP C (.sl 900 0 out.length 1 false) ?_
    refine rvP C (.pv (.lit (.int .i64 0))) ?_
    refine rvc_nil ?_
    refine Awp.freezeW 900 (encL (eI .i64) out) ?_ [(6, sS (some out.isEmpty) (eI .i64) out), (7, .pv (.lit (.int .i64 0)))] [(3, .cells [.pv (.lit (.int .i64 c.epoch)), sS (some c.members.nil) eMember c.members.D]), (4, .cells [.pv (.lit (.int .i64 ((w 0) 0))), .pv (.lit (.int .i64 ((w 0) 1))), .pv (.lit (.int .i64 ((w 0) 2))), .pv (.lit (.int .i64 ((w 1) 0))), .pv (.lit (.int .i64 ((w 1) 1))), .pv (.lit (.int .i64 ((w 1) 2))), .pv (.lit (.int .i64 ((w 2) 0))), .pv (.lit (.int .i64 ((w 2) 1))), .pv (.lit (.int .i64 ((w 2) 2)))])] ?_ ?_ ?_
    · rfl
    · exact ⟨⟨_, rfl, .inl (.inr ⟨_, _, _, rfl, by rw [ne_isEmpty h3]; rfl⟩)⟩, ⟨_, rfl, .inl (.inl rfl)⟩, trivial⟩
    · exact ⟨⟨(by show (3 : Nat) ≠ 900; decide), .inl rfl⟩, ⟨(by show (4 : Nat) ≠ 900; decide), .inl rfl⟩, trivial⟩
    refine Awp.ret ?_
    subst hR
    exact ⟨.inl rfl, rfl⟩
  -- !! two models: ('((Sl.mk out.isEmpty out), 0)', 'rNear_l1 c w from_ x (fun out1 => rNear_l0 c w from_ ([false, true].drop (i + 1)) (i + 1) out1) 1001 0 out') ||| ('((Sl.mk out.isEmpty out), 0)', 'rNear_l1 c w from_ x (fun out4 => rNear_l0 c w from_ ([false, true].drop (i + 1)) (i + 1) out4) 1001 0 out')
end Go.Proofs.Ytihccnkegkkikaa
/- Ways in plain Lean: the code's answers are the document's. No conditions. -/
namespace Go.Proofs.Ytihccnkegkkikaa
open Go.Am
def okA (w : Nat → Nat → Int) (i j : Nat) : Bool := decide (0 ≤ w i j) && decide (w i j ≤ 1000) && (w i j == w j i) && (!(i == j) || w i j == 0)
def okB (w : Nat → Nat → Int) (i j : Nat) : Bool := decide (0 ≤ w i j) && decide (w i j ≤ 1000) && (w i j == w j i) && (w i i == 0)
theorem wayCheck_l1_eq (w : Nat → Nat → Int) (i : Nat) (kk : Int) : ∀ (k j : Nat), wayCheck_l1 w i kk k j = bif (List.range' j k).all (okA w i) then kk else 1
  | 0, _ => rfl
  | k + 1, j => by
    unfold wayCheck_l1
    rw [List.range'_succ, List.all_cons, wayCheck_l1_eq w i kk k (j + 1)]
    unfold okA
    have e1 : decide (0 ≤ w i j) = !decide (w i j < 0) := by rw [← decide_not]; exact decide_eq_decide.2 (by omega)
    have e2 : decide (w i j ≤ 1000) = !decide (w i j > 1000) := by rw [← decide_not]; exact decide_eq_decide.2 (by omega)
    have e3 : ((i : Int) == (j : Int)) = (i == j) := by rw [Bool.eq_iff_iff]; simp; omega
    rw [e1, e2, e3]
    cases decide (w i j < 0)
    case true => rfl
    cases decide (w i j > 1000)
    case true => rfl
    have e4 : (w i j != w j i) = !(w i j == w j i) := rfl
    have e5 : (w i j != 0) = !(w i j == 0) := rfl
    rw [e4, e5]
    cases w i j == w j i
    case false => rfl
    cases i == j
    case false => rfl
    cases w i j == 0 <;> rfl
theorem rWayCheck_l1_eq (w : Nat → Nat → Int) (i : Nat) (kk : Int) : ∀ (k j : Nat), rWayCheck_l1 w i kk k j = bif (List.range' j k).all (okB w i) then kk else 1
  | 0, _ => rfl
  | k + 1, j => by
    unfold rWayCheck_l1
    rw [List.range'_succ, List.all_cons, rWayCheck_l1_eq w i kk k (j + 1)]
    unfold okB
    have e1 : decide (0 ≤ w i j) = !decide (w i j < 0) := by rw [← decide_not]; exact decide_eq_decide.2 (by omega)
    have e2 : decide (w i j ≤ 1000) = !decide (w i j > 1000) := by rw [← decide_not]; exact decide_eq_decide.2 (by omega)
    rw [e1, e2]
    cases decide (w i j < 0)
    case true => rfl
    cases decide (w i j > 1000)
    case true => rfl
    have e4 : (w i j != w j i) = !(w i j == w j i) := rfl
    have e5 : (w i i != 0) = !(w i i == 0) := rfl
    rw [e4, e5]
    cases w i j == w j i
    case false => rfl
    cases w i i == 0 <;> rfl
theorem wayCheck_l0_eq (w : Nat → Nat → Int) : ∀ (k i : Nat), wayCheck_l0 w k i = bif (List.range' i k).all (fun i => (List.range' 0 3).all (okA w i)) then 0 else 1
  | 0, _ => rfl
  | k + 1, i => by
    unfold wayCheck_l0
    rw [wayCheck_l1_eq, wayCheck_l0_eq w k (i + 1), show List.range' i (k + 1) = i :: List.range' (i + 1) k from List.range'_succ .., List.all_cons]
    cases (List.range' 0 3).all (okA w i) <;> rfl
theorem rWayCheck_l0_eq (w : Nat → Nat → Int) : ∀ (k i : Nat), rWayCheck_l0 w k i = bif (List.range' i k).all (fun i => (List.range' 0 3).all (okB w i)) then 0 else 1
  | 0, _ => rfl
  | k + 1, i => by
    unfold rWayCheck_l0
    rw [rWayCheck_l1_eq, rWayCheck_l0_eq w k (i + 1), show List.range' i (k + 1) = i :: List.range' (i + 1) k from List.range'_succ .., List.all_cons]
    cases (List.range' 0 3).all (okB w i) <;> rfl
theorem all_all {p : Nat → Nat → Bool} : ((List.range' 0 3).all fun i => (List.range' 0 3).all (p i)) = true ↔ ∀ i j, i < 3 → j < 3 → p i j = true := by
  rw [List.all_eq_true]
  constructor
  · intro h i j hi hj
    exact List.all_eq_true.1 (h i (List.mem_range'_1.2 ⟨Nat.zero_le _, by omega⟩)) j (List.mem_range'_1.2 ⟨Nat.zero_le _, by omega⟩)
  · intro h i hi
    refine List.all_eq_true.2 fun j hj => h i j ?_ ?_
    · have := (List.mem_range'_1.1 hi).2; omega
    · have := (List.mem_range'_1.1 hj).2; omega
theorem okA_iff {w : Nat → Nat → Int} {i j : Nat} : okA w i j = true ↔ 0 ≤ w i j ∧ w i j ≤ 1000 ∧ w i j = w j i ∧ (i = j → w i j = 0) := by
  unfold okA
  simp only [Bool.and_eq_true, Bool.or_eq_true, decide_eq_true_eq, beq_iff_eq, Bool.not_eq_true', beq_eq_false_iff_ne]
  constructor
  · rintro ⟨⟨⟨h1, h2⟩, h3⟩, h4⟩
    exact ⟨h1, h2, h3, fun e => h4.resolve_left fun h => h e⟩
  · rintro ⟨h1, h2, h3, h4⟩
    refine ⟨⟨⟨h1, h2⟩, h3⟩, ?_⟩
    by_cases e : i = j
    · exact .inr (h4 e)
    · exact .inl e
theorem okB_iff {w : Nat → Nat → Int} {i j : Nat} : okB w i j = true ↔ 0 ≤ w i j ∧ w i j ≤ 1000 ∧ w i j = w j i ∧ w i i = 0 := by
  unfold okB
  simp only [Bool.and_eq_true, decide_eq_true_eq, beq_iff_eq]
  constructor
  · rintro ⟨⟨⟨h1, h2⟩, h3⟩, h4⟩; exact ⟨h1, h2, h3, h4⟩
  · rintro ⟨h1, h2, h3, h4⟩; exact ⟨⟨⟨h1, h2⟩, h3⟩, h4⟩
/-- What ways are. -/
def Ways (w : Nat → Nat → Int) : Prop := ∀ i j, i < 3 → j < 3 → 0 ≤ w i j ∧ w i j ≤ 1000 ∧ w i j = w j i ∧ w i i = 0
theorem wayCheck_iff (w : Nat → Nat → Int) : (wayCheck w = 0 ↔ Ways w) ∧ (wayCheck w = 0 ∨ wayCheck w = 1) := by
  unfold wayCheck
  rw [wayCheck_l0_eq]
  cases h : (List.range' 0 3).all fun i => (List.range' 0 3).all (okA w i)
  · refine ⟨⟨fun h => (by cases h), fun hw => ?_⟩, .inr rfl⟩
    have := all_all.2 fun i j hi hj => okA_iff.2 ⟨(hw i j hi hj).1, (hw i j hi hj).2.1, (hw i j hi hj).2.2.1, fun e => by subst e; exact (hw i i hi hi).2.2.2⟩
    rw [h] at this; cases this
  · refine ⟨⟨fun _ i j hi hj => ?_, fun _ => rfl⟩, .inl rfl⟩
    have h1 := okA_iff.1 (all_all.1 h i j hi hj)
    exact ⟨h1.1, h1.2.1, h1.2.2.1, (okA_iff.1 (all_all.1 h i i hi hi)).2.2.2 rfl⟩
theorem rWayCheck_iff (w : Nat → Nat → Int) : (rWayCheck w = 0 ↔ Ways w) ∧ (rWayCheck w = 0 ∨ rWayCheck w = 1) := by
  unfold rWayCheck
  rw [rWayCheck_l0_eq]
  cases h : (List.range' 0 3).all fun i => (List.range' 0 3).all (okB w i)
  · refine ⟨⟨fun h => (by cases h), fun hw => ?_⟩, .inr rfl⟩
    have := all_all.2 fun i j hi hj => okB_iff.2 (hw i j hi hj)
    rw [h] at this; cases this
  · exact ⟨⟨fun _ i j hi hj => okB_iff.1 (all_all.1 h i j hi hj), fun _ => rfl⟩, .inl rfl⟩
theorem way_eq (w : Nat → Nat → Int) : rWayCheck w = wayCheck w := by
  obtain ⟨h1, h2⟩ := wayCheck_iff w
  obtain ⟨h3, h4⟩ := rWayCheck_iff w
  rcases h2 with e | e
  · rw [e]; exact h3.2 (h1.1 e)
  · rcases h4 with f | f
    · have := h1.2 (h3.1 f); rw [e] at this; cases this
    · rw [e, f]
theorem able_eq (c : Chain) (w : Nat → Nat → Int) (f : Int) : able c w f = rMay c w f := by
  unfold able rMay
  rw [← check_eq, way_eq]
  cases hc : check c != 0
  · cases wayCheck w != 0
    · unfold siteOk
      have e1 : decide (f ≥ 0) = !decide (f < 0) := by rw [← decide_not]; exact decide_eq_decide.2 (by omega)
      have e2 : decide (f < 3) = !decide (f > 2) := by rw [← decide_not]; exact decide_eq_decide.2 (by omega)
      rw [e1, e2]
      cases decide (f < 0) <;> cases decide (f > 2) <;> rfl
    · rfl
  · rw [cond_true, cond_true, check_bad hc]
def keyN (w : Nat → Nat → Int) (f : Int) (x : Member) : Nat := (bif x.fresh then 1001 else 0) + (w f.toNat x.site.toNat).toNat
theorem way_at {w : Nat → Nat → Int} (hw : Ways w) {f s : Int} (hf : 0 ≤ f ∧ f < 3) (hs : 0 ≤ s ∧ s < 3) : 0 ≤ w f.toNat s.toNat ∧ w f.toNat s.toNat ≤ 1000 := by
  have := hw f.toNat s.toNat (by omega) (by omega)
  exact ⟨this.1, this.2.1⟩
theorem nearF_key {w : Nat → Nat → Int} (hw : Ways w) {f : Int} (hf : 0 ≤ f ∧ f < 3) {x y : Member} (hx : 0 ≤ x.site ∧ x.site < 3) (hy : 0 ≤ y.site ∧ y.site < 3) : decide (nearF x y w f < 0) = decide (keyN w f x < keyN w f y) := by
  have h1 := way_at hw hf hx
  have h2 := way_at hw hf hy
  unfold nearF keyN
  cases x.fresh <;> cases y.fresh
  · show decide (IntKind.i64.wrap (w f.toNat x.site.toNat - w f.toNat y.site.toNat) < 0) = decide (0 + _ < 0 + _)
    rw [wrapI _ (by omega)]
    exact decide_eq_decide.2 (by omega)
  · show decide ((-1 : Int) < 0) = decide (0 + _ < 1001 + _)
    exact decide_eq_decide.2 (by omega)
  · show decide ((1 : Int) < 0) = decide (1001 + _ < 0 + _)
    exact decide_eq_decide.2 (by omega)
  · show decide (IntKind.i64.wrap (w f.toNat x.site.toNat - w f.toNat y.site.toNat) < 0) = decide (1001 + _ < 1001 + _)
    rw [wrapI _ (by omega)]
    exact decide_eq_decide.2 (by omega)
theorem near_l0_eq : ∀ (l : List Member) (i : Nat) (out : List Int), near_l0 l i out = (⟨(out ++ l.map (·.node)).isEmpty, out ++ l.map (·.node)⟩, 0)
  | [], _, out => by rw [List.map_nil, List.append_nil]; rfl
  | x :: l, i, out => by
    unfold near_l0
    rw [near_l0_eq l, List.append_assoc]; rfl
theorem rNear_l2_eq (w : Nat → Nat → Int) (f : Int) (b : Bool) (n : Nat) (kk : List Int → Sl Int × Int) : ∀ (l : List Member) (i : Nat) (out : List Int), rNear_l2 w f b n kk l i out = kk (out ++ (l.filter fun x => (x.fresh == b) && (w f.toNat x.site.toNat == (n : Int))).map (·.node))
  | [], _, out => by rw [List.filter_nil, List.map_nil, List.append_nil]; rfl
  | x :: l, i, out => by
    unfold rNear_l2
    rw [rNear_l2_eq w f b n kk l, rNear_l2_eq w f b n kk l, List.filter_cons]
    cases x.fresh == b
    · rfl
    · cases w f.toNat x.site.toNat == (n : Int)
      · rfl
      · show kk (out ++ [x.node] ++ _) = kk (out ++ x.node :: _)
        rw [List.append_assoc]; rfl
theorem rNear_l1_eq (c : Chain) (w : Nat → Nat → Int) (f : Int) (b : Bool) (kk : List Int → Sl Int × Int) : ∀ (k n : Nat) (out : List Int), rNear_l1 c w f b kk k n out = kk (out ++ (List.range' n k).flatMap fun (n : Nat) => (c.members.D.filter fun x => (x.fresh == b) && (w f.toNat x.site.toNat == (n : Int))).map (·.node))
  | 0, _, out => by rw [List.range'_zero, List.flatMap_nil, List.append_nil]; rfl
  | k + 1, n, out => by
    unfold rNear_l1
    rw [rNear_l2_eq, rNear_l1_eq c w f b kk k (n + 1), List.range'_succ, List.flatMap_cons, List.append_assoc]
theorem near_eq (c : Chain) (w : Nat → Nat → Int) (f : Int) : near c w f = rNear c w f := by
  unfold near rNear
  rw [← able_eq]
  cases ha : able c w f != 0
  case true => rfl
  obtain ⟨hc, hw, hf⟩ := able_ok (eq_of_bne_false ha)
  have hW := (wayCheck_iff w).1.1 hw
  have hs := sites_ok hc
  have h6 := check_le6 hc
  rw [cond_false, cond_false, near_l0_eq, List.nil_append]
  rw [sort_bucket (fun x0 x1 => nearF x0 x1 w f) (keyN w f) (K := 2002) c.members.D (by omega) (fun x hx y hy => nearF_key hW hf (hs x hx) (hs y hy)) (fun x hx => by
    have := way_at hW hf (hs x hx)
    unfold keyN; cases x.fresh
    · show 0 + _ < 2002; omega
    · show 1001 + _ < 2002; omega)]
  unfold rNear_l0
  rw [rNear_l1_eq]
  unfold rNear_l0
  rw [rNear_l1_eq]
  unfold rNear_l0
  rw [List.nil_append]
  have e : (bucket (keyN w f) 2002 c.members.D).map (·.node) = ((List.range' 0 1001).flatMap fun (n : Nat) => (c.members.D.filter fun x => (x.fresh == false) && (w f.toNat x.site.toNat == (n : Int))).map (·.node)) ++ ((List.range' 0 1001).flatMap fun (n : Nat) => (c.members.D.filter fun x => (x.fresh == true) && (w f.toNat x.site.toNat == (n : Int))).map (·.node)) := by
    unfold bucket
    rw [List.range_eq_range', show (2002 : Nat) = 1001 + 1001 from rfl, ← List.range'_append_1, List.flatMap_append, List.map_append, List.map_flatMap, List.map_flatMap]
    congr 1
    · refine flatMap_congr' fun n hn => ?_
      have := (List.mem_range'_1.1 hn).2
      congr 1
      refine List.filter_congr fun x hx => ?_
      have hb := way_at hW hf (hs x hx)
      unfold keyN
      rw [Bool.eq_iff_iff]
      cases x.fresh
      · simp; omega
      · simp; omega
    · rw [show (0 + 1001 : Nat) = 1001 from rfl, List.range'_eq_map_range, List.range'_eq_map_range, List.flatMap_map, List.flatMap_map]
      refine flatMap_congr' fun n hn => ?_
      have := List.mem_range.1 hn
      congr 1
      refine List.filter_congr fun x hx => ?_
      have hb := way_at hW hf (hs x hx)
      unfold keyN
      rw [Bool.eq_iff_iff]
      cases x.fresh
      · simp; omega
      · simp; omega
  rw [e]
theorem near_len (c : Chain) (w : Nat → Nat → Int) (f : Int) : (near c w f).1.D.length ≤ 6 := by
  unfold near
  cases ha : able c w f != 0
  case true => exact Nat.zero_le _
  obtain ⟨hc, _, _⟩ := able_ok (eq_of_bne_false ha)
  have h6 := check_le6 hc
  rw [cond_false, near_l0_eq]
  show (([] : List Int) ++ _).length ≤ 6
  rw [List.nil_append, List.length_map, sortSF_len _ _ (by omega)]
  exact h6
theorem rNear_len (c : Chain) (w : Nat → Nat → Int) (f : Int) : (rNear c w f).1.D.length ≤ 6 := by rw [← near_eq]; exact near_len c w f
end Go.Proofs.Ytihccnkegkkikaa
/- The example. No conditions. -/
namespace Go.Proofs.Ytihccnkegkkikaa
open Go.Am
def awake  : Bool :=
  (bif ((writeW (Chain.mk 1 (Sl.mk false [(Member.mk 0 0 false), (Member.mk 1 1 false)])) (ofL [(ofL [(0 : Int), 5, 9]), (ofL [(5 : Int), 0, 9]), (ofL [(9 : Int), 9, 0])]) 0).1 == 10) then (bif ((writeW (Chain.mk 1 (Sl.mk false [(Member.mk 0 0 false), (Member.mk 1 1 false)])) (ofL [(ofL [(0 : Int), 5, 9]), (ofL [(5 : Int), 0, 9]), (ofL [(9 : Int), 9, 0])]) 0).2 == 0) then (bif ((readW (Chain.mk 1 (Sl.mk false [(Member.mk 0 0 false), (Member.mk 1 1 false)])) (ofL [(ofL [(0 : Int), 5, 9]), (ofL [(5 : Int), 0, 9]), (ofL [(9 : Int), 9, 0])]) 1 1 false 0).1 == 10) then (bif ((readW (Chain.mk 1 (Sl.mk false [(Member.mk 0 0 false), (Member.mk 1 1 false)])) (ofL [(ofL [(0 : Int), 5, 9]), (ofL [(5 : Int), 0, 9]), (ofL [(9 : Int), 9, 0])]) 1 1 false 0).2 == 0) then (bif (eqInts (near (Chain.mk 1 (Sl.mk false [(Member.mk 0 0 false), (Member.mk 1 1 false)])) (ofL [(ofL [(0 : Int), 5, 9]), (ofL [(5 : Int), 0, 9]), (ofL [(9 : Int), 9, 0])]) 1).1 (Sl.mk false [1, 0])) then (bif ((near (Chain.mk 1 (Sl.mk false [(Member.mk 0 0 false), (Member.mk 1 1 false)])) (ofL [(ofL [(0 : Int), 5, 9]), (ofL [(5 : Int), 0, 9]), (ofL [(9 : Int), 9, 0])]) 1).2 == 0) then ((wayCheck (ofL [(ofL [(0 : Int), 4, 9]), (ofL [(5 : Int), 0, 9]), (ofL [(9 : Int), 9, 0])])) == 1) else false) else false) else false) else false) else false) else false)
theorem awake_calls   : PCalls Try.prog 11 [] (.pv (.lit (.bool (awake )))) := by
 generalize hR : awake  = R
 refine PCalls.of_body tabOk Try.func11 rfl rfl rfl rfl rfl mixed fun E hP C hI => ?_
 refine Awp.consP C ?_
 refine rvP C (.pv (.lit (.bool false))) ?_
 refine rvc_nil ?_
 refine Awp.consP C ?_
 refine rvP C (.agg [.pv (.lit (.int .i64 0)), .pv (.lit (.int .i64 5)), .pv (.lit (.int .i64 9))]) ?_
 refine rvP C (.agg [.pv (.lit (.int .i64 5)), .pv (.lit (.int .i64 0)), .pv (.lit (.int .i64 9))]) ?_
 refine rvP C (.agg [.pv (.lit (.int .i64 9)), .pv (.lit (.int .i64 9)), .pv (.lit (.int .i64 0))]) ?_
 refine rvP C (.agg [.pv (.lit (.int .i64 0)), .pv (.lit (.int .i64 5)), .pv (.lit (.int .i64 9)), .pv (.lit (.int .i64 5)), .pv (.lit (.int .i64 0)), .pv (.lit (.int .i64 9)), .pv (.lit (.int .i64 9)), .pv (.lit (.int .i64 9)), .pv (.lit (.int .i64 0))]) ?_
 refine rvc_un (rexec_prim C (δ := { v := .ptr 1 0, new := [(1, .cells [.pv (.lit (.int .i64 0)), .pv (.lit (.int .i64 0)), .pv (.lit (.int .i64 0)), .pv (.lit (.int .i64 0)), .pv (.lit (.int .i64 0)), .pv (.lit (.int .i64 0)), .pv (.lit (.int .i64 0)), .pv (.lit (.int .i64 0)), .pv (.lit (.int .i64 0))])] }) rfl rfl rfl rfl trivial rfl ?_)
 refine rvc_un (rexec_prim C (δ := { v := .undef, wr := [(1, some (.cells [.pv (.lit (.int .i64 0)), .pv (.lit (.int .i64 5)), .pv (.lit (.int .i64 9)), .pv (.lit (.int .i64 5)), .pv (.lit (.int .i64 0)), .pv (.lit (.int .i64 9)), .pv (.lit (.int .i64 9)), .pv (.lit (.int .i64 9)), .pv (.lit (.int .i64 0))]))] }) rfl rfl rfl rfl trivial rfl ?_)
 refine rvc_nil ?_
 refine Awp.consP C ?_
 refine rvP C (.agg [.pv (.lit (.int .i64 0)), .pv (.lit (.int .i64 0)), .pv (.lit (.bool false))]) ?_
 refine rvP C (.agg [.pv (.lit (.int .i64 1)), .pv (.lit (.int .i64 1)), .pv (.lit (.bool false))]) ?_
 refine rvc_un (rexec_buildSliceF C eMember [(Member.mk 0 0 false), (Member.mk 1 1 false)] rfl rfl rfl rfl rfl rfl rfl (by decide) rfl ?_)
 refine rvP C (.agg [.pv (.lit (.int .i64 1)), sS (some false) eMember [(Member.mk 0 0 false), (Member.mk 1 1 false)]]) ?_
 refine rvc_un (rexec_prim C (δ := { v := .ptr 2 0, new := [(2, .cells [.pv (.lit (.int .i64 0)), sS (some true) eMember []])] }) rfl rfl rfl rfl trivial rfl ?_)
 refine rvc_un (rexec_prim C (δ := { v := .undef, wr := [(2, some (.cells [.pv (.lit (.int .i64 1)), sS (some false) eMember [(Member.mk 0 0 false), (Member.mk 1 1 false)]]))] }) rfl rfl rfl rfl trivial rfl ?_)
 refine rvc_nil ?_
 refine Awp.consP C ?_
 refine rvP C (.agg [.pv (.lit (.int .i64 1)), sS (some false) eMember [(Member.mk 0 0 false), (Member.mk 1 1 false)]]) ?_
 refine rvP C (.agg [.pv (.lit (.int .i64 0)), .pv (.lit (.int .i64 5)), .pv (.lit (.int .i64 9)), .pv (.lit (.int .i64 5)), .pv (.lit (.int .i64 0)), .pv (.lit (.int .i64 9)), .pv (.lit (.int .i64 9)), .pv (.lit (.int .i64 9)), .pv (.lit (.int .i64 0))]) ?_
 obtain ⟨wr, hq_wr⟩ : ∃ q_, q_ = (writeW (Chain.mk 1 (Sl.mk false [(Member.mk 0 0 false), (Member.mk 1 1 false)])) (ofL [(ofL [(0 : Int), 5, 9]), (ofL [(5 : Int), 0, 9]), (ofL [(9 : Int), 9, 0])]) 0) := ⟨_, rfl⟩
 have hc_wr := (writeW_calls (Chain.mk 1 (Sl.mk false [(Member.mk 0 0 false), (Member.mk 1 1 false)])) (ofL [(ofL [(0 : Int), 5, 9]), (ofL [(5 : Int), 0, 9]), (ofL [(9 : Int), 9, 0])]) 0 (of_decide_eq_true (by kernel_rfl)))
 first | rw [← hq_wr] at hR hc_wr | (unfold awake at hR; rw [← hq_wr] at hR hc_wr)
 refine rvc_un (rexec_call hP C rfl rfl rfl hc_wr ?_)
 refine rvP C (.tup [.pv (.lit (.int .i64 wr.1)), .pv (.lit (.int .i64 wr.2))]) ?_
 refine rvP C (.pv (.lit (.int .i64 wr.1))) ?_
 refine rvP C (.pv (.lit (.int .i64 wr.2))) ?_
 refine rvP C (.pv (.lit (.int .i64 wr.1))) ?_
 refine rvP C (.pv (.lit (.int .i64 wr.2))) ?_
 refine rvc_nil ?_
 refine Awp.consP C ?_
 refine rvP C (.agg [.pv (.lit (.int .i64 1)), sS (some false) eMember [(Member.mk 0 0 false), (Member.mk 1 1 false)]]) ?_
 refine rvP C (.agg [.pv (.lit (.int .i64 0)), .pv (.lit (.int .i64 5)), .pv (.lit (.int .i64 9)), .pv (.lit (.int .i64 5)), .pv (.lit (.int .i64 0)), .pv (.lit (.int .i64 9)), .pv (.lit (.int .i64 9)), .pv (.lit (.int .i64 9)), .pv (.lit (.int .i64 0))]) ?_
 obtain ⟨rd, hq_rd⟩ : ∃ q_, q_ = (readW (Chain.mk 1 (Sl.mk false [(Member.mk 0 0 false), (Member.mk 1 1 false)])) (ofL [(ofL [(0 : Int), 5, 9]), (ofL [(5 : Int), 0, 9]), (ofL [(9 : Int), 9, 0])]) 1 1 false 0) := ⟨_, rfl⟩
 have hc_rd := (readW_calls (Chain.mk 1 (Sl.mk false [(Member.mk 0 0 false), (Member.mk 1 1 false)])) (ofL [(ofL [(0 : Int), 5, 9]), (ofL [(5 : Int), 0, 9]), (ofL [(9 : Int), 9, 0])]) 1 1 false 0 (of_decide_eq_true (by kernel_rfl)))
 first | rw [← hq_rd] at hR hc_rd | (unfold awake at hR; rw [← hq_rd] at hR hc_rd)
 refine rvc_un (rexec_call hP C rfl rfl rfl hc_rd ?_)
 refine rvP C (.tup [.pv (.lit (.int .i64 rd.1)), .pv (.lit (.int .i64 rd.2))]) ?_
 refine rvP C (.pv (.lit (.int .i64 rd.1))) ?_
 refine rvP C (.pv (.lit (.int .i64 rd.2))) ?_
 refine rvP C (.pv (.lit (.int .i64 rd.1))) ?_
 refine rvP C (.pv (.lit (.int .i64 rd.2))) ?_
 refine rvc_nil ?_
 refine Awp.consP C ?_
 refine rvP C (.agg [.pv (.lit (.int .i64 1)), sS (some false) eMember [(Member.mk 0 0 false), (Member.mk 1 1 false)]]) ?_
 refine rvP C (.agg [.pv (.lit (.int .i64 0)), .pv (.lit (.int .i64 5)), .pv (.lit (.int .i64 9)), .pv (.lit (.int .i64 5)), .pv (.lit (.int .i64 0)), .pv (.lit (.int .i64 9)), .pv (.lit (.int .i64 9)), .pv (.lit (.int .i64 9)), .pv (.lit (.int .i64 0))]) ?_
 obtain ⟨nr, hq_nr⟩ : ∃ q_, q_ = (near (Chain.mk 1 (Sl.mk false [(Member.mk 0 0 false), (Member.mk 1 1 false)])) (ofL [(ofL [(0 : Int), 5, 9]), (ofL [(5 : Int), 0, 9]), (ofL [(9 : Int), 9, 0])]) 1) := ⟨_, rfl⟩
 have hc_nr := (near_calls (Chain.mk 1 (Sl.mk false [(Member.mk 0 0 false), (Member.mk 1 1 false)])) (ofL [(ofL [(0 : Int), 5, 9]), (ofL [(5 : Int), 0, 9]), (ofL [(9 : Int), 9, 0])]) 1 (fun h => absurd (h.symm.trans (by kernel_rfl : _ = false)) Bool.noConfusion) (of_decide_eq_true (by kernel_rfl)))
 first | rw [← hq_nr] at hR hc_nr | (unfold awake at hR; rw [← hq_nr] at hR hc_nr)
 have hf0_nr := near_len (Chain.mk 1 (Sl.mk false [(Member.mk 0 0 false), (Member.mk 1 1 false)])) (ofL [(ofL [(0 : Int), 5, 9]), (ofL [(5 : Int), 0, 9]), (ofL [(9 : Int), 9, 0])]) 1
 rw [← hq_nr] at hf0_nr
 refine rvc_un (rexec_call hP C rfl rfl rfl hc_nr ?_)
 refine rvP C (.tup [sS (some nr.1.nil) (eI .i64) nr.1.D, .pv (.lit (.int .i64 nr.2))]) ?_
 refine rvP C (sS (some nr.1.nil) (eI .i64) nr.1.D) ?_
 refine rvP C (.pv (.lit (.int .i64 nr.2))) ?_
 refine rvP C (sS (some nr.1.nil) (eI .i64) nr.1.D) ?_
 refine rvP C (.pv (.lit (.int .i64 nr.2))) ?_
 refine rvc_nil ?_
 refine Awp.consP C ?_
 refine rvc_un (rexec_prim C (δ := { v := .ptr 1 0 }) rfl rfl rfl rfl (by decide) rfl ?_)
 refine rvc_un (rexec_prim C (δ := { v := .ptr 1 1 }) rfl rfl rfl rfl (by decide) rfl ?_)
 refine rvc_un (rexec_prim C (δ := { v := .undef, wr := [(1, some (.cells [.pv (.lit (.int .i64 0)), .pv (.lit (.int .i64 4)), .pv (.lit (.int .i64 9)), .pv (.lit (.int .i64 5)), .pv (.lit (.int .i64 0)), .pv (.lit (.int .i64 9)), .pv (.lit (.int .i64 9)), .pv (.lit (.int .i64 9)), .pv (.lit (.int .i64 0))]))] }) rfl rfl rfl rfl trivial rfl ?_)
 refine rvc_nil ?_
 refine Awp.consP C ?_
 refine rvP C (.pv (.lit (.int .i64 wr.1))) ?_
 refine rvP C (.pv (.lit (.bool (wr.1 == 10)))) ?_
 refine rvP C (.pv (.lit (.bool (wr.1 == 10)))) ?_
 refine rvc_case 39 (wr.1 == 10) rfl (fun h1 => ?_) (fun h1 => ?_)
 ·
  replace hR := of_true h1 hR
  refine rvO C (.pv (.lit (.int .i64 wr.2))) ?_
  refine rvO C (.pv (.lit (.bool (wr.2 == 0)))) ?_
  refine rvP C (.pv (.lit (.bool (wr.2 == 0)))) ?_
  refine rvP C (.pv (.lit (.bool (wr.2 == 0)))) ?_
  refine rvc_case 43 (wr.2 == 0) rfl (fun h2 => ?_) (fun h2 => ?_)
  ·
   replace hR := of_true h2 hR
   refine rvO C (.pv (.lit (.int .i64 rd.1))) ?_
   refine rvO C (.pv (.lit (.bool (rd.1 == 10)))) ?_
   refine rvP C (.pv (.lit (.bool (rd.1 == 10)))) ?_
   refine rvP C (.pv (.lit (.bool (rd.1 == 10)))) ?_
   refine rvc_case 47 (rd.1 == 10) rfl (fun h3 => ?_) (fun h3 => ?_)
   ·
    replace hR := of_true h3 hR
    refine rvO C (.pv (.lit (.int .i64 rd.2))) ?_
    refine rvO C (.pv (.lit (.bool (rd.2 == 0)))) ?_
    refine rvP C (.pv (.lit (.bool (rd.2 == 0)))) ?_
    refine rvP C (.pv (.lit (.bool (rd.2 == 0)))) ?_
    refine rvc_case 51 (rd.2 == 0) rfl (fun h4 => ?_) (fun h4 => ?_)
    ·
     replace hR := of_true h4 hR
     refine rvO C (sS (some nr.1.nil) (eI .i64) nr.1.D) ?_
     refine rvc_open rfl rfl rfl (rexec_buildSliceF C (eI .i64) [1, 0] rfl rfl rfl rfl rfl rfl rfl (by decide) rfl ?_)
     obtain ⟨ec, hq_ec⟩ : ∃ q_, q_ = (eqInts nr.1 (Sl.mk false [1, 0])) := ⟨_, rfl⟩
     have hc_ec := (eqInts_calls nr.1 (Sl.mk false [1, 0]) (by first | omega | decide))
     first | rw [← hq_ec] at hR hc_ec | (unfold awake at hR; rw [← hq_ec] at hR hc_ec)
     refine rvc_open rfl rfl rfl (rexec_call hP C rfl rfl rfl hc_ec ?_)
     refine rvP C (.pv (.lit (.bool ec))) ?_
     refine rvP C (.pv (.lit (.bool ec))) ?_
     refine rvc_case 56 ec rfl (fun h5 => ?_) (fun h5 => ?_)
     ·
      replace hR := of_true h5 hR
      refine rvO C (.pv (.lit (.int .i64 nr.2))) ?_
      refine rvO C (.pv (.lit (.bool (nr.2 == 0)))) ?_
      refine rvP C (.pv (.lit (.bool (nr.2 == 0)))) ?_
      refine rvP C (.pv (.lit (.bool (nr.2 == 0)))) ?_
      refine rvc_case 60 (nr.2 == 0) rfl (fun h6 => ?_) (fun h6 => ?_)
      ·
       replace hR := of_true h6 hR
       refine rvO C (.agg [.pv (.lit (.int .i64 0)), .pv (.lit (.int .i64 4)), .pv (.lit (.int .i64 9)), .pv (.lit (.int .i64 5)), .pv (.lit (.int .i64 0)), .pv (.lit (.int .i64 9)), .pv (.lit (.int .i64 9)), .pv (.lit (.int .i64 9)), .pv (.lit (.int .i64 0))]) ?_
       obtain ⟨ck, hq_ck⟩ : ∃ q_, q_ = (wayCheck (ofL [(ofL [(0 : Int), 4, 9]), (ofL [(5 : Int), 0, 9]), (ofL [(9 : Int), 9, 0])])) := ⟨_, rfl⟩
       have hc_ck := (wayCheck_calls (ofL [(ofL [(0 : Int), 4, 9]), (ofL [(5 : Int), 0, 9]), (ofL [(9 : Int), 9, 0])]))
       first | rw [← hq_ck] at hR hc_ck | (unfold awake at hR; rw [← hq_ck] at hR hc_ck)
       refine rvc_open rfl rfl rfl (rexec_call hP C rfl rfl rfl hc_ck ?_)
       refine rvO C (.pv (.lit (.bool (ck == 1)))) ?_
       refine rvP C (.pv (.lit (.bool (ck == 1)))) ?_
       refine rvP C (.pv (.lit (.bool (ck == 1)))) ?_
       refine rvc_nil ?_
       refine Awp.ret ?_
       subst hR
       exact ⟨.inl rfl, rfl⟩
      ·
       replace hR := of_false h6 hR
       refine rvS ?_
       refine rvS ?_
       refine rvS ?_
       refine rvP C (.pv (.lit (.bool false))) ?_
       refine rvP C (.pv (.lit (.bool false))) ?_
       refine rvc_nil ?_
       refine Awp.ret ?_
       subst hR
       exact ⟨.inl rfl, rfl⟩
     ·
      replace hR := of_false h5 hR
      refine rvS ?_
      refine rvS ?_
      refine rvP C (.pv (.lit (.bool false))) ?_
      refine rvP C (.pv (.lit (.bool false))) ?_
      refine rvS ?_
      refine rvS ?_
      refine rvS ?_
      refine rvP C (.pv (.lit (.bool false))) ?_
      refine rvP C (.pv (.lit (.bool false))) ?_
      refine rvc_nil ?_
      refine Awp.ret ?_
      subst hR
      exact ⟨.inl rfl, rfl⟩
    ·
     replace hR := of_false h4 hR
     refine rvS ?_
     refine rvS ?_
     refine rvS ?_
     refine rvP C (.pv (.lit (.bool false))) ?_
     refine rvP C (.pv (.lit (.bool false))) ?_
     refine rvS ?_
     refine rvS ?_
     refine rvP C (.pv (.lit (.bool false))) ?_
     refine rvP C (.pv (.lit (.bool false))) ?_
     refine rvS ?_
     refine rvS ?_
     refine rvS ?_
     refine rvP C (.pv (.lit (.bool false))) ?_
     refine rvP C (.pv (.lit (.bool false))) ?_
     refine rvc_nil ?_
     refine Awp.ret ?_
     subst hR
     exact ⟨.inl rfl, rfl⟩
   ·
    replace hR := of_false h3 hR
    refine rvS ?_
    refine rvS ?_
    refine rvP C (.pv (.lit (.bool false))) ?_
    refine rvP C (.pv (.lit (.bool false))) ?_
    refine rvS ?_
    refine rvS ?_
    refine rvS ?_
    refine rvP C (.pv (.lit (.bool false))) ?_
    refine rvP C (.pv (.lit (.bool false))) ?_
    refine rvS ?_
    refine rvS ?_
    refine rvP C (.pv (.lit (.bool false))) ?_
    refine rvP C (.pv (.lit (.bool false))) ?_
    refine rvS ?_
    refine rvS ?_
    refine rvS ?_
    refine rvP C (.pv (.lit (.bool false))) ?_
    refine rvP C (.pv (.lit (.bool false))) ?_
    refine rvc_nil ?_
    refine Awp.ret ?_
    subst hR
    exact ⟨.inl rfl, rfl⟩
  ·
   replace hR := of_false h2 hR
   refine rvS ?_
   refine rvS ?_
   refine rvP C (.pv (.lit (.bool false))) ?_
   refine rvP C (.pv (.lit (.bool false))) ?_
   refine rvS ?_
   refine rvS ?_
   refine rvP C (.pv (.lit (.bool false))) ?_
   refine rvP C (.pv (.lit (.bool false))) ?_
   refine rvS ?_
   refine rvS ?_
   refine rvS ?_
   refine rvP C (.pv (.lit (.bool false))) ?_
   refine rvP C (.pv (.lit (.bool false))) ?_
   refine rvS ?_
   refine rvS ?_
   refine rvP C (.pv (.lit (.bool false))) ?_
   refine rvP C (.pv (.lit (.bool false))) ?_
   refine rvS ?_
   refine rvS ?_
   refine rvS ?_
   refine rvP C (.pv (.lit (.bool false))) ?_
   refine rvP C (.pv (.lit (.bool false))) ?_
   refine rvc_nil ?_
   refine Awp.ret ?_
   subst hR
   exact ⟨.inl rfl, rfl⟩
 ·
  replace hR := of_false h1 hR
  refine rvS ?_
  refine rvS ?_
  refine rvP C (.pv (.lit (.bool false))) ?_
  refine rvP C (.pv (.lit (.bool false))) ?_
  refine rvS ?_
  refine rvS ?_
  refine rvP C (.pv (.lit (.bool false))) ?_
  refine rvP C (.pv (.lit (.bool false))) ?_
  refine rvS ?_
  refine rvS ?_
  refine rvP C (.pv (.lit (.bool false))) ?_
  refine rvP C (.pv (.lit (.bool false))) ?_
  refine rvS ?_
  refine rvS ?_
  refine rvS ?_
  refine rvP C (.pv (.lit (.bool false))) ?_
  refine rvP C (.pv (.lit (.bool false))) ?_
  refine rvS ?_
  refine rvS ?_
  refine rvP C (.pv (.lit (.bool false))) ?_
  refine rvP C (.pv (.lit (.bool false))) ?_
  refine rvS ?_
  refine rvS ?_
  refine rvS ?_
  refine rvP C (.pv (.lit (.bool false))) ?_
  refine rvP C (.pv (.lit (.bool false))) ?_
  refine rvc_nil ?_
  refine Awp.ret ?_
  subst hR
  exact ⟨.inl rfl, rfl⟩
end Go.Proofs.Ytihccnkegkkikaa
/- Laws. No conditions. -/
namespace Go.Proofs.Ytihccnkegkkikaa
open Go.Am
end Go.Proofs.Ytihccnkegkkikaa
/- Direct ways in plain Lean. No conditions. -/
namespace Go.Proofs.Ytihccnkegkkikaa
open Go.Am
def putC (m : Nat → Nat → Int) (i j : Nat) (x : Int) : Nat → Nat → Int := fun p q => if p = i ∧ q = j then x else m p q
/-- Three sites' ways. -/
structure Three (m : Nat → Nat → Int) (a b c : Int) : Prop where
  h00 : m 0 0 = 0
  h11 : m 1 1 = 0
  h22 : m 2 2 = 0
  h01 : m 0 1 = a
  h10 : m 1 0 = a
  h02 : m 0 2 = b
  h20 : m 2 0 = b
  h12 : m 1 2 = c
  h21 : m 2 1 = c
def rf (w : Nat → Nat → Int) (i j k : Nat) (m : Nat → Nat → Int) : Nat → Nat → Int := putC m i j (min (w i k + w k j) (m i j))
end Go.Proofs.Ytihccnkegkkikaa
/- Laws of chapter 13 in plain Lean: their models answer true. No conditions. -/
namespace Go.Proofs.Ytihccnkegkkikaa
open Go.Am
theorem awake_true : awake = true := by kernel_rfl
theorem eqInts_self (s : Sl Int) : eqInts s s = true := by
  have key : ∀ (l : List Int) (i : Nat), l = s.D.drop i → eqInts_l0 s l i = true := by
    intro l
    induction l with
    | nil => intro i _; rfl
    | cons x l ih =>
      intro i hl
      have hi : i < s.D.length := by
        apply Classical.byContradiction
        intro h
        rw [List.drop_of_length_le (by omega)] at hl; cases hl
      have hx : s.D[(i : Int).toNat]! = x := by
        rw [Int.toNat_natCast, getElem!_pos s.D i hi]
        rw [List.drop_eq_getElem_cons hi] at hl
        exact (List.cons.inj hl).1.symm
      have hl' : l = s.D.drop (i + 1) := by
        rw [List.drop_eq_getElem_cons hi] at hl
        exact (List.cons.inj hl).2
      unfold eqInts_l0
      rw [hx, ih (i + 1) hl']
      simp
  unfold eqInts
  rw [key s.D 0 rfl]
  simp
end Go.Proofs.Ytihccnkegkkikaa
/- A place that is cut to a chain's places; near ones that are told. No conditions. -/
namespace Go.Proofs.Ytihccnkegkkikaa
open Go.Am
theorem near_ok {c : Chain} {w : Nat → Nat → Int} {f : Int} (h : (near c w f).2 = 0) : able c w f = 0 := by
  unfold near at h
  cases ha : able c w f != 0
  · exact eq_of_bne_false ha
  · rw [ha, cond_true] at h; exact h
end Go.Proofs.Ytihccnkegkkikaa
/- Law: each node once. No conditions. -/
namespace Go.Proofs.Ytihccnkegkkikaa
open Go.Am
end Go.Proofs.Ytihccnkegkkikaa
/- The law RouteEach in plain Lean: its model answers true. No conditions. -/
namespace Go.Proofs.Ytihccnkegkkikaa
open Go.Am
end Go.Proofs.Ytihccnkegkkikaa
/- Sorting numbers by insertion, in place. No conditions. -/
namespace Go.Proofs.Ytihccnkegkkikaa
open Go.Am
end Go.Proofs.Ytihccnkegkkikaa
/- math/bits.Len: its contract off the shelf of Go's library. No conditions. -/
namespace Go.Proofs.Ytihccnkegkkikaa
open Go.Am
open Go.Shelf (Ren)
end Go.Proofs.Ytihccnkegkkikaa
/- An abstract machine over the kit's calls, part 35: pointers held against nil; slices cut with their capacity; append to such ones. No conditions. -/
namespace Go.Am
section ops
variable {E : Env} {T : Tab}
end ops
section steps
variable {E : Env} {T : Tab} {cq : Oper → Cls} {n : Nat} {ops : Array Oper}
/-- A loop whose first round begins otherwise than the others. -/
theorem Awp.peelM {c : Code} {st : St} {Q : Exit → St → Prop} {σ : Type} (S : σ → List (Nat × AV)) (H : σ → List (Nat × Blk)) (U : List Nat) (J : Nat → σ → Prop) (N : Nat)
    (first : Awp E c st fun e st' => match e with | .normal => ∃ m' y, m' < N ∧ J m' y ∧ ∃ τ, WeakerR st' τ (S y) (H y) U E.I | e => Q e st')
    (round : ∀ m x, J m x → Awp E c (mkSt (S x) (H x) U) fun e st' => match e with | .normal => ∃ m' y, m' < m ∧ J m' y ∧ ∃ τ, WeakerR st' τ (S y) (H y) U E.I | e => Q e st') : Awp E (.loop c) st Q := by
  intro a w hat
  refine wp_loop_ghost (fun m a w => (m = N ∧ At E st a w) ∨ ∃ x, J m x ∧ At E (mkSt (S x) (H x) U) a w) N (.inl ⟨rfl, hat⟩) fun m a w hI => ?_
  rcases hI with ⟨rfl, hat⟩ | ⟨x, hJ, hat⟩
  · refine wp_mono (first a w hat) ?_
    rintro e a' w' ⟨st', h1, h2⟩
    cases e <;> simp only [Exit.then]
    case normal =>
      obtain ⟨m', y, h3, h4, τ, h5⟩ := h1
      exact ⟨m', h3, .inr ⟨y, h4, h2.weakenR h5⟩⟩
    all_goals exact ⟨st', h1, h2⟩
  · refine wp_mono (round m x hJ a w hat) ?_
    rintro e a' w' ⟨st', h1, h2⟩
    cases e <;> simp only [Exit.then]
    case normal =>
      obtain ⟨m', y, h3, h4, τ, h5⟩ := h1
      exact ⟨m', h3, .inr ⟨y, h4, h2.weakenR h5⟩⟩
    all_goals exact ⟨st', h1, h2⟩
end steps
end Go.Am
/- An abstract machine over the kit's calls, part 36: calls that are handed a block and make one; append of nothing to nil. No conditions. -/
namespace Go.Am
section steps
variable {E : Env} {T : Tab} {cq : Oper → Cls} {n : Nat} {ops : Array Oper}
/-- A call that is handed a block (0), and makes one (1). -/
structure NCalls (P : Program) (f : FuncId) (avs : List AV) (k : Blk) (av : AV) (k1 k' : Blk) : Prop where
  fn : ∃ fn, P.funcs[f]? = some fn ∧ (fn.name == "runtime.NumGoroutine") = false ∧ fn.body.isNone = false
  args : AV.withinL (fun b => b == 0) avs = true
  res : av.within (fun b => b == 1) = true
  blk : k.within (fun _ => false) = true
  blk1 : k1.within (fun _ => false) = true
  blk' : k'.within (fun _ => false) = true
  calls : ACalls P f [0] avs [(0, k)] av [(0, k1), (1, k')]
end steps
end Go.Am
/- An abstract machine over the kit's calls, part 37: a call that is handed a row which nobody changes any more. No conditions. -/
namespace Go.Am
theorem VHs.split {ι : Nat → Option (Nat × Nat)} {imm : Nat → Prop} {w : World} : ∀ {xs ys : List AV} {vs : List Value}, VHs ι imm w (xs ++ ys) vs → ∃ us ws, vs = us ++ ws ∧ VHs ι imm w xs us ∧ VHs ι imm w ys ws
  | [], ys, vs, h => ⟨[], vs, rfl, rfl, h⟩
  | x :: xs, ys, vs, h => by
    simp only [List.cons_append, VHs] at h
    obtain ⟨v, us, rfl, h1, h2⟩ := h
    obtain ⟨us', ws, rfl, h3, h4⟩ := VHs.split h2
    exact ⟨v :: us', ws, rfl, ⟨v, us', rfl, h1, h3⟩, h4⟩
theorem VHs.lone {ι κ : Nat → Option (Nat × Nat)} {imm : Nat → Prop} {w : World} : ∀ {xs : List AV} {vs : List Value}, AV.withinL (fun _ => false) xs = true → VHs ι imm w xs vs → VHs κ imm w xs vs
  | [], _, _, h => h
  | x :: xs, vs, hu, h => by
    simp only [AV.withinL, Bool.and_eq_true] at hu
    simp only [VHs] at h ⊢
    obtain ⟨v, us, rfl, h1, h2⟩ := h
    refine ⟨v, us, rfl, ?_, VHs.lone hu.2 h2⟩
    have := (VH.ren (ι := ι) (κ := κ) (σ := fun b => b) (U := fun _ => false) (fun b hb => by cases hb) x v hu.1).2 h1
    rwa [AV.ren_id] at this
end Go.Am
/- An abstract machine over the kit's calls, part 46: the worlds that a sort of Go's library passes through. No conditions. -/
namespace Go.Am
open Go.Sort
/-- A world in which a row holds other values, later, with more behind all. -/
def sw {α : Type} [Inhabited α] (enc : α → Value) (w : World) (blk off m : Nat) (d : Array α) (os : Array Obj) : World := Go.Sort.grow (putRow enc (Go.Sort.ahead w m) blk off d) os
section
variable {α : Type} [Inhabited α] {enc : α → Value} {w : World} {blk off m : Nat} {d : Array α} {os : Array Obj}
theorem sw_other {k : Nat} (hk : k < w.heap.size) (hne : k ≠ blk) : (sw enc w blk off m d os).heap[k]? = w.heap[k]? := by
  show ((w.heap.modify blk _) ++ os)[k]? = _
  rw [Array.getElem?_append_left (by simpa using hk), Array.getElem?_modify, if_neg (Ne.symm hne)]
theorem sw_row {c : Array Value} {e : TypeId} {f : Nat × Nat} (hb : w.heap[blk]? = some (.cells c e f)) : (sw enc w blk off m d os).heap[blk]? = some (.cells (Go.Sort.putCells enc off d c) e f) := by
  have hk : blk < w.heap.size := by
    rcases Nat.lt_or_ge blk w.heap.size with h | h
    · exact h
    · rw [Array.getElem?_eq_none h] at hb; cases hb
  show ((w.heap.modify blk _) ++ os)[blk]? = _
  rw [Array.getElem?_append_left (by simpa using hk), Array.getElem?_modify, if_pos rfl, hb]
  rfl
theorem putCells_size' (c : Array Value) : (Go.Sort.putCells enc off d c).size = c.size := by simp [Go.Sort.putCells]
theorem putCells_get {c : Array Value} {j : Nat} (hj : j < d.size) (hc : off + j < c.size) : (Go.Sort.putCells enc off d c)[off + j]? = some (enc d[j]!) := by
  unfold Go.Sort.putCells
  rw [Array.getElem?_mapIdx, Array.getElem?_eq_getElem hc, Option.map_some, if_pos ⟨by omega, by omega⟩, show off + j - off = j by omega]
theorem sw_size : w.heap.size ≤ (sw enc w blk off m d os).heap.size := by
  show _ ≤ ((w.heap.modify blk _) ++ os).size
  simp
theorem sw_grows {ι : Nat → Option (Nat × Nat)} {imm : Nat → Prop} (hi : ∀ k, imm k → k < w.heap.size) (hb : ¬ imm blk) : Grows ι ι imm imm w (sw enc w blk off m d os) := by
  refine ⟨fun _ _ h => h, ⟨fun _ h => h, fun k hk => sw_other (hi k hk) (fun e => hb (e ▸ hk))⟩, fun r c e f hr => ?_⟩
  by_cases h : r = blk
  · subst h
    exact ⟨_, f, sw_row hr, putCells_size' c⟩
  · have hlt : r < w.heap.size := by
      rcases Nat.lt_or_ge r w.heap.size with h | h
      · exact h
      · rw [Array.getElem?_eq_none h] at hr; cases hr
    exact ⟨c, f, by rw [sw_other hlt h]; exact hr, rfl⟩
end
/-- A world in which nothing has changed but draws, and what lies behind all. -/
theorem ext_grow {w w' : World} (h : Ext (fun _ => False) w w') : ∃ q os, w' = Go.Sort.grow (w.drewN q) os := by
  refine ⟨w'.drawn - w.drawn, w'.heap.extract w.heap.size w'.heap.size, ?_⟩
  have hh : w'.heap = w.heap ++ w'.heap.extract w.heap.size w'.heap.size := by
    apply Array.ext_getElem?
    intro k
    rcases Nat.lt_or_ge k w.heap.size with hk | hk
    · rw [Array.getElem?_append_left hk, h.block k hk (fun h => h)]
    · rw [Array.getElem?_append_right hk, Array.getElem?_extract]
      split
      · congr 1; omega
      · rename_i hlt
        rw [Array.getElem?_eq_none (by omega)]
  have hd : w'.drawn = w.drawn + (w'.drawn - w.drawn) := by have := h.drawn; omega
  have h1 := h.os
  have h2 := h.tape
  have h3 := h.output
  cases w'
  cases w
  simp only [Go.Sort.grow, World.drewN] at *
  subst h1 h2 h3
  simp only [World.mk.injEq, true_and, and_true]
  exact ⟨hh, hd⟩
end Go.Am
/- An abstract machine over the kit's calls, part 47: a row of one's own is sorted by Go's library: elements of one cell. No conditions. -/
namespace Go.Am
/-- What Go's library's sort of elements of one cell does, in a program P, as function f: the kit's own words. -/
def Sorts1 (P : Program) (f : FuncId) {α : Type} [Inhabited α] (enc : α → Value) (cf : α → α → Int) (srt : Array α → Array α) : Prop :=
  ∀ (g : Nat) (cb : Array Value) (blk off cap : Nat) (d : Array α) (w : World), (∀ args w, (callFunc g args).run P w = .ok (.enter g args) w) →
    (∀ (m : Nat) (os : Array Obj) (dk : Array α), dk.size = d.size → ∀ x y : α, Calls P g (#[enc x, enc y] ++ cb) (sw enc w blk off m dk os) fun e w' => e = .returned (.int .i64 (cf x y)) ∧ ∃ q os', w' = Go.Sort.grow ((sw enc w blk off m dk os).drewN q) os') →
    Go.Sort.Holds enc w blk off d → blk < w.heap.size → d.size < 4611686018427387904 →
    Calls P f #[.slice (some ⟨blk, off, none⟩) d.size cap, .func (.func g) #[] cb] w fun e w' => e = .returned (.tuple #[]) ∧ ∃ n os, w' = sw enc w blk off n (srt d) os
theorem cells_lits {α : Type} [Inhabited α] {e : Enc α} {lv : α → Value} (hlv : ∀ x, e.enc x = [.lit (lv x)]) (hfl : ∀ x, flatB (lv x) = true) {ι : Nat → Option (Nat × Nat)} {imm : Nat → Prop} {w : World} {c : Array Value} : ∀ (D : List α) (z : Nat), (∀ j, j < D.length → c[z + j]? = some (lv D[j]!)) → CellsH ι imm w c (encC e D) z
  | [], _, _ => trivial
  | x :: xs, z, h => by
    have e1 : encC e (x :: xs) = .pv (.lit (lv x)) :: encC e xs := by simp [encC, encL, hlv]
    rw [e1]
    refine ⟨⟨lv x, by simpa using h 0 (by simp), rfl, hfl x⟩, cells_lits hlv hfl xs (z + 1) fun j hj => ?_⟩
    have := h (j + 1) (by simpa using hj)
    rw [show z + 1 + j = z + (j + 1) by omega, this]
    simp
theorem lits_cells {α : Type} [Inhabited α] {e : Enc α} {lv : α → Value} (hlv : ∀ x, e.enc x = [.lit (lv x)]) {ι : Nat → Option (Nat × Nat)} {imm : Nat → Prop} {w : World} {c : Array Value} : ∀ (D : List α) (z : Nat), CellsH ι imm w c (encC e D) z → ∀ j, j < D.length → c[z + j]? = some (lv D[j]!)
  | [], _, _, j, hj => by simp at hj
  | x :: xs, z, h, j, hj => by
    have e1 : encC e (x :: xs) = .pv (.lit (lv x)) :: encC e xs := by simp [encC, encL, hlv]
    rw [e1] at h
    obtain ⟨⟨v, h1, h2⟩, h3⟩ := h
    cases j with
    | zero =>
      simp only [VH, PH] at h2
      rw [Nat.add_zero, h1, h2.1]; simp
    | succ j =>
      rw [show z + (j + 1) = z + 1 + j by omega, lits_cells hlv xs (z + 1) h3 j (by simpa using hj)]
      simp
theorem sort1_calls {P : Program} {f : FuncId} {fn0 : Func} (hfn : P.funcs[f]? = some fn0) (hn0 : (fn0.name == "runtime.NumGoroutine") = false) (hb0 : fn0.body.isNone = false) {α : Type} [Inhabited α] {e : Enc α} {lv : α → Value} (hlv : ∀ x, e.enc x = [.lit (lv x)]) (hfl : ∀ x, flatB (lv x) = true) {cf : α → α → Int} {srt : Array α → Array α} (hs : ∀ d, (srt d).size = d.size) (S : Sorts1 P f lv cf srt)
    (D : List α) (tt : Bool) (hD : D.length < 4611686018427387904) (g : Nat) (caps : List AV) (hp : ∀ x y : α, PCalls P g ([.pv (.lit (lv x)), .pv (.lit (lv y))] ++ caps) (.pv (.lit (.int .i64 (cf x y))))) (hw : AV.withinL (fun _ => false) caps = true) (x0 : α) :
    MCalls P f [.sl 0 0 D.length 1 tt, .fn g [] caps] (.cells (encC e D)) (.tup []) (.cells (encC e (srt D.toArray).toList)) where
  fn := ⟨fn0, hfn, hn0, hb0⟩
  args := by simp [AV.withinL, AV.within, withinL0 hw]
  res := rfl
  blk := encC_within _ _
  blk' := encC_within _ _
  calls := by
    intro ι imm w M vs hH hv hi hb
    obtain ⟨v1, us1, rfl, hv1, hv⟩ := hv
    obtain ⟨v2, us2, rfl, hv2, hv⟩ := hv
    simp only [VHs] at hv
    subst hv
    simp only [VH] at hv1 hv2
    obtain ⟨r, z, cap, i0, rfl, hncap, _, _⟩ := hv1
    obtain ⟨vs0, us, rfl, h0, hcaps⟩ := hv2
    simp only [VHs] at h0
    subst h0
    obtain ⟨r', z', i0', him, hM, c, et, fr, hc, hle, hfz, hcells⟩ := hH.blk 0 (.cells (encC e D)) rfl
    rw [i0] at i0'
    injection i0' with i0'
    injection i0' with e1 e2
    subst e1 e2
    have hrlt : r < w.heap.size := by
      rcases Nat.lt_or_ge r w.heap.size with h | h
      · exact h
      · rw [Array.getElem?_eq_none h] at hc; cases hc
    have hlen : (encC e D).length = D.length := by
      rw [encC_len]
      have : e.sz = 1 := by rw [← e.len x0, hlv]; rfl
      rw [this, Nat.mul_one]
    rw [hlen] at hle
    have hholds : Go.Sort.Holds lv w r (z + 0) D.toArray := fun j hj => by
      have hj : j < D.length := by simpa using hj
      have := lits_cells hlv D z hcells j hj
      refine ⟨?_, ?_⟩
      · rw [Nat.add_zero, cell_of_heap hc, this]; simp
      · simp only [World.frozen?, hc]
        have := hfz (z + 0 + j)
        simp only [Bool.and_eq_false_iff, decide_eq_false_iff_not]
        by_cases h1 : fr.1 ≤ z + 0 + j
        · exact .inr fun h2 => this ⟨h1, h2⟩
        · exact .inl h1
    obtain ⟨gfn, g1, g2, g3⟩ := (hp x0 x0).fn
    have eg : ∀ args w, (callFunc g args).run P w = .ok (.enter g args) w := by
      intro args w
      have h1 : gfn.name ≠ "runtime.NumGoroutine" := by simpa using g2
      cases hbd : gfn.body with
      | none => rw [hbd] at g3; cases g3
      | some b => simp [callFunc, g1, h1, hbd, mark]
    have hcmp : ∀ (m : Nat) (os : Array Obj) (dk : Array α), dk.size = D.toArray.size → ∀ x y : α, Calls P g (#[lv x, lv y] ++ List.toArray us) (sw lv w r (z + 0) m dk os) fun e w' => e = .returned (.int .i64 (cf x y)) ∧ ∃ q os', w' = Go.Sort.grow ((sw lv w r (z + 0) m dk os).drewN q) os' := by
      intro m os dk _ x y
      have hgr := sw_grows (enc := lv) (off := z + 0) (m := m) (d := dk) (os := os) (ι := ι) hi him
      have hc2 : VHs (fun _ => none) imm (sw lv w r (z + 0) m dk os) caps us := VHs.lone hw (VHs.grows hgr _ _ hcaps)
      have harg : (#[lv x, lv y] ++ List.toArray us) = List.toArray (lv x :: lv y :: us) := by simp
      rw [harg]
      refine ((hp x y).calls (fun _ => none) imm (sw lv w r (z + 0) m dk os) (fun _ => False) _ ⟨fun b k h => (by cases h), fun b b' k k' r z z' h => (by cases h)⟩ ⟨lv x, _, rfl, ⟨rfl, hfl x⟩, lv y, _, rfl, ⟨rfl, hfl y⟩, hc2⟩ (fun k hk => Nat.lt_of_lt_of_le (hi k hk) sw_size) (fun b x h => by cases h)).mono ?_
      rintro e' w' ⟨v, ι', imm', rfl, hv, _, hext, _⟩
      simp only [VH, PH] at hv
      refine ⟨by rw [hv.1], ext_grow ⟨hext.os, hext.tape, hext.output, hext.size, fun k hk _ => hext.block k hk (fun hR => ?_), hext.drawn⟩⟩
      obtain ⟨b, kk, zz, h1, _⟩ := hR
      cases h1
    have hsz : D.toArray.size = D.length := by simp
    have main := S g (List.toArray us) r (z + 0) cap D.toArray w eg hcmp hholds hrlt (by rw [hsz]; exact hD)
    rw [hsz] at main
    refine main.mono ?_
    rintro e' w' ⟨rfl, n, os, rfl⟩
    have hgr := sw_grows (enc := lv) (off := z + 0) (m := n) (d := srt D.toArray) (os := os) (ι := ι) hi him
    refine ⟨_, ι, imm, rfl, ⟨[], rfl, rfl⟩, hgr, ⟨rfl, rfl, rfl, sw_size, fun k hk hR => sw_other hk fun e => hR ⟨0, _, z, rfl, e ▸ i0⟩, Nat.le_add_right _ _⟩, ⟨fun b k hk => ?_, fun b b' k k' r1 z1 z2 hk hk' _ _ => ?_⟩, fun k hk => .inl hk, fun k hk => Nat.lt_of_lt_of_le (hi k hk) sw_size⟩
    · have hb0 : b = 0 ∧ k = .cells (encC e (srt D.toArray).toList) := by
        by_cases h : b = 0
        · subst h; exact ⟨rfl, (Option.some.inj hk).symm⟩
        · have : (b == 0) = false := by simpa using h
          simp only [heapOf, List.lookup, this] at hk; cases hk
      obtain ⟨rfl, rfl⟩ := hb0
      have hl2 : (encC e (srt D.toArray).toList).length = D.length := by
        rw [encC_len]
        have : e.sz = 1 := by rw [← e.len x0, hlv]; rfl
        rw [this, Nat.mul_one, Array.length_toList, hs, hsz]
      refine ⟨r, z, i0, him, .inl ⟨0, _, z, rfl, i0⟩, Go.Sort.putCells lv (z + 0) (srt D.toArray) c, et, fr, sw_row hc, by rw [hl2, putCells_size']; exact hle, hfz, cells_lits hlv hfl _ _ fun j hj => ?_⟩
      rw [Array.length_toList, hs, hsz] at hj
      have := putCells_get (enc := lv) (off := z + 0) (d := srt D.toArray) (c := c) (j := j) (by rw [hs, hsz]; exact hj) (by omega)
      rw [show z + j = z + 0 + j by omega, this]
      have hj2 : j < (srt D.toArray).size := by rw [hs, hsz]; exact hj
      have e1 : (srt D.toArray)[j]! = (srt D.toArray).toList[j]! := by
        rw [getElem!_pos (srt D.toArray) j hj2, getElem!_pos (srt D.toArray).toList j (by simpa using hj2)]; simp
      rw [e1]
    · have h1 : ∀ b k, heapOf [(0, Blk.cells (encC e (srt D.toArray).toList))] b = some k → b = 0 := fun b k hk => by
        by_cases h : b = 0
        · exact h
        · have : (b == 0) = false := by simpa using h
          simp only [heapOf, List.lookup, this] at hk; cases hk
      rw [h1 _ _ hk, h1 _ _ hk']
end Go.Am
/- slices.SortFunc of ints: its contract off the shelf of Go's library. No conditions. -/
namespace Go.Proofs.Ytihccnkegkkikaa
open Go.Am
open Go.Shelf (Ren)
def layS_ren : Ren := ⟨fun x => match x with | 6 => 50 | 15 => 58 | 14 => 57 | 28 => 70 | 29 => 71 | 20 => 62 | 21 => 63 | 22 => 64 | 23 => 65 | 24 => 66 | 25 => 67 | 26 => 68 | 27 => 69 | 46 => 73 | 47 => 74 | 48 => 75 | 49 => 76 | 50 => 77 | 57 => 79 | n => n, fun x => match x with | 22 => 36 | 24 => 3 | 25 => 73 | 3 => 3 | 39 => 79 | 0 => 0 | 53 => 91 | 55 => 44 | 4 => 4 | 46 => 84 | 45 => 83 | 50 => 88 | 5 => 5 | 9 => 9 | 66 => 93 | 70 => 97 | 76 => 99 | 77 => 100 | n => n, fun n => n⟩
theorem layS : SlLaysF.n6 Try.prog layS_ren where
  mixed := mixed
  f6 := ⟨Try.f50.name, rfl, Try.func50⟩
  f14 := ⟨Try.f57.name, rfl, Try.func57⟩
  f15 := Try.func58
  f20 := ⟨Try.f62.name, rfl, Try.func62⟩
  f21 := ⟨Try.f63.name, rfl, Try.func63⟩
  f22 := ⟨Try.f64.name, rfl, Try.func64⟩
  f23 := ⟨Try.f65.name, rfl, Try.func65⟩
  f24 := ⟨Try.f66.name, rfl, Try.func66⟩
  f25 := ⟨Try.f67.name, rfl, Try.func67⟩
  f26 := ⟨Try.f68.name, rfl, Try.func68⟩
  f27 := ⟨Try.f69.name, rfl, Try.func69⟩
  f28 := Try.func70
  f29 := Try.func71
  f46 := ⟨Try.f73.name, rfl, Try.func73⟩
  f47 := Try.func74
  f48 := Try.func75
  f49 := ⟨Try.f76.name, rfl, Try.func76⟩
  f50 := ⟨Try.f77.name, rfl, Try.func77⟩
  f57 := ⟨Try.f79.name, rfl, Try.func79⟩
  t0 := Try.underlying0
  a0 := Try.isAgg0
  z0 := Try.sizeOf0
  v0 := Try.zeroValue0
  t3 := Try.underlying3
  a3 := Try.isAgg3
  z3 := Try.sizeOf3
  v3 := Try.zeroValue3
  t4 := Try.underlying4
  a4 := Try.isAgg4
  z4 := Try.sizeOf4
  v4 := Try.zeroValue4
  t5 := Try.underlying5
  a5 := Try.isAgg5
  z5 := Try.sizeOf5
  v5 := Try.zeroValue5
  t9 := Try.underlying9
  a9 := Try.isAgg9
  z9 := Try.sizeOf9
  v9 := Try.zeroValue9
  t22 := Try.underlying36
  a22 := Try.isAgg36
  z22 := Try.sizeOf36
  v22 := Try.zeroValue36
  a24 := Try.isAgg3
  z24 := Try.sizeOf3
  t25 := Try.underlying73
  a25 := Try.isAgg73
  z25 := Try.sizeOf73
  v25 := Try.zeroValue73
  t39 := Try.underlying79
  a39 := Try.isAgg79
  z39 := Try.sizeOf79
  v39 := Try.zeroValue79
  t45 := Try.underlying83
  a45 := Try.isAgg83
  z45 := Try.sizeOf83
  v45 := Try.zeroValue83
  t46 := Try.underlying84
  a46 := Try.isAgg84
  z46 := Try.sizeOf84
  v46 := Try.zeroValue84
  t50 := Try.underlying88
  a50 := Try.isAgg88
  z50 := Try.sizeOf88
  v50 := Try.zeroValue88
  t53 := Try.underlying91
  a53 := Try.isAgg91
  z53 := Try.sizeOf91
  v53 := Try.zeroValue91
  t55 := Try.underlying44
  a55 := Try.isAgg44
  z55 := Try.sizeOf44
  v55 := Try.zeroValue44
  t66 := Try.underlying93
  a66 := Try.isAgg93
  z66 := Try.sizeOf93
  v66 := Try.zeroValue93
  t70 := Try.underlying97
  a70 := Try.isAgg97
  z70 := Try.sizeOf97
  v70 := Try.zeroValue97
  t76 := Try.underlying99
  a76 := Try.isAgg99
  z76 := Try.sizeOf99
  v76 := Try.zeroValue99
  t77 := Try.underlying100
  a77 := Try.isAgg100
  z77 := Try.sizeOf100
  v77 := Try.zeroValue100
def sortInts (D : List Int) (cmp : Int → Int → Int) : List Int := (Go.Sort.pdq (ltOf cmp) D.toArray 0 D.length (Lib.bitLen D.length) true true).toList
theorem sortInts_calls (D : List Int) (cmp : Int → Int → Int) (g1 : Nat) (caps1 : List AV) (hp1 : ∀ (x0 : Int) (x1 : Int), PCalls Try.prog g1 ([.pv (.lit (.int .i64 x0)), .pv (.lit (.int .i64 x1))] ++ caps1) (.pv (.lit (.int .i64 (cmp x0 x1))))) (hw1 : AV.withinL (fun _ => false) caps1 = true) (hO : Go.Sort.SWO (ltOf cmp)) (hL : D.length ≤ 1000000) :
    MCalls Try.prog 50 [.sl 0 0 D.length 1 false, .fn g1 [] caps1] (.cells (encC (eI .i64) D)) (.tup []) (.cells (encC (eI .i64) (sortInts D cmp))) := by
  have S : Sorts1 Try.prog 50 (fun n : Int => Value.int .i64 n) cmp (fun d => Go.Sort.pdq (ltOf cmp) d 0 d.size (Lib.bitLen d.size) true true) := fun g cb blk off cap d w eg hcmp hH hblk hsz =>
    Any.slices_SortFunc_eq layS (fun n : Int => Value.int .i64 n) (fun _ => rfl) cmp hO g cb blk off cap d w eg hcmp hH hblk hsz
  have := sort1_calls Try.func50 rfl rfl (e := eI .i64) (lv := fun n : Int => Value.int .i64 n) (fun _ => rfl) (fun _ => rfl) (fun d => (Go.Sort.pdq_sorts (ltOf cmp) hO d 0 d.size (Lib.bitLen d.size) true true (Nat.zero_le _) (Nat.le_refl _) (Or.inl rfl)).1.1) S D false (by omega) g1 caps1 hp1 hw1 0
  simpa [sortInts] using this
end Go.Proofs.Ytihccnkegkkikaa
/- The lowest bit of a number taken away. No conditions. -/
namespace Go.Proofs.Ytihccnkegkkikaa
open Go.Am
def allInv (n : Nat) (s : Int) : Prop := ∃ S : Nat, s = (S : Int) ∧ S < 18446744073709551616 ∧ ∀ i, i < n → S.testBit i = false
theorem mod_of_bits {S n : Nat} (h : ∀ i, i < n → S.testBit i = false) : S % 2 ^ n = 0 := by
  apply Nat.eq_of_testBit_eq
  intro i
  rw [Nat.testBit_mod_two_pow, Nat.zero_testBit]
  by_cases hi : i < n
  · simp [hi, h i hi]
  · simp [hi]
theorem cut_bits {S n : Nat} (h : ∀ i, i < n → S.testBit i = false) (hS : S ≠ 0) : ∀ i, i < n + 1 → (S &&& (S - 1)).testBit i = false := by
  intro i hi
  rw [Nat.testBit_and]
  by_cases h1 : i < n
  · rw [h i h1]; rfl
  · have : i = n := by omega
    subst this
    cases hb : S.testBit i
    · rfl
    · rw [Nat.testBit_eq_decide_div_mod_eq] at hb ⊢
      have hb := of_decide_eq_true hb
      have hm := mod_of_bits h
      have hp : 0 < 2 ^ i := Nat.two_pow_pos i
      have hq : S = 2 ^ i * (S / 2 ^ i) := by have := Nat.div_add_mod S (2 ^ i); omega
      generalize S / 2 ^ i = q at hb hq
      have e : (S - 1) / 2 ^ i = q - 1 := by
        obtain ⟨q', rfl⟩ : ∃ q', q = q' + 1 := ⟨q - 1, by omega⟩
        rw [hq, Nat.mul_add, Nat.mul_one, show 2 ^ i * q' + 2 ^ i - 1 = 2 ^ i * q' + (2 ^ i - 1) by omega, Nat.mul_add_div hp, Nat.div_eq_of_lt (by omega)]
        omega
      rw [e, decide_eq_false (by omega)]; rfl
theorem and_cut {S : Nat} (h : S < 18446744073709551616) (hS : S ≠ 0) : bitI .and .u64 (S : Int) (IntKind.u64.wrap ((S : Int) - 1)) = ((S &&& (S - 1) : Nat) : Int) := by
  rw [show IntKind.u64.wrap ((S : Int) - 1) = ((S - 1 : Nat) : Int) by rw [wrap64]; omega, and64 h (by omega)]
theorem allInv_zero {s : Int} (h : 0 ≤ s ∧ s < 18446744073709551616) : allInv 0 s := ⟨s.toNat, by omega, by omega, fun i hi => by omega⟩
theorem allInv_step {n : Nat} {s : Int} (h : allInv n s) (hne : (s != 0) = true) : allInv (n + 1) (bitI .and .u64 s (IntKind.u64.wrap (s - 1))) := by
  obtain ⟨S, rfl, h1, h2⟩ := h
  have hS : S ≠ 0 := by simpa using hne
  rw [and_cut h1 hS]
  exact ⟨_, rfl, Nat.lt_of_le_of_lt Nat.and_le_left h1, cut_bits h2 hS⟩
theorem allInv_lt {n : Nat} {s : Int} (h : allInv n s) (hne : (s != 0) = true) : n < 64 := by
  obtain ⟨S, rfl, h1, h2⟩ := h
  have hS : S ≠ 0 := by simpa using hne
  rcases Nat.lt_or_ge n 64 with h3 | h3
  · exact h3
  · have := mod_of_bits (n := 64) (fun i hi => h2 i (by omega))
    rw [Nat.mod_eq_of_lt h1] at this
    exact absurd this hS
theorem allInv_fall {n : Nat} {s : Int} (h : allInv n s) (hne : (s != 0) = true) : (bitI .and .u64 s (IntKind.u64.wrap (s - 1))).toNat < s.toNat := by
  obtain ⟨S, rfl, h1, _⟩ := h
  have hS : S ≠ 0 := by simpa using hne
  rw [and_cut h1 hS]
  have := Nat.and_le_right (n := S) (m := S - 1)
  omega
end Go.Proofs.Ytihccnkegkkikaa
/- Sets of nodes; who stands ahead. No conditions. -/
namespace Go.Proofs.Ytihccnkegkkikaa
open Go.Am
def lowOf (s : Int) : Int :=
  (bif (s == 0) then (-1) else (mLen (IntKind.u64.wrap ((bitI .and .u64 s (IntKind.u64.wrap (0 - s))) - 1))))
theorem lowOf_calls (s : Int)  : PCalls Try.prog 56 [.pv (.lit (.int .u64 s))] (.pv (.lit (.int .i64 (lowOf s)))) := by
 generalize hR : lowOf s = R
 refine PCalls.of_body tabOk Try.func56 rfl rfl rfl rfl rfl mixed fun E hP C hI => ?_
 refine Awp.consP C ?_
 refine rvP C (.pv (.lit (.int .i64 0))) ?_
 refine rvc_nil ?_
 refine Awp.seq ?_
 refine Awp.consP C ?_
 refine rvP C (.pv (.lit (.int .u64 s))) ?_
 refine rvP C (.pv (.lit (.bool (s == 0)))) ?_
 refine rvc_nil ?_
 refine Awp.cond (b := (s == 0)) rfl (fun h1 => ?_) (fun h1 => ?_)
 ·
  replace hR := of_true h1 hR
  refine Awp.consP C ?_
  refine rvP C (.pv (.lit (.int .i64 (-1)))) ?_
  refine rvc_nil ?_
  refine Awp.ret ?_
  subst hR
  exact ⟨.inl rfl, rfl⟩
 ·
  replace hR := of_false h1 hR
  refine Awp.skip ?_
  refine Awp.consP C ?_
  refine rvP C (.pv (.lit (.int .u64 s))) ?_
  refine rvP C (.pv (.lit (.int .u64 s))) ?_
  refine rvP C (.pv (.lit (.int .u64 (IntKind.u64.wrap (0 - s))))) ?_
  refine rvP C (.pv (.lit (.int .u64 (bitI .and .u64 s (IntKind.u64.wrap (0 - s)))))) ?_
  refine rvP C (.pv (.lit (.int .u64 (IntKind.u64.wrap ((bitI .and .u64 s (IntKind.u64.wrap (0 - s))) - 1))))) ?_
  refine rvc_un (rexec_call hP C rfl rfl rfl (mLen_calls (IntKind.u64.wrap ((bitI .and .u64 s (IntKind.u64.wrap (0 - s))) - 1))) ?_)
  refine rvP C (.pv (.lit (.int .i64 (mLen (IntKind.u64.wrap ((bitI .and .u64 s (IntKind.u64.wrap (0 - s))) - 1)))))) ?_
  refine rvc_nil ?_
  refine Awp.ret ?_
  subst hR
  exact ⟨.inl rfl, rfl⟩
def triesF (a : Int) (b : Int) (c0 : Chain) : Int :=
  (IntKind.i64.wrap ((place0 c0 a) - (place0 c0 b)))
theorem triesF_calls (a : Int) (b : Int) (c0 : Chain) (hL0 : c0.members.D.length ≤ 1000000) : PCalls Try.prog 51 [.pv (.lit (.int .i64 a)), .pv (.lit (.int .i64 b)), .rp [.lit (.int .i64 c0.epoch), .sl (some c0.members.nil) c0.members.D.length (encL eMember c0.members.D)]] (.pv (.lit (.int .i64 (triesF a b c0)))) := by
 generalize hR : triesF a b c0 = R
 refine PCalls.of_body tabOk Try.func51 rfl rfl rfl rfl rfl mixed fun E hP C hI => ?_
 refine Awp.consP C ?_
 refine rvP C (.pv (.lit (.int .i64 0))) ?_
 refine rvc_nil ?_
 refine Awp.consP C ?_
 refine rvP C (.agg [.pv (.lit (.int .i64 c0.epoch)), sS (some c0.members.nil) eMember c0.members.D]) ?_
 refine rvP C (.pv (.lit (.int .i64 a))) ?_
 refine rvc_un (rexec_call hP C rfl rfl rfl (place0_calls c0 a (by show c0.members.D.length ≤ 9223372036854775807; omega)) ?_)
 refine rvP C (.agg [.pv (.lit (.int .i64 c0.epoch)), sS (some c0.members.nil) eMember c0.members.D]) ?_
 refine rvP C (.pv (.lit (.int .i64 b))) ?_
 refine rvc_un (rexec_call hP C rfl rfl rfl (place0_calls c0 b (by show c0.members.D.length ≤ 9223372036854775807; have := place0_lt c0 a; omega)) ?_)
 refine rvP C (.pv (.lit (.int .i64 (IntKind.i64.wrap ((place0 c0 a) - (place0 c0 b)))))) ?_
 refine rvP C (.pv (.lit (.int .i64 (IntKind.i64.wrap ((place0 c0 a) - (place0 c0 b)))))) ?_
 refine rvc_nil ?_
 refine Awp.ret ?_
 subst hR
 exact ⟨.inl rfl, rfl⟩
end Go.Proofs.Ytihccnkegkkikaa
/- All numbers of a set. No conditions. -/
namespace Go.Proofs.Ytihccnkegkkikaa
open Go.Am
def allO_l0 : Nat → Int → (List Int) → List Int
  | 0, _, _ => default
  | nn + 1, s1, l => (bif (s1 != 0) then allO_l0 nn (bitI .and .u64 s1 (IntKind.u64.wrap (s1 - 1))) (l ++ [(lowOf s1)]) else l)
def allO (s : Int) : List Int :=
  allO_l0 ((bitI .and .u64 s (IntKind.u64.wrap (s - 1))).toNat + 1) (bitI .and .u64 s (IntKind.u64.wrap (s - 1))) [(lowOf s)]
theorem allO_calls (s : Int) (hs : 0 ≤ s ∧ s < 18446744073709551616) (h0 : (s != 0) = true) : OCalls Try.prog 49 [.pv (.lit (.int .u64 s))] (.sl 0 0 (allO s).length 1 false) (.cells (encC (eI .i64) (allO s))) := by
 generalize hR : allO s = R
 refine OCalls.of_body tabOk Try.func49 rfl rfl rfl rfl rfl (encC_within _ _) mixed fun E hP C hI => ?_
 refine Awp.consP C ?_
 refine rvP C (sS (some true) (eI .i64) []) ?_
 refine rvc_nil ?_
 refine Awp.consP C ?_
 refine rvP C (sS (some true) (eI .i64) []) ?_
 refine rvc_nil ?_
 refine Awp.seq ?_
 refine Awp.block ?_
 refine Awp.peelM (σ := Int × ((List Int))) (fun v => [(0, .pv (.lit (.int .u64 v.1))), (3, .sl 900 0 v.2.length 1 false)]) (fun v => [(900, .cells (encC (eI .i64) v.2))]) [900] (fun n v => v.1.toNat ≤ n ∧ allO_l0 (n + 1) v.1 v.2 = R ∧ (allInv v.2.length v.1)) (s.toNat + 1) ?_ (fun n_ v h1 => ?_)
 ·
  refine Awp.seq ?_
  refine Awp.consP C ?_
  refine rvP C (.pv (.lit (.int .u64 s))) ?_
  refine rvP C (.pv (.lit (.bool (s != 0)))) ?_
  refine rvc_nil ?_
  refine Awp.condT (b := (s != 0)) rfl h0 ?_
  refine Awp.skip ?_
  refine Awp.seq ?_
  refine Awp.block ?_
  refine Awp.regionP C ?_
  refine rvP C (sS (some true) (eI .i64) []) ?_
  refine rvP C (.pv (.lit (.int .u64 s))) ?_
  refine rvc_un (rexec_call hP C rfl rfl rfl (lowOf_calls s) ?_)
  refine rvc_un (rexec_buildSliceF C (eI .i64) [(lowOf s)] rfl rfl rfl rfl rfl rfl rfl (by decide) rfl ?_)
  refine rvc_un (rexec_appendN C rfl rfl rfl rfl rfl rfl rfl rfl (fun _ h => by cases h) rfl (en := (eI .i64)) (D := [(lowOf s)]) rfl rfl (by simp) (by first | (have h_ := allInv_lt hV (by assumption); simp <;> omega) | (simp <;> omega)) (by decide) (nn := [(lowOf s)].length) rfl ?_)
  refine rvP C (.sl 14 0 ([(lowOf s)].length) 1 false) ?_
  refine rvc_nil ?_
  refine Awp.regionP C ?_
  refine rvP C (.pv (.lit (.int .u64 s))) ?_
  refine rvP C (.pv (.lit (.int .u64 s))) ?_
  refine rvP C (.pv (.lit (.int .u64 (IntKind.u64.wrap (s - 1))))) ?_
  refine rvP C (.pv (.lit (.int .u64 (bitI .and .u64 s (IntKind.u64.wrap (s - 1)))))) ?_
  refine rvP C (.pv (.lit (.int .u64 (bitI .and .u64 s (IntKind.u64.wrap (s - 1)))))) ?_
  refine rvc_nil ?_
  refine ⟨(bitI .and .u64 s (IntKind.u64.wrap (s - 1))).toNat, ((bitI .and .u64 s (IntKind.u64.wrap (s - 1))), [(lowOf s)]), ?_, ⟨Nat.le_refl _, hR, (allInv_step (allInv_zero hs) h0)⟩, ?_⟩
  · show (bitI .and .u64 s (IntKind.u64.wrap (s - 1))).toNat < s.toNat + 1; have := allInv_fall (allInv_zero hs) h0; omega
  · exact ⟨fun b => bif b == 900 then 14 else (fun b => b) b, WeakerR.ofL (Ks := [900]) hI ⟨⟨rfl, rfl⟩, ⟨rfl, rfl⟩, trivial⟩ (okH_list rfl rfl rfl (okH_nil)) rfl⟩
 obtain ⟨s1, l⟩ := v
 obtain ⟨hm_, hR, hV⟩ := h1
 replace hm_ : s1.toNat ≤ n_ := hm_
 replace hV : allInv l.length s1 := hV
 refine Awp.seq ?_
 refine Awp.consP C ?_
 refine rvP C (.pv (.lit (.int .u64 s1))) ?_
 refine rvP C (.pv (.lit (.bool (s1 != 0)))) ?_
 refine rvc_nil ?_
 refine Awp.cond (b := (s1 != 0)) rfl (fun h3 => ?_) (fun h3 => ?_)
 ·
  replace hR := of_true h3 hR
  refine Awp.skip ?_
  refine Awp.seq ?_
  refine Awp.block ?_
  refine Awp.regionP C ?_
  refine rvP C (.sl 900 0 l.length 1 false) ?_
  refine rvP C (.pv (.lit (.int .u64 s1))) ?_
  refine rvc_un (rexec_call hP C rfl rfl rfl (lowOf_calls s1) ?_)
  refine rvc_un (rexec_buildSliceF C (eI .i64) [(lowOf s1)] rfl rfl rfl rfl rfl rfl rfl (by decide) rfl ?_)
  refine rvc_un (rexec_append C rfl rfl rfl rfl rfl rfl rfl rfl (fun _ h => by cases h) rfl (en := (eI .i64)) (D0 := l) (D := [(lowOf s1)]) rfl rfl rfl rfl (by first | (have h_ := allInv_lt hV (by assumption); simp <;> omega) | (simp <;> omega)) (by decide) (nn := (l ++ [(lowOf s1)]).length) (by simp) ?_)
  refine rvP C (.sl 14 0 ((l ++ [(lowOf s1)]).length) 1 false) ?_
  refine rvc_nil ?_
  refine Awp.regionP C ?_
  refine rvP C (.pv (.lit (.int .u64 s1))) ?_
  refine rvP C (.pv (.lit (.int .u64 s1))) ?_
  refine rvP C (.pv (.lit (.int .u64 (IntKind.u64.wrap (s1 - 1))))) ?_
  refine rvP C (.pv (.lit (.int .u64 (bitI .and .u64 s1 (IntKind.u64.wrap (s1 - 1)))))) ?_
  refine rvP C (.pv (.lit (.int .u64 (bitI .and .u64 s1 (IntKind.u64.wrap (s1 - 1)))))) ?_
  refine rvc_nil ?_
  have h4 : (bitI .and .u64 s1 (IntKind.u64.wrap (s1 - 1))).toNat < s1.toNat := by (have := allInv_fall hV (by assumption); omega)
  obtain ⟨nn, rfl⟩ : ∃ nn, n_ = nn + 1 := ⟨n_ - 1, by omega⟩
  refine ⟨nn, ((bitI .and .u64 s1 (IntKind.u64.wrap (s1 - 1))), (l ++ [(lowOf s1)])), by omega, ⟨by show (bitI .and .u64 s1 (IntKind.u64.wrap (s1 - 1))).toNat ≤ nn; omega, hR, (by simpa using allInv_step hV (by assumption))⟩, ?_⟩
  · exact ⟨fun b => bif b == 900 then 14 else (fun b => b) b, WeakerR.ofL (Ks := [900]) hI ⟨⟨rfl, rfl⟩, ⟨rfl, rfl⟩, trivial⟩ (okH_list rfl rfl rfl (okH_nil)) rfl⟩
 ·
  replace hR := of_false h3 hR
  refine Awp.exit ?_
  refine Awp.consP C ?_
  refine rvP C (.sl 900 0 l.length 1 false) ?_
  refine rvP C (.sl 900 0 l.length 1 false) ?_
  refine rvc_nil ?_
  refine Awp.weakenR (S := [(2, .sl 0 0 l.length 1 false)]) (H := [(0, .cells (encC (eI .i64) l))]) (U := [0]) (fun x => bif x == 0 then 900 else x) (WeakerR.ofL (Ks := [0]) hI ⟨⟨rfl, rfl⟩, trivial⟩ (okH_list rfl rfl rfl okH_nil) rfl) ?_
  refine Awp.ret ?_
  subst hR
  exact ⟨.inl rfl, rfl, rfl⟩
end Go.Proofs.Ytihccnkegkkikaa
/- All numbers of a set: each that is in it, once. No conditions. -/
namespace Go.Proofs.Ytihccnkegkkikaa
open Go.Am
theorem len_ones : ∀ k : Nat, k < 64 → mLen (((2 ^ k : Nat) : Int) - 1) = (k : Int) := by
  have h : (List.range 64).all (fun (k : Nat) => mLen (((2 ^ k : Nat) : Int) - 1) == (k : Int)) = true := by decide +kernel
  intro k hk
  have := List.all_eq_true.1 h k (List.mem_range.2 hk)
  simpa using this
theorem low_of {S : Nat} : ∀ k, S.testBit k = true → ∃ j, S.testBit j = true ∧ ∀ i, i < j → S.testBit i = false := by
  intro k
  induction k using Nat.strongRecOn with
  | ind k ih =>
    intro hk
    by_cases h : ∀ i, i < k → S.testBit i = false
    · exact ⟨k, hk, h⟩
    · simp only [Classical.not_forall] at h
      obtain ⟨i, hi, hb⟩ := h
      exact ih i hi (by simpa using hb)
theorem low_exists {S : Nat} (h : S ≠ 0) : ∃ k, S.testBit k = true ∧ ∀ i, i < k → S.testBit i = false := by
  obtain ⟨k, hk⟩ := Nat.exists_testBit_of_ne_zero h
  exact low_of k hk
/-- The lowest bit, and what stands above it. -/
theorem low_form {S k : Nat} (hk : S.testBit k = true) (hl : ∀ i, i < k → S.testBit i = false) : ∃ m, S = 2 ^ (k + 1) * m + 2 ^ k := by
  have h1 := mod_of_bits hl
  rw [Nat.testBit_eq_decide_div_mod_eq] at hk
  have hk := of_decide_eq_true hk
  refine ⟨S / 2 ^ k / 2, ?_⟩
  have h2 := Nat.div_add_mod S (2 ^ k)
  have h3 := Nat.div_add_mod (S / 2 ^ k) 2
  rw [h1, Nat.add_zero] at h2
  rw [hk] at h3
  generalize S / 2 ^ k = q at h2 h3
  rw [← h2, ← h3, Nat.pow_succ, Nat.mul_add, Nat.mul_one, Nat.mul_assoc]
  simp
  rw [h3]
theorem pred_bit {S k i : Nat} (hk : S.testBit k = true) (hl : ∀ i, i < k → S.testBit i = false) (hi : k < i) : (S - 1).testBit i = S.testBit i := by
  obtain ⟨m, rfl⟩ := low_form hk hl
  have hp : 0 < 2 ^ k := Nat.two_pow_pos k
  have e1 : (2 ^ (k + 1) * m + 2 ^ k - 1) / 2 ^ (k + 1) = m := by
    rw [show 2 ^ (k + 1) * m + 2 ^ k - 1 = 2 ^ (k + 1) * m + (2 ^ k - 1) by omega, Nat.mul_add_div (Nat.two_pow_pos _), Nat.div_eq_of_lt (by rw [Nat.pow_succ]; omega), Nat.add_zero]
  have e2 : (2 ^ (k + 1) * m + 2 ^ k) / 2 ^ (k + 1) = m := by
    rw [Nat.mul_add_div (Nat.two_pow_pos _), Nat.div_eq_of_lt (by rw [Nat.pow_succ]; omega), Nat.add_zero]
  obtain ⟨j, rfl⟩ : ∃ j, i = k + 1 + j := ⟨i - (k + 1), by omega⟩
  have g : ∀ y : Nat, y.testBit (k + 1 + j) = (y / 2 ^ (k + 1)).testBit j := fun y => by
    rw [Nat.testBit_div_two_pow]
    first | rfl | (congr 1; omega)
  rw [g, g, e1, e2]
theorem cut_test {S k : Nat} (hk : S.testBit k = true) (hl : ∀ i, i < k → S.testBit i = false) (i : Nat) : (S &&& (S - 1)).testBit i = (S.testBit i && !(decide (i = k))) := by
  have hS : S ≠ 0 := fun h => by rw [h, Nat.zero_testBit] at hk; cases hk
  rcases Nat.lt_trichotomy i k with h | h | h
  · rw [cut_bits hl hS i (by omega), hl i h]; rfl
  · subst h; rw [cut_bits hl hS i (by omega)]; simp
  · rw [Nat.testBit_and, pred_bit hk hl h, decide_eq_false (by omega)]; simp
theorem low_and {S k : Nat} (hS : S < 18446744073709551616) (hk : S.testBit k = true) (hl : ∀ i, i < k → S.testBit i = false) : S &&& (18446744073709551616 - S) = 2 ^ k := by
  have hne : S ≠ 0 := fun h => by rw [h, Nat.zero_testBit] at hk; cases hk
  apply Nat.eq_of_testBit_eq
  intro i
  have h2 : (18446744073709551616 - S).testBit i = (decide (i < 64) && !((S - 1).testBit i)) := by
    have := Nat.testBit_two_pow_sub_succ (x := S - 1) (n := 64) (by omega) i
    rwa [show 2 ^ 64 - (S - 1 + 1) = 18446744073709551616 - S by omega] at this
  have h3 := cut_test hk hl i
  rw [Nat.testBit_and] at h3
  rw [Nat.testBit_and, h2, Nat.testBit_two_pow]
  have hlt : S.testBit i = true → i < 64 := fun h => by
    rcases Nat.lt_or_ge i 64 with h1 | h1
    · exact h1
    · rw [Nat.testBit_lt_two_pow (Nat.lt_of_lt_of_le hS (by show 2 ^ 64 ≤ 2 ^ i; exact Nat.pow_le_pow_right (by decide) h1))] at h; cases h
  by_cases e : k = i
  · subst e
    rw [decide_eq_true (p := k = k) rfl]
    rw [hk, decide_eq_true (p := k = k) rfl] at h3
    rw [hk, decide_eq_true (hlt hk)]
    cases hb : (S - 1).testBit k
    · rfl
    · rw [hb] at h3; cases h3
  · rw [decide_eq_false e]
    rw [decide_eq_false (fun h => e h.symm)] at h3
    cases hb : S.testBit i
    · rfl
    · rw [hb] at h3
      rw [decide_eq_true (hlt hb)]
      cases hc : (S - 1).testBit i
      · rw [hc] at h3; cases h3
      · rfl
theorem lowOf_eq {S k : Nat} (hS : S < 18446744073709551616) (hk : S.testBit k = true) (hl : ∀ i, i < k → S.testBit i = false) : lowOf (S : Int) = (k : Int) := by
  have hne : S ≠ 0 := fun h => by rw [h, Nat.zero_testBit] at hk; cases hk
  have hk64 : k < 64 := by
    rcases Nat.lt_or_ge k 64 with h1 | h1
    · exact h1
    · rw [Nat.testBit_lt_two_pow (Nat.lt_of_lt_of_le hS (by show 2 ^ 64 ≤ 2 ^ k; exact Nat.pow_le_pow_right (by decide) h1))] at hk; cases hk
  unfold lowOf
  have e0 : ((S : Int) == 0) = false := by simp; exact hne
  rw [e0, cond_false]
  have e1 : IntKind.u64.wrap (0 - (S : Int)) = ((18446744073709551616 - S : Nat) : Int) := by rw [wrap64]; omega
  rw [e1, and64 hS (by omega), low_and hS hk hl]
  have hp : 2 ^ k < 2 ^ 64 := Nat.pow_lt_pow_right (by decide) hk64
  have h0 : 0 < 2 ^ k := Nat.two_pow_pos k
  have e2 : IntKind.u64.wrap (((2 ^ k : Nat) : Int) - 1) = ((2 ^ k : Nat) : Int) - 1 := by
    generalize 2 ^ k = p at hp h0
    rw [wrap64]
    have : (2 : Nat) ^ 64 = 18446744073709551616 := by decide
    omega
  rw [e2, len_ones k hk64]
end Go.Proofs.Ytihccnkegkkikaa
/- All numbers of a set: each that is in it, once. No conditions. -/
namespace Go.Proofs.Ytihccnkegkkikaa
open Go.Am
theorem all_loop : ∀ (n T : Nat) (l : List Int), T < 18446744073709551616 → T < n → l.Nodup → (∀ k : Nat, T.testBit k = true → ((k : Nat) : Int) ∉ l) → (allO_l0 n (T : Int) l).Nodup ∧ ∀ x, x ∈ allO_l0 n (T : Int) l ↔ x ∈ l ∨ ∃ k : Nat, x = (k : Int) ∧ T.testBit k = true
  | 0, _, _, _, h, _, _ => absurd h (Nat.not_lt_zero _)
  | n + 1, T, l, hT, hn, hd, hl => by
    unfold allO_l0
    by_cases h0 : T = 0
    · subst h0
      have e : ((((0 : Nat) : Int)) != 0) = false := rfl
      rw [e, cond_false]
      refine ⟨hd, fun x => ⟨fun h => .inl h, fun h => ?_⟩⟩
      rcases h with h | ⟨k, _, hk⟩
      · exact h
      · rw [Nat.zero_testBit] at hk; cases hk
    · have e : ((T : Int) != 0) = true := by simp; exact h0
      rw [e, cond_true, and_cut hT h0]
      obtain ⟨k, hk, hlow⟩ := low_exists h0
      rw [lowOf_eq hT hk hlow]
      have hct := cut_test hk hlow
      have hlt : T &&& (T - 1) < T := Nat.lt_of_le_of_lt Nat.and_le_right (by omega)
      obtain ⟨h1, h2⟩ := all_loop n (T &&& (T - 1)) (l ++ [(k : Int)]) (by omega) (by omega) (by
        rw [List.nodup_append]
        refine ⟨hd, by simp, fun a ha b hb => ?_⟩
        simp only [List.mem_singleton] at hb
        subst hb
        exact fun e => hl k hk (e ▸ ha)) (fun j hj hm => by
        rw [hct] at hj
        simp only [Bool.and_eq_true, Bool.not_eq_true', decide_eq_false_iff_not] at hj
        rcases List.mem_append.1 hm with hm | hm
        · exact hl j hj.1 hm
        · simp only [List.mem_singleton] at hm; exact hj.2 (by omega))
      refine ⟨h1, fun x => ?_⟩
      rw [h2]
      constructor
      · rintro (h | ⟨j, rfl, hj⟩)
        · rcases List.mem_append.1 h with h | h
          · exact .inl h
          · simp only [List.mem_singleton] at h; exact .inr ⟨k, h, hk⟩
        · rw [hct] at hj
          simp only [Bool.and_eq_true] at hj
          exact .inr ⟨j, rfl, hj.1⟩
      · rintro (h | ⟨j, rfl, hj⟩)
        · exact .inl (List.mem_append_left _ h)
        · by_cases e : j = k
          · subst e; exact .inl (List.mem_append_right _ (by simp))
          · refine .inr ⟨j, rfl, ?_⟩
            rw [hct, hj, decide_eq_false e]; rfl
theorem all_spec {S : Nat} (hS : S < 18446744073709551616) (h0 : S ≠ 0) : (allO (S : Int)).Nodup ∧ ∀ x, x ∈ allO (S : Int) ↔ ∃ k : Nat, x = (k : Int) ∧ S.testBit k = true := by
  have e : allO (S : Int) = allO_l0 (S + 1) (S : Int) [] ∨ True := .inr trivial
  unfold allO
  obtain ⟨k, hk, hlow⟩ := low_exists h0
  rw [and_cut hS h0, lowOf_eq hS hk hlow, Int.toNat_natCast]
  have hct := cut_test hk hlow
  obtain ⟨h1, h2⟩ := all_loop ((S &&& (S - 1)) + 1) (S &&& (S - 1)) [(k : Int)] (Nat.lt_of_le_of_lt Nat.and_le_left hS) (by omega) (by simp) (fun j hj hm => by
    rw [hct] at hj
    simp only [Bool.and_eq_true, Bool.not_eq_true', decide_eq_false_iff_not] at hj
    simp only [List.mem_singleton] at hm; exact hj.2 (by omega))
  refine ⟨h1, fun x => ?_⟩
  rw [h2]
  constructor
  · rintro (h | ⟨j, rfl, hj⟩)
    · simp only [List.mem_singleton] at h; exact ⟨k, h, hk⟩
    · rw [hct] at hj
      simp only [Bool.and_eq_true] at hj
      exact ⟨j, rfl, hj.1⟩
  · rintro ⟨j, rfl, hj⟩
    by_cases e : j = k
    · subst e; exact .inl (by simp)
    · refine .inr ⟨j, rfl, ?_⟩
      rw [hct, hj, decide_eq_false e]; rfl
theorem perm_sorted_eq {α : Type} {r : α → α → Prop} : ∀ {l1 l2 : List α}, (∀ a ∈ l1, ∀ b ∈ l1, r a b → r b a → a = b) → l1.Perm l2 → l1.Pairwise r → l2.Pairwise r → l1 = l2
  | [], l2, _, h, _, _ => (List.Perm.nil_eq h)
  | a :: l1, [], _, h, _, _ => by have := h.length_eq; simp at this
  | a :: l1, b :: l2, ha, h, h1, h2 => by
    have hab : a = b := by
      by_cases e : a = b
      · exact e
      · have ha2 : a ∈ b :: l2 := h.subset List.mem_cons_self
        have hb1 : b ∈ a :: l1 := h.symm.subset List.mem_cons_self
        rcases List.mem_cons.1 ha2 with h3 | h3
        · exact h3
        · rcases List.mem_cons.1 hb1 with h4 | h4
          · exact h4.symm
          · exact ha a List.mem_cons_self b hb1 ((List.pairwise_cons.1 h1).1 b h4) ((List.pairwise_cons.1 h2).1 a h3)
    subst hab
    rw [perm_sorted_eq (fun x hx y hy => ha x (List.mem_cons_of_mem _ hx) y (List.mem_cons_of_mem _ hy)) h.cons_inv (List.pairwise_cons.1 h1).2 (List.pairwise_cons.1 h2).2]
end Go.Proofs.Ytihccnkegkkikaa
/- Who is asked for a write: the nodes that have all, in the chain's order. No conditions. -/
namespace Go.Proofs.Ytihccnkegkkikaa
open Go.Am
def fullNodes (c : Chain) : List Int := (c.members.D.filter fun m => !m.fresh).map (·.node)
theorem place_small (c : Chain) (hc : check c = 0) (n : Int) : -1 ≤ place0 c n ∧ place0 c n < 6 := by
  have h1 := place0_lt c n
  have h2 := check_le6 hc
  omega
theorem tries_lt {c : Chain} (hc : check c = 0) (a b : Int) : ltOf (fun x y => triesF x y c) a b = decide (place0 c a < place0 c b) := by
  unfold ltOf triesF
  have h1 := place_small c hc a
  have h2 := place_small c hc b
  have := wrapI (place0 c a - place0 c b)
  show decide (IntKind.i64.wrap (place0 c a - place0 c b) < 0) = _
  rw [this ⟨by omega, by omega⟩]
  by_cases h : place0 c a < place0 c b
  · rw [decide_eq_true h]; exact decide_eq_true (by omega)
  · rw [decide_eq_false h]; exact decide_eq_false (by omega)
theorem tries_swo {c : Chain} (hc : check c = 0) : Go.Sort.SWO (ltOf (fun x y => triesF x y c)) where
  irrefl x := by rw [tries_lt hc]; exact decide_eq_false (by omega)
  trans x y z h1 h2 := by
    rw [tries_lt hc] at *
    have h1 := of_decide_eq_true h1
    have h2 := of_decide_eq_true h2
    exact decide_eq_true (by omega)
  ntrans x y z h1 h2 := by
    rw [tries_lt hc] at *
    have h1 := of_decide_eq_false h1
    have h2 := of_decide_eq_false h2
    exact decide_eq_false (by omega)
theorem whole_nat (c : Chain) : ∃ S : Nat, whole c = (S : Int) ∧ S < 18446744073709551616 ∧ ∀ n, n < 64 → S.testBit n = c.members.D.any fun x => x.node == (n : Int) && !x.fresh := by
  obtain ⟨h1, h2⟩ := whole_l0_eq c.members.D 0 0 (by decide)
  exact ⟨_, h1, h2, fun n hn => by rw [bits_test _ hn, Nat.zero_testBit, Bool.false_or]⟩
theorem full_mem {c : Chain} (hc : check c = 0) {S : Nat} (hS : S < 18446744073709551616) (ht : ∀ n, n < 64 → S.testBit n = c.members.D.any fun x => x.node == (n : Int) && !x.fresh) (x : Int) : (∃ k : Nat, x = (k : Int) ∧ S.testBit k = true) ↔ x ∈ fullNodes c := by
  unfold fullNodes
  constructor
  · rintro ⟨k, rfl, hk⟩
    have hk64 : k < 64 := by
      rcases Nat.lt_or_ge k 64 with h1 | h1
      · exact h1
      · rw [Nat.testBit_lt_two_pow (Nat.lt_of_lt_of_le hS (by show 2 ^ 64 ≤ 2 ^ k; exact Nat.pow_le_pow_right (by decide) h1))] at hk; cases hk
    rw [ht k hk64, List.any_eq_true] at hk
    obtain ⟨m, hm, h⟩ := hk
    simp only [Bool.and_eq_true, beq_iff_eq] at h
    exact List.mem_map.2 ⟨m, List.mem_filter.2 ⟨hm, h.2⟩, h.1⟩
  · intro h
    obtain ⟨m, hm, rfl⟩ := List.mem_map.1 h
    obtain ⟨hm, hf⟩ := List.mem_filter.1 hm
    have := mem_ok hc hm
    refine ⟨m.node.toNat, by omega, ?_⟩
    rw [ht _ (by omega), List.any_eq_true]
    refine ⟨m, hm, ?_⟩
    rw [hf, Bool.and_true, beq_iff_eq]
    omega
theorem full_ne {c : Chain} (hc : check c = 0) : fullNodes c ≠ [] := by
  obtain ⟨_, h1, h2, _, _⟩ := (check_iff c).1 hc
  intro h
  cases hD : c.members.D with
  | nil => exact h1 hD
  | cons m l =>
    rw [hD] at h2
    have h2 : m.fresh = false := h2
    unfold fullNodes at h
    rw [hD, List.filter_cons, h2] at h
    simp at h
theorem whole_ne {c : Chain} (hc : check c = 0) : (whole c != 0) = true := by
  obtain ⟨S, h1, h2, h3⟩ := whole_nat c
  cases hf : fullNodes c with
  | nil => exact absurd hf (full_ne hc)
  | cons x l =>
    obtain ⟨k, _, hk⟩ := (full_mem hc h2 h3 x).2 (by rw [hf]; exact List.mem_cons_self)
    rw [h1]
    have : S ≠ 0 := fun h => by rw [h, Nat.zero_testBit] at hk; cases hk
    simp; exact this
theorem whole_in (c : Chain) : 0 ≤ whole c ∧ whole c < 18446744073709551616 := by
  obtain ⟨S, h1, h2, _⟩ := whole_nat c
  rw [h1]; omega
theorem full_nodup {c : Chain} (hc : check c = 0) : (fullNodes c).Nodup := by
  obtain ⟨_, _, _, _, h⟩ := (check_iff c).1 hc
  unfold fullNodes List.Nodup
  rw [List.pairwise_map]
  exact (h.filter _).imp fun h => h.1
theorem all_perm {c : Chain} (hc : check c = 0) : (allO (whole c)).Perm (fullNodes c) := by
  obtain ⟨S, h1, h2, h3⟩ := whole_nat c
  have hne : S ≠ 0 := by have := whole_ne hc; rw [h1] at this; simpa using this
  rw [h1]
  obtain ⟨h4, h5⟩ := all_spec h2 hne
  exact (List.perm_ext_iff_of_nodup h4 (full_nodup hc)).2 fun x => by rw [h5, full_mem hc h2 h3]
theorem idx_ge (n : Int) : ∀ (l : List Member) (k : Nat), (∃ m ∈ l, m.node = n) → (k : Int) ≤ indexFunc_l0 (fun x0 => placeF x0 n) l k
  | [], _, ⟨_, h, _⟩ => by cases h
  | m :: l, k, ⟨m', hm, hn⟩ => by
    unfold indexFunc_l0
    cases hp : placeF m n
    · rw [cond_false]
      rcases List.mem_cons.1 hm with rfl | hm
      · have : placeF m' n = true := by unfold placeF; simp [hn]
        rw [hp] at this; cases this
      · have := idx_ge n l (k + 1) ⟨m', hm, hn⟩
        omega
    · exact Int.le_refl _
theorem idx_sorted : ∀ (l : List Member) (k : Nat), l.Pairwise Apart → l.Pairwise fun a b => indexFunc_l0 (fun x0 => placeF x0 a.node) l k < indexFunc_l0 (fun x0 => placeF x0 b.node) l k
  | [], _, _ => List.Pairwise.nil
  | m :: l, k, h => by
    obtain ⟨h1, h2⟩ := List.pairwise_cons.1 h
    have hne : ∀ b ∈ l, indexFunc_l0 (fun x0 => placeF x0 b.node) (m :: l) k = indexFunc_l0 (fun x0 => placeF x0 b.node) l (k + 1) := fun b hb => by
      conv => lhs; unfold indexFunc_l0
      have : placeF m b.node = false := by unfold placeF; simp; exact (h1 b hb).1
      rw [this]; rfl
    have hm : indexFunc_l0 (fun x0 => placeF x0 m.node) (m :: l) k = (k : Int) := by
      unfold indexFunc_l0
      have : placeF m m.node = true := by unfold placeF; simp
      rw [this]; rfl
    refine List.pairwise_cons.2 ⟨fun b hb => ?_, ?_⟩
    · rw [hm, hne b hb]
      have := idx_ge b.node l (k + 1) ⟨b, hb, rfl⟩
      omega
    · refine (List.Pairwise.and_mem.1 (idx_sorted l (k + 1) h2)).imp fun ⟨ha, hb, hlt⟩ => ?_
      rw [hne _ ha, hne _ hb]; exact hlt
theorem full_sorted {c : Chain} (hc : check c = 0) : (fullNodes c).Pairwise fun a b => place0 c a < place0 c b := by
  obtain ⟨_, _, _, _, h⟩ := (check_iff c).1 hc
  have hp : ∀ n, place0 c n = indexFunc_l0 (fun x0 => placeF x0 n) c.members.D 0 := fun n => by
    unfold place0
    have : (check c != 0) = false := by rw [hc]; rfl
    rw [this]; rfl
  unfold fullNodes
  rw [List.pairwise_map]
  refine ((idx_sorted c.members.D 0 h).filter _).imp fun hlt => ?_
  rw [hp, hp]; exact hlt
theorem sort_spec {c : Chain} (hc : check c = 0) (D : List Int) : (sortInts D (fun x y => triesF x y c)).Perm D ∧ (sortInts D (fun x y => triesF x y c)).Pairwise fun a b => place0 c a ≤ place0 c b := by
  obtain ⟨⟨h1, _, h2⟩, h3⟩ := Go.Sort.pdq_sorts (ltOf (fun x y => triesF x y c)) (tries_swo hc) D.toArray 0 D.length (Lib.bitLen D.length) true true (Nat.zero_le _) (by simp) (Or.inl rfl)
  have hs : D.toArray.size = D.length := by simp
  rw [hs] at h1
  constructor
  · unfold sortInts
    have e1 : ∀ A : Array Int, A.size = D.length → (A.extract 0 D.length).toList = A.toList := fun A hA => by rw [← hA]; simp
    rw [e1 _ h1, e1 _ hs] at h2
    simpa using h2
  · unfold sortInts
    rw [List.pairwise_iff_getElem]
    intro i j hi hj hij
    rw [Array.length_toList, h1] at hi hj
    have := h3 i j (Nat.zero_le _) hij hj
    rw [tries_lt hc] at this
    have := of_decide_eq_false this
    rw [getElem!_pos _ i (by rw [h1]; exact hi), getElem!_pos _ j (by rw [h1]; exact hj)] at this
    simp only [Array.getElem_toList]
    omega
theorem tries_list {c : Chain} (hc : check c = 0) : sortInts (allO (whole c)) (fun x y => triesF x y c) = fullNodes c := by
  obtain ⟨h1, h2⟩ := sort_spec hc (allO (whole c))
  have hp := h1.trans (all_perm hc)
  have hst := full_sorted hc
  refine perm_sorted_eq (r := fun a b => place0 c a ≤ place0 c b) (fun a ha b hb hab hba => ?_) hp h2 (hst.imp fun h => by omega)
  have ha := hp.subset ha
  have hb := hp.subset hb
  obtain ⟨i, hi, rfl⟩ := List.getElem_of_mem ha
  obtain ⟨j, hj, rfl⟩ := List.getElem_of_mem hb
  rcases Nat.lt_trichotomy i j with h | h | h
  · have := List.pairwise_iff_getElem.1 hst i j hi hj h; omega
  · subst h; rfl
  · have := List.pairwise_iff_getElem.1 hst j i hj hi h; omega
theorem sorted_len {c : Chain} (hc : check c = 0) : (sortInts (allO (whole c)) (fun x y => triesF x y c)).length = (fullNodes c).length := by rw [tries_list hc]
theorem full_len {c : Chain} (hc : check c = 0) : 0 < (fullNodes c).length ∧ (fullNodes c).length ≤ 6 := by
  have h1 := full_ne hc
  have h2 := check_le6 hc
  have h3 : (fullNodes c).length ≤ c.members.D.length := by unfold fullNodes; rw [List.length_map]; exact List.length_filter_le _ _
  exact ⟨List.length_pos_iff.2 h1, by omega⟩
theorem all_len {c : Chain} (hc : check c = 0) : (allO (whole c)).length ≤ 6 := by rw [(all_perm hc).length_eq]; exact (full_len hc).2
theorem full_facts {c : Chain} (hc : check c = 0) : 0 < (allO (whole c)).length ∧ (sortInts (allO (whole c)) (fun x0 x1 => triesF x0 x1 c)).length = (allO (whole c)).length ∧ (allO (whole c)).length ≤ 6 := by
  have h1 := (all_perm hc).length_eq
  have h2 := full_len hc
  have h3 : (sortInts (allO (whole c)) (fun x0 x1 => triesF x0 x1 c)).length = (fullNodes c).length := sorted_len hc
  omega
theorem tm (i n : Nat) (h : 0 < n) : 0 ≤ (i : Int).tmod (n : Int) ∧ (i : Int).tmod (n : Int) < (n : Int) := by
  rw [Int.tmod_eq_emod_of_nonneg (by omega)]
  exact ⟨Int.emod_nonneg _ (by omega), Int.emod_lt_of_pos _ (by omega)⟩
theorem near_pos {c : Chain} {w : Nat → Nat → Int} {f : Int} (h : (near c w f).2 = 0) : 0 < (near c w f).1.D.length := by
  have hc := (able_ok (near_ok h)).1
  have ha := near_ok h
  have h6 := check_le6 hc
  have h1 := check_len hc
  unfold near
  rw [show (able c w f != 0) = false by rw [ha]; rfl, cond_false, near_l0_eq]
  show 0 < (([] : List Int) ++ _).length
  rw [List.nil_append, List.length_map, sortSF_len _ _ (by omega)]
  exact h1
theorem rNear_pos {c : Chain} {w : Nat → Nat → Int} {f : Int} (h : (rNear c w f).2 = 0) : 0 < (rNear c w f).1.D.length := by
  rw [← near_eq] at h ⊢
  exact near_pos h
end Go.Proofs.Ytihccnkegkkikaa
/- Whom one asks. No conditions. -/
namespace Go.Proofs.Ytihccnkegkkikaa
open Go.Am
def tries_l0 (c : Chain) : Nat → Nat → (List Int) → (Sl Int) × Int
  | 0, _, out => ((Sl.mk out.isEmpty out), 0)
  | k + 1, i, out => tries_l0 c k (i + 1) (out ++ [(sortInts (allO (whole c)) (fun x0 x1 => triesF x0 x1 c))[((i : Int).tmod (((allO (whole c)).length) : Int)).toNat]!])
def tries_l0b (nr : (Sl Int) × Int) : Nat → Nat → (List Int) → (Sl Int) × Int
  | 0, _, out1 => ((Sl.mk out1.isEmpty out1), 0)
  | k1 + 1, i1, out1 => tries_l0b nr k1 (i1 + 1) (out1 ++ [nr.1.D[((i1 : Int).tmod (nr.1.D.length : Int)).toNat]!])
def tries (c : Chain) (w : (Nat → (Nat → Int))) (from_ : Int) (write : Bool) (many : Int) : (Sl Int) × Int :=
  (bif ((near c w from_).2 != 0) then ((Sl.mk true []), (near c w from_).2) else (bif (decide (many < 0)) then ((Sl.mk true []), 1) else (bif (decide (many > 24)) then ((Sl.mk true []), 1) else (bif write then tries_l0 c many.toNat 0 [] else tries_l0b (near c w from_) many.toNat 0 []))))
theorem tries_calls (c : Chain) (w : (Nat → (Nat → Int))) (from_ : Int) (write : Bool) (many : Int) (hn : c.members.nil = true → c.members.D = []) (hl1 : c.members.D.length ≤ 1000000) : PCalls Try.prog 35 [.agg [.pv (.lit (.int .i64 c.epoch)), sS (some c.members.nil) eMember c.members.D], .agg [.pv (.lit (.int .i64 ((w 0) 0))), .pv (.lit (.int .i64 ((w 0) 1))), .pv (.lit (.int .i64 ((w 0) 2))), .pv (.lit (.int .i64 ((w 1) 0))), .pv (.lit (.int .i64 ((w 1) 1))), .pv (.lit (.int .i64 ((w 1) 2))), .pv (.lit (.int .i64 ((w 2) 0))), .pv (.lit (.int .i64 ((w 2) 1))), .pv (.lit (.int .i64 ((w 2) 2)))], .pv (.lit (.int .i64 from_)), .pv (.lit (.bool write)), .pv (.lit (.int .i64 many))] (.tup [sS (some (tries c w from_ write many).1.nil) (eI .i64) ((tries c w from_ write many).1.D), .pv (.lit (.int .i64 ((tries c w from_ write many).2)))]) := by
 generalize hR : tries c w from_ write many = R
 refine PCalls.of_body tabOk Try.func35 rfl rfl rfl rfl rfl mixed fun E hP C hI => ?_
 refine Awp.consP C ?_
 refine rvc_un (rexec_boxF C [.lit (.int .i64 c.epoch), .sl (some c.members.nil) c.members.D.length (encL eMember c.members.D)] rfl rfl rfl rfl ?_)
 refine rvc_un (rexec_prim C (δ := { v := .ptr 6 0, new := [(6, .cells [.pv (.lit (.int .i64 ((w 0) 0))), .pv (.lit (.int .i64 ((w 0) 1))), .pv (.lit (.int .i64 ((w 0) 2))), .pv (.lit (.int .i64 ((w 1) 0))), .pv (.lit (.int .i64 ((w 1) 1))), .pv (.lit (.int .i64 ((w 1) 2))), .pv (.lit (.int .i64 ((w 2) 0))), .pv (.lit (.int .i64 ((w 2) 1))), .pv (.lit (.int .i64 ((w 2) 2)))])] }) rfl rfl rfl rfl trivial rfl ?_)
 refine rvP C (sS (some true) (eI .i64) []) ?_
 refine rvP C (.pv (.lit (.int .i64 0))) ?_
 refine rvc_nil ?_
 refine Awp.consP C ?_
 refine rvP C (.agg [.pv (.lit (.int .i64 c.epoch)), sS (some c.members.nil) eMember c.members.D]) ?_
 refine rvP C (.agg [.pv (.lit (.int .i64 ((w 0) 0))), .pv (.lit (.int .i64 ((w 0) 1))), .pv (.lit (.int .i64 ((w 0) 2))), .pv (.lit (.int .i64 ((w 1) 0))), .pv (.lit (.int .i64 ((w 1) 1))), .pv (.lit (.int .i64 ((w 1) 2))), .pv (.lit (.int .i64 ((w 2) 0))), .pv (.lit (.int .i64 ((w 2) 1))), .pv (.lit (.int .i64 ((w 2) 2)))]) ?_
 refine rvP C (.pv (.lit (.int .i64 from_))) ?_
 obtain ⟨nr, hq_nr⟩ : ∃ q_, q_ = (near c w from_) := ⟨_, rfl⟩
 have hc_nr := (near_calls c w from_ hn hl1)
 first | rw [← hq_nr] at hR hc_nr | (unfold tries at hR; rw [← hq_nr] at hR hc_nr)
 have hf0_nr := near_len c w from_
 rw [← hq_nr] at hf0_nr
 refine rvc_un (rexec_call hP C rfl rfl rfl hc_nr ?_)
 refine rvP C (.tup [sS (some nr.1.nil) (eI .i64) nr.1.D, .pv (.lit (.int .i64 nr.2))]) ?_
 refine rvP C (sS (some nr.1.nil) (eI .i64) nr.1.D) ?_
 refine rvP C (.pv (.lit (.int .i64 nr.2))) ?_
 refine rvP C (sS (some nr.1.nil) (eI .i64) nr.1.D) ?_
 refine rvP C (.pv (.lit (.int .i64 nr.2))) ?_
 refine rvc_nil ?_
 refine Awp.seq ?_
 refine Awp.block ?_
 refine Awp.consP C ?_
 refine rvP C (.pv (.lit (.int .i64 nr.2))) ?_
 refine rvP C (.pv (.lit (.bool (nr.2 != 0)))) ?_
 refine rvP C (.pv (.lit (.bool (nr.2 != 0)))) ?_
 refine rvc_nil ?_
 refine Awp.cond (b := (nr.2 != 0)) rfl (fun h1 => ?_) (fun h1 => ?_)
 ·
  replace hR := of_true h1 hR
  refine Awp.consP C ?_
  refine rvP C (.pv (.lit (.int .i64 nr.2))) ?_
  refine rvP C (sS (some true) (eI .i64) []) ?_
  refine rvP C (.pv (.lit (.int .i64 nr.2))) ?_
  refine rvc_nil ?_
  refine Awp.ret ?_
  subst hR
  exact ⟨.inl rfl, rfl⟩
 ·
  replace hR := of_false h1 hR
  refine Awp.consP C ?_
  refine rvP C (.pv (.lit (.int .i64 many))) ?_
  refine rvP C (.pv (.lit (.bool (decide (many < 0))))) ?_
  refine rvP C (.pv (.lit (.bool (decide (many < 0))))) ?_
  refine rvc_case 30 (decide (many < 0)) rfl (fun h2 => ?_) (fun h2 => ?_)
  ·
   replace hR := of_true h2 hR
   refine rvS ?_
   refine rvS ?_
   refine rvP C (.pv (.lit (.bool true))) ?_
   refine rvP C (.pv (.lit (.bool true))) ?_
   refine rvc_nil ?_
   refine Awp.condT (b := true) rfl rfl ?_
   refine Awp.consP C ?_
   refine rvP C (sS (some true) (eI .i64) []) ?_
   refine rvP C (.pv (.lit (.int .i64 1))) ?_
   refine rvc_nil ?_
   refine Awp.ret ?_
   subst hR
   exact ⟨.inl rfl, rfl⟩
  ·
   replace hR := of_false h2 hR
   refine rvO C (.pv (.lit (.int .i64 many))) ?_
   refine rvO C (.pv (.lit (.bool (decide (many > 24))))) ?_
   refine rvP C (.pv (.lit (.bool (decide (many > 24))))) ?_
   refine rvP C (.pv (.lit (.bool (decide (many > 24))))) ?_
   refine rvc_nil ?_
   refine Awp.cond (b := (decide (many > 24))) rfl (fun h3 => ?_) (fun h3 => ?_)
   ·
    replace hR := of_true h3 hR
    refine Awp.consP C ?_
    refine rvP C (sS (some true) (eI .i64) []) ?_
    refine rvP C (.pv (.lit (.int .i64 1))) ?_
    refine rvc_nil ?_
    refine Awp.ret ?_
    subst hR
    exact ⟨.inl rfl, rfl⟩
   ·
    replace hR := of_false h3 hR
    refine Awp.consP C ?_
    refine rvP C (.pv (.lit (.bool write))) ?_
    refine rvP C (.pv (.lit (.bool write))) ?_
    refine rvc_nil ?_
    refine Awp.cond (b := write) rfl (fun h4 => ?_) (fun h4 => ?_)
    ·
     replace hR := of_true h4 hR
     refine Awp.cons C (fun _ => .quiet) (by kernel_rfl) ?_
     refine rvP C (.agg [.pv (.lit (.int .i64 c.epoch)), sS (some c.members.nil) eMember c.members.D]) ?_
     refine rvc_un (rexec_call hP C rfl rfl rfl (whole_calls c (Nat.le_trans hl1 (by decide))) ?_)
     refine rvc_un (rexec_callO hP C rfl rfl rfl rfl (allO_calls (whole c) (whole_in c) (whole_ne (able_ok (near_ok (by rw [← hq_nr]; exact eq_of_bne_false ‹(nr.2 != 0) = false›))).1)) ?_)
     refine rvP C (.sl 38 0 ((allO (whole c)).length) 1 false) ?_
     refine rvc_nil ?_
     refine Awp.region C (fun _ => .writer) (by kernel_rfl) ?_
     refine rvP C (.sl 38 0 ((allO (whole c)).length) 1 false) ?_
     refine rvP C (.fn 51 [] [.rp [.lit (.int .i64 c.epoch), .sl (some c.members.nil) c.members.D.length (encL eMember c.members.D)]]) ?_
     refine rvc_un (rexec_callM hP C (b := 38) rfl rfl rfl (sortInts_calls (allO (whole c)) (fun x0 x1 => triesF x0 x1 c) 51 [.rp [.lit (.int .i64 c.epoch), .sl (some c.members.nil) c.members.D.length (encL eMember c.members.D)]] (fun x0 x1 => triesF_calls x0 x1 c (by have h_ := check_le6 (able_ok (near_ok (by rw [← hq_nr]; exact eq_of_bne_false ‹(nr.2 != 0) = false›))).1; omega)) rfl (tries_swo (able_ok (near_ok (by rw [← hq_nr]; exact eq_of_bne_false ‹(nr.2 != 0) = false›))).1) (by have h_ := all_len (able_ok (near_ok (by rw [← hq_nr]; exact eq_of_bne_false ‹(nr.2 != 0) = false›))).1; omega)) rfl rfl ?_)
     refine rvc_nil ?_
     refine Awp.consP C ?_
     refine rvP C (sS (some true) (eI .i64) []) ?_
     refine rvc_nil ?_
     refine Awp.seq ?_
     refine Awp.consP C ?_
     refine rvP C (.pv (.lit (.int .i64 many))) ?_
     refine rvP C (.pv (.lit (.int .i64 0))) ?_
     refine rvc_nil ?_
     refine Awp.block ?_
     refine Awp.forR (σ := ((List Int))) (many.toNat) (fun i v => [(12, .sl 38 0 ((allO (whole c)).length) 1 false), (14, grow 900 (eI .i64) v), (42, .pv (.lit (.int .i64 many))), (43, .pv (.lit (.int .i64 (i : Int))))]) (fun i v => (growH 900 (eI .i64) v ++ ([(38, .cells (encC (eI .i64) (sortInts (allO (whole c)) (fun x0 x1 => triesF x0 x1 c))))]))) [38, 900] (fun i v => (tries_l0 c (many.toNat - i) i v = R) ∧ (v.length ≤ i)) [] ?_ ?_ (fun i out h5 hR => ?_)
     · exact ⟨hR, (by first | omega | (simp <;> omega))⟩
     · exact ⟨fun b => b, WeakerR.ofL (Ks := [38, 900]) hI ⟨⟨rfl, rfl⟩, ⟨rfl, rfl⟩, ⟨rfl, rfl⟩, ⟨rfl, rfl⟩, trivial⟩ (okH_grow (fun hne => absurd rfl hne) rfl rfl (okH_list rfl rfl rfl (okH_nil))) rfl⟩
     obtain ⟨hR, hi_out⟩ := hR
     replace hi_out : out.length ≤ i := hi_out
     have hw_ := full_facts (able_ok (near_ok (by rw [← hq_nr]; exact eq_of_bne_false ‹(nr.2 != 0) = false›))).1
     have ht_ := tm i (allO (whole c)).length hw_.1
     have hp_ : 0 < nr.1.D.length := by rw [hq_nr]; exact near_pos (by rw [← hq_nr]; exact eq_of_bne_false ‹(nr.2 != 0) = false›)
     have hu_ := tm i nr.1.D.length hp_
     have hm1_ := of_decide_eq_false ‹decide (many > 24) = false›
     by_cases h6 : out = []
     ·
      refine Awp.wordsR [(12, .sl 38 0 ((allO (whole c)).length) 1 false), (14, sS (some out.isEmpty) (eI .i64) out), (42, .pv (.lit (.int .i64 many))), (43, .pv (.lit (.int .i64 (i : Int))))] [(38, .cells (encC (eI .i64) (sortInts (allO (whole c)) (fun x0 x1 => triesF x0 x1 c))))] [38] (WeakerR.ofL (Ks := [38]) hI ⟨⟨rfl, rfl⟩, ⟨(by exact grow_at_nil (b := 900) (e := (eI .i64)) (l := out) rfl h6), rfl⟩, ⟨rfl, rfl⟩, ⟨rfl, rfl⟩, trivial⟩ (okH_list (look_nil h6 rfl) rfl rfl (okH_nil)) rfl) ?_
      refine Awp.consP C ?_
      refine rvP C (.pv (.lit (.bool (decide ((i : Int) < many))))) ?_
      refine rvc_nil ?_
      refine Awp.seq ?_
      refine Awp.cond (b := (decide ((i : Int) < many))) rfl (fun h7 => ?_) (fun h7 => ?_)
      ·
       have h8 : i < many.toNat := by have := of_decide_eq_true h7; omega
       obtain ⟨k, h9⟩ : ∃ k, many.toNat - i = k + 1 := ⟨many.toNat - i - 1, by omega⟩
       rw [h9] at hR
       refine Awp.skip ?_
       refine Awp.seq ?_
       refine Awp.block ?_
       refine Awp.consP C ?_
       refine rvP C (.pv (.lit (.int .i64 (i : Int)))) ?_
       refine rvP C (.pv (.lit (.int .i64 (i : Int)))) ?_
       refine rvc_nil ?_
       refine Awp.regionP C ?_
       refine rvP C (sS (some out.isEmpty) (eI .i64) out) ?_
       refine rvP C (.sl 38 0 ((allO (whole c)).length) 1 false) ?_
       refine rvP C (.pv (.lit (.int .i64 (i : Int)))) ?_
       refine rvP C (.sl 38 0 ((allO (whole c)).length) 1 false) ?_
       refine rvP C (.pv (.lit (.int .i64 (((allO (whole c)).length) : Int)))) ?_
       refine rvc_un (rexec_prim C (δ := { v := .pv (.lit (.int .i64 ((i : Int).tmod (((allO (whole c)).length) : Int)))) }) rfl rfl rfl rfl (by omega) rfl ?_)
       have h10 : (sortInts (allO (whole c)) (fun x0 x1 => triesF x0 x1 c))[((i : Int).tmod (((allO (whole c)).length) : Int)).toNat]? = some (sortInts (allO (whole c)) (fun x0 x1 => triesF x0 x1 c))[((i : Int).tmod (((allO (whole c)).length) : Int)).toNat]! := getE (by omega)
       refine rvc_un (rexec_prim C (δ := { v := .ptr 38 (0 + ((i : Int).tmod (((allO (whole c)).length) : Int)).toNat * 1) }) rfl rfl rfl rfl ⟨(by have := eq_of_bne_false h1; have := of_decide_eq_false h2; have := of_decide_eq_false h3; have := of_decide_eq_true h7; omega), getlt h10 (by first | rfl | omega | (have := eq_of_bne_false h1; have := of_decide_eq_false h2; have := of_decide_eq_false h3; have := of_decide_eq_true h7; omega)) (by first | rfl | omega | simp)⟩ rfl ?_)
       refine rvc_un (rexec_loadE C (e := (eI .i64)) (((i : Int).tmod (((allO (whole c)).length) : Int)).toNat) 0 ((sortInts (allO (whole c)) (fun x0 x1 => triesF x0 x1 c))[((i : Int).tmod (((allO (whole c)).length) : Int)).toNat]!) (.pv (.lit (.int .i64 ((sortInts (allO (whole c)) (fun x0 x1 => triesF x0 x1 c))[((i : Int).tmod (((allO (whole c)).length) : Int)).toNat]!)))) rfl rfl rfl rfl h10 (by simp [eI]) (by decide) (by decide) rfl ?_)
       refine rvc_un (rexec_buildSliceF C (eI .i64) [(sortInts (allO (whole c)) (fun x0 x1 => triesF x0 x1 c))[((i : Int).tmod (((allO (whole c)).length) : Int)).toNat]!] rfl rfl rfl rfl rfl rfl rfl (by decide) rfl ?_)
       refine rvc_un (rexec_appendG C rfl rfl rfl rfl rfl rfl rfl rfl (fun _ h => by cases h) rfl (en := (eI .i64)) (l := out) (D := [(sortInts (allO (whole c)) (fun x0 x1 => triesF x0 x1 c))[((i : Int).tmod (((allO (whole c)).length) : Int)).toNat]!]) rfl rfl h6 (by rw [h6]; rfl) (by simp) (by have := eq_of_bne_false h1; have := of_decide_eq_false h2; have := of_decide_eq_false h3; have := of_decide_eq_true h7; first | omega | (simp <;> omega)) (by decide) (nn := (out ++ [(sortInts (allO (whole c)) (fun x0 x1 => triesF x0 x1 c))[((i : Int).tmod (((allO (whole c)).length) : Int)).toNat]!]).length) (by simp) ?_)
       refine rvP C (.sl 55 0 ((out ++ [(sortInts (allO (whole c)) (fun x0 x1 => triesF x0 x1 c))[((i : Int).tmod (((allO (whole c)).length) : Int)).toNat]!]).length) 1 false) ?_
       refine rvc_nil ?_
       refine Awp.regionP C ?_
       refine rvP C (.pv (.lit (.int .i64 (IntKind.i64.wrap ((i : Int) + 1))))) ?_
       refine rvP C (.pv (.lit (.int .i64 (IntKind.i64.wrap ((i : Int) + 1))))) ?_
       refine rvc_nil ?_
       refine ⟨h8, (out ++ [(sortInts (allO (whole c)) (fun x0 x1 => triesF x0 x1 c))[((i : Int).tmod (((allO (whole c)).length) : Int)).toNat]!]), ?_, ?_⟩
       · exact ⟨(by rw [show many.toNat - (i + 1) = k by omega]; exact hR), (by first | omega | (simp <;> omega))⟩
       · exact ⟨fun b => bif b == 900 then 55 else (fun b => b) b, WeakerR.ofL (Ks := [38, 900]) hI ⟨⟨rfl, rfl⟩, ⟨grow_to rfl rfl (by simp) rfl rfl, grow_within rfl⟩, ⟨rfl, rfl⟩, ⟨lit_cast (wrap_i64 (by omega) (by omega)), rfl⟩, trivial⟩ (okH_grow (fun _ => rfl) rfl rfl (okH_list rfl rfl rfl (okH_nil))) rfl⟩
      ·
       rw [show many.toNat - i = 0 by have := of_decide_eq_false h7; omega] at hR
       refine Awp.exit ?_
       refine Awp.consP C ?_
       refine rvP C (sS (some out.isEmpty) (eI .i64) out) ?_
       refine rvP C (sS (some out.isEmpty) (eI .i64) out) ?_
       refine rvP C (.pv (.lit (.int .i64 0))) ?_
       refine rvc_nil ?_
       refine Awp.ret ?_
       subst hR
       exact ⟨.inl rfl, rfl⟩
     ·
      refine Awp.wordsR [(12, .sl 38 0 ((allO (whole c)).length) 1 false), (14, .sl 900 0 out.length 1 false), (42, .pv (.lit (.int .i64 many))), (43, .pv (.lit (.int .i64 (i : Int))))] [(900, .cells (encC (eI .i64) out)), (38, .cells (encC (eI .i64) (sortInts (allO (whole c)) (fun x0 x1 => triesF x0 x1 c))))] [38, 900] (WeakerR.ofL (Ks := [38, 900]) hI ⟨⟨rfl, rfl⟩, ⟨(by exact grow_at_cons (b := 900) (b' := 900) (e := (eI .i64)) (l := out) rfl h6 rfl rfl rfl), rfl⟩, ⟨rfl, rfl⟩, ⟨rfl, rfl⟩, trivial⟩ (okH_list (look_cons h6 rfl) rfl rfl (okH_list (look_cons h6 rfl) rfl rfl (okH_nil))) rfl) ?_
      refine Awp.consP C ?_
      refine rvP C (.pv (.lit (.bool (decide ((i : Int) < many))))) ?_
      refine rvc_nil ?_
      refine Awp.seq ?_
      refine Awp.cond (b := (decide ((i : Int) < many))) rfl (fun h11 => ?_) (fun h11 => ?_)
      ·
       have h12 : i < many.toNat := by have := of_decide_eq_true h11; omega
       obtain ⟨k, h13⟩ : ∃ k, many.toNat - i = k + 1 := ⟨many.toNat - i - 1, by omega⟩
       rw [h13] at hR
       refine Awp.skip ?_
       refine Awp.seq ?_
       refine Awp.block ?_
       refine Awp.consP C ?_
       refine rvP C (.pv (.lit (.int .i64 (i : Int)))) ?_
       refine rvP C (.pv (.lit (.int .i64 (i : Int)))) ?_
       refine rvc_nil ?_
       refine Awp.regionP C ?_
       refine rvP C (.sl 900 0 out.length 1 false) ?_
       refine rvP C (.sl 38 0 ((allO (whole c)).length) 1 false) ?_
       refine rvP C (.pv (.lit (.int .i64 (i : Int)))) ?_
       refine rvP C (.sl 38 0 ((allO (whole c)).length) 1 false) ?_
       refine rvP C (.pv (.lit (.int .i64 (((allO (whole c)).length) : Int)))) ?_
       refine rvc_un (rexec_prim C (δ := { v := .pv (.lit (.int .i64 ((i : Int).tmod (((allO (whole c)).length) : Int)))) }) rfl rfl rfl rfl (by omega) rfl ?_)
       have h14 : (sortInts (allO (whole c)) (fun x0 x1 => triesF x0 x1 c))[((i : Int).tmod (((allO (whole c)).length) : Int)).toNat]? = some (sortInts (allO (whole c)) (fun x0 x1 => triesF x0 x1 c))[((i : Int).tmod (((allO (whole c)).length) : Int)).toNat]! := getE (by omega)
       refine rvc_un (rexec_prim C (δ := { v := .ptr 38 (0 + ((i : Int).tmod (((allO (whole c)).length) : Int)).toNat * 1) }) rfl rfl rfl rfl ⟨(by have := eq_of_bne_false h1; have := of_decide_eq_false h2; have := of_decide_eq_false h3; have := of_decide_eq_true h11; omega), getlt h14 (by first | rfl | omega | (have := eq_of_bne_false h1; have := of_decide_eq_false h2; have := of_decide_eq_false h3; have := of_decide_eq_true h11; omega)) (by first | rfl | omega | simp)⟩ rfl ?_)
       refine rvc_un (rexec_loadE C (e := (eI .i64)) (((i : Int).tmod (((allO (whole c)).length) : Int)).toNat) 0 ((sortInts (allO (whole c)) (fun x0 x1 => triesF x0 x1 c))[((i : Int).tmod (((allO (whole c)).length) : Int)).toNat]!) (.pv (.lit (.int .i64 ((sortInts (allO (whole c)) (fun x0 x1 => triesF x0 x1 c))[((i : Int).tmod (((allO (whole c)).length) : Int)).toNat]!)))) rfl rfl rfl rfl h14 (by simp [eI]) (by decide) (by decide) rfl ?_)
       refine rvc_un (rexec_buildSliceF C (eI .i64) [(sortInts (allO (whole c)) (fun x0 x1 => triesF x0 x1 c))[((i : Int).tmod (((allO (whole c)).length) : Int)).toNat]!] rfl rfl rfl rfl rfl rfl rfl (by decide) rfl ?_)
       refine rvc_un (rexec_append C rfl rfl rfl rfl rfl rfl rfl rfl (fun _ h => by cases h) rfl (en := (eI .i64)) (D0 := out) (D := [(sortInts (allO (whole c)) (fun x0 x1 => triesF x0 x1 c))[((i : Int).tmod (((allO (whole c)).length) : Int)).toNat]!]) rfl rfl rfl rfl (by have := eq_of_bne_false h1; have := of_decide_eq_false h2; have := of_decide_eq_false h3; have := of_decide_eq_true h11; first | omega | (simp <;> omega)) (by decide) (nn := (out ++ [(sortInts (allO (whole c)) (fun x0 x1 => triesF x0 x1 c))[((i : Int).tmod (((allO (whole c)).length) : Int)).toNat]!]).length) (by simp) ?_)
       refine rvP C (.sl 55 0 ((out ++ [(sortInts (allO (whole c)) (fun x0 x1 => triesF x0 x1 c))[((i : Int).tmod (((allO (whole c)).length) : Int)).toNat]!]).length) 1 false) ?_
       refine rvc_nil ?_
       refine Awp.regionP C ?_
       refine rvP C (.pv (.lit (.int .i64 (IntKind.i64.wrap ((i : Int) + 1))))) ?_
       refine rvP C (.pv (.lit (.int .i64 (IntKind.i64.wrap ((i : Int) + 1))))) ?_
       refine rvc_nil ?_
       refine ⟨h12, (out ++ [(sortInts (allO (whole c)) (fun x0 x1 => triesF x0 x1 c))[((i : Int).tmod (((allO (whole c)).length) : Int)).toNat]!]), ?_, ?_⟩
       · exact ⟨(by rw [show many.toNat - (i + 1) = k by omega]; exact hR), (by first | omega | (simp <;> omega))⟩
       · exact ⟨fun b => bif b == 900 then 55 else (fun b => b) b, WeakerR.ofL (Ks := [38, 900]) hI ⟨⟨rfl, rfl⟩, ⟨grow_to rfl rfl (by simp) rfl rfl, grow_within rfl⟩, ⟨rfl, rfl⟩, ⟨lit_cast (wrap_i64 (by omega) (by omega)), rfl⟩, trivial⟩ (okH_grow (fun _ => rfl) rfl rfl (okH_list rfl rfl rfl (okH_nil))) rfl⟩
      ·
       rw [show many.toNat - i = 0 by have := of_decide_eq_false h11; omega] at hR
       refine Awp.exit ?_
       refine Awp.consP C ?_
       refine rvP C (.sl 900 0 out.length 1 false) ?_
       refine rvP C (.sl 900 0 out.length 1 false) ?_
       refine rvP C (.pv (.lit (.int .i64 0))) ?_
       refine rvc_nil ?_
       refine Awp.freezeW 900 (encL (eI .i64) out) ?_ [(10, sS (some out.isEmpty) (eI .i64) out), (11, .pv (.lit (.int .i64 0)))] [(38, .cells (encC (eI .i64) (sortInts (allO (whole c)) (fun x0 x1 => triesF x0 x1 c))))] ?_ ?_ ?_
       · rfl
       · exact ⟨⟨_, rfl, .inl (.inr ⟨_, _, _, rfl, by rw [ne_isEmpty h6]; rfl⟩)⟩, ⟨_, rfl, .inl (.inl rfl)⟩, trivial⟩
       · exact ⟨⟨(by show (38 : Nat) ≠ 900; decide), .inl rfl⟩, trivial⟩
       refine Awp.ret ?_
       subst hR
       exact ⟨.inl rfl, rfl⟩
    ·
     replace hR := of_false h4 hR
     refine Awp.skip ?_
     refine Awp.consP C ?_
     refine rvP C (sS (some true) (eI .i64) []) ?_
     refine rvc_nil ?_
     refine Awp.seq ?_
     refine Awp.consP C ?_
     refine rvP C (.pv (.lit (.int .i64 many))) ?_
     refine rvP C (.pv (.lit (.int .i64 0))) ?_
     refine rvc_nil ?_
     refine Awp.block ?_
     refine Awp.forR (σ := ((List Int))) (many.toNat) (fun i1 v => [(12, sS (some nr.1.nil) (eI .i64) nr.1.D), (14, grow 901 (eI .i64) v), (42, .pv (.lit (.int .i64 many))), (43, .pv (.lit (.int .i64 (i1 : Int))))]) (fun i1 v => (growH 901 (eI .i64) v ++ ([]))) [901] (fun i1 v => (tries_l0b nr (many.toNat - i1) i1 v = R) ∧ (v.length ≤ i1)) [] ?_ ?_ (fun i1 out1 h15 hR => ?_)
     · exact ⟨hR, (by first | omega | (simp <;> omega))⟩
     · exact ⟨fun b => b, WeakerR.ofL (Ks := [901]) hI ⟨⟨rfl, rfl⟩, ⟨rfl, rfl⟩, ⟨rfl, rfl⟩, ⟨rfl, rfl⟩, trivial⟩ (okH_grow (fun hne => absurd rfl hne) rfl rfl (okH_nil)) rfl⟩
     obtain ⟨hR, hi_out1⟩ := hR
     replace hi_out1 : out1.length ≤ i1 := hi_out1
     have hw_ := full_facts (able_ok (near_ok (by rw [← hq_nr]; exact eq_of_bne_false ‹(nr.2 != 0) = false›))).1
     have ht_ := tm i1 (allO (whole c)).length hw_.1
     have hp_ : 0 < nr.1.D.length := by rw [hq_nr]; exact near_pos (by rw [← hq_nr]; exact eq_of_bne_false ‹(nr.2 != 0) = false›)
     have hu_ := tm i1 nr.1.D.length hp_
     have hm1_ := of_decide_eq_false ‹decide (many > 24) = false›
     by_cases h16 : out1 = []
     ·
      refine Awp.wordsR [(12, sS (some nr.1.nil) (eI .i64) nr.1.D), (14, sS (some out1.isEmpty) (eI .i64) out1), (42, .pv (.lit (.int .i64 many))), (43, .pv (.lit (.int .i64 (i1 : Int))))] [] [] (WeakerR.ofL (Ks := []) hI ⟨⟨rfl, rfl⟩, ⟨(by exact grow_at_nil (b := 901) (e := (eI .i64)) (l := out1) rfl h16), rfl⟩, ⟨rfl, rfl⟩, ⟨rfl, rfl⟩, trivial⟩ (okH_nil) rfl) ?_
      refine Awp.consP C ?_
      refine rvP C (.pv (.lit (.bool (decide ((i1 : Int) < many))))) ?_
      refine rvc_nil ?_
      refine Awp.seq ?_
      refine Awp.cond (b := (decide ((i1 : Int) < many))) rfl (fun h17 => ?_) (fun h17 => ?_)
      ·
       have h18 : i1 < many.toNat := by have := of_decide_eq_true h17; omega
       obtain ⟨k1, h19⟩ : ∃ k, many.toNat - i1 = k + 1 := ⟨many.toNat - i1 - 1, by omega⟩
       rw [h19] at hR
       refine Awp.skip ?_
       refine Awp.seq ?_
       refine Awp.block ?_
       refine Awp.consP C ?_
       refine rvP C (.pv (.lit (.int .i64 (i1 : Int)))) ?_
       refine rvP C (.pv (.lit (.int .i64 (i1 : Int)))) ?_
       refine rvc_nil ?_
       refine Awp.regionP C ?_
       refine rvP C (sS (some out1.isEmpty) (eI .i64) out1) ?_
       refine rvP C (sS (some nr.1.nil) (eI .i64) nr.1.D) ?_
       refine rvP C (.pv (.lit (.int .i64 (i1 : Int)))) ?_
       refine rvP C (sS (some nr.1.nil) (eI .i64) nr.1.D) ?_
       refine rvP C (.pv (.lit (.int .i64 (nr.1.D.length : Int)))) ?_
       refine rvc_un (rexec_prim C (δ := { v := .pv (.lit (.int .i64 ((i1 : Int).tmod (nr.1.D.length : Int)))) }) rfl rfl rfl rfl (by omega) rfl ?_)
       have h20 : nr.1.D[((i1 : Int).tmod (nr.1.D.length : Int)).toNat]? = some nr.1.D[((i1 : Int).tmod (nr.1.D.length : Int)).toNat]! := getE (by omega)
       refine rvc_un (rexec_idxS C rfl rfl rfl rfl rfl rfl (nr.1.D[((i1 : Int).tmod (nr.1.D.length : Int)).toNat]!) (by have := eq_of_bne_false h1; have := of_decide_eq_false h2; have := of_decide_eq_false h3; have := of_decide_eq_true h17; omega) h20 ?_)
       refine rvP C (.pv (.lit (.int .i64 (nr.1.D[((i1 : Int).tmod (nr.1.D.length : Int)).toNat]!)))) ?_
       refine rvc_un (rexec_buildSliceF C (eI .i64) [nr.1.D[((i1 : Int).tmod (nr.1.D.length : Int)).toNat]!] rfl rfl rfl rfl rfl rfl rfl (by decide) rfl ?_)
       refine rvc_un (rexec_appendG C rfl rfl rfl rfl rfl rfl rfl rfl (fun _ h => by cases h) rfl (en := (eI .i64)) (l := out1) (D := [nr.1.D[((i1 : Int).tmod (nr.1.D.length : Int)).toNat]!]) rfl rfl h16 (by rw [h16]; rfl) (by simp) (by have := eq_of_bne_false h1; have := of_decide_eq_false h2; have := of_decide_eq_false h3; have := of_decide_eq_true h17; first | omega | (simp <;> omega)) (by decide) (nn := (out1 ++ [nr.1.D[((i1 : Int).tmod (nr.1.D.length : Int)).toNat]!]).length) (by simp) ?_)
       refine rvP C (.sl 55 0 ((out1 ++ [nr.1.D[((i1 : Int).tmod (nr.1.D.length : Int)).toNat]!]).length) 1 false) ?_
       refine rvc_nil ?_
       refine Awp.regionP C ?_
       refine rvP C (.pv (.lit (.int .i64 (IntKind.i64.wrap ((i1 : Int) + 1))))) ?_
       refine rvP C (.pv (.lit (.int .i64 (IntKind.i64.wrap ((i1 : Int) + 1))))) ?_
       refine rvc_nil ?_
       refine ⟨h18, (out1 ++ [nr.1.D[((i1 : Int).tmod (nr.1.D.length : Int)).toNat]!]), ?_, ?_⟩
       · exact ⟨(by rw [show many.toNat - (i1 + 1) = k1 by omega]; exact hR), (by first | omega | (simp <;> omega))⟩
       · exact ⟨fun b => bif b == 901 then 55 else (fun b => b) b, WeakerR.ofL (Ks := [901]) hI ⟨⟨rfl, rfl⟩, ⟨grow_to rfl rfl (by simp) rfl rfl, grow_within rfl⟩, ⟨rfl, rfl⟩, ⟨lit_cast (wrap_i64 (by omega) (by omega)), rfl⟩, trivial⟩ (okH_grow (fun _ => rfl) rfl rfl (okH_nil)) rfl⟩
      ·
       rw [show many.toNat - i1 = 0 by have := of_decide_eq_false h17; omega] at hR
       refine Awp.exit ?_
       refine Awp.consP C ?_
       refine rvP C (sS (some out1.isEmpty) (eI .i64) out1) ?_
       refine rvP C (sS (some out1.isEmpty) (eI .i64) out1) ?_
       refine rvP C (.pv (.lit (.int .i64 0))) ?_
       refine rvc_nil ?_
       refine Awp.ret ?_
       subst hR
       exact ⟨.inl rfl, rfl⟩
     ·
      refine Awp.wordsR [(12, sS (some nr.1.nil) (eI .i64) nr.1.D), (14, .sl 901 0 out1.length 1 false), (42, .pv (.lit (.int .i64 many))), (43, .pv (.lit (.int .i64 (i1 : Int))))] [(901, .cells (encC (eI .i64) out1))] [901] (WeakerR.ofL (Ks := [901]) hI ⟨⟨rfl, rfl⟩, ⟨(by exact grow_at_cons (b := 901) (b' := 901) (e := (eI .i64)) (l := out1) rfl h16 rfl rfl rfl), rfl⟩, ⟨rfl, rfl⟩, ⟨rfl, rfl⟩, trivial⟩ (okH_list (look_cons h16 rfl) rfl rfl (okH_nil)) rfl) ?_
      refine Awp.consP C ?_
      refine rvP C (.pv (.lit (.bool (decide ((i1 : Int) < many))))) ?_
      refine rvc_nil ?_
      refine Awp.seq ?_
      refine Awp.cond (b := (decide ((i1 : Int) < many))) rfl (fun h21 => ?_) (fun h21 => ?_)
      ·
       have h22 : i1 < many.toNat := by have := of_decide_eq_true h21; omega
       obtain ⟨k1, h23⟩ : ∃ k, many.toNat - i1 = k + 1 := ⟨many.toNat - i1 - 1, by omega⟩
       rw [h23] at hR
       refine Awp.skip ?_
       refine Awp.seq ?_
       refine Awp.block ?_
       refine Awp.consP C ?_
       refine rvP C (.pv (.lit (.int .i64 (i1 : Int)))) ?_
       refine rvP C (.pv (.lit (.int .i64 (i1 : Int)))) ?_
       refine rvc_nil ?_
       refine Awp.regionP C ?_
       refine rvP C (.sl 901 0 out1.length 1 false) ?_
       refine rvP C (sS (some nr.1.nil) (eI .i64) nr.1.D) ?_
       refine rvP C (.pv (.lit (.int .i64 (i1 : Int)))) ?_
       refine rvP C (sS (some nr.1.nil) (eI .i64) nr.1.D) ?_
       refine rvP C (.pv (.lit (.int .i64 (nr.1.D.length : Int)))) ?_
       refine rvc_un (rexec_prim C (δ := { v := .pv (.lit (.int .i64 ((i1 : Int).tmod (nr.1.D.length : Int)))) }) rfl rfl rfl rfl (by omega) rfl ?_)
       have h24 : nr.1.D[((i1 : Int).tmod (nr.1.D.length : Int)).toNat]? = some nr.1.D[((i1 : Int).tmod (nr.1.D.length : Int)).toNat]! := getE (by omega)
       refine rvc_un (rexec_idxS C rfl rfl rfl rfl rfl rfl (nr.1.D[((i1 : Int).tmod (nr.1.D.length : Int)).toNat]!) (by have := eq_of_bne_false h1; have := of_decide_eq_false h2; have := of_decide_eq_false h3; have := of_decide_eq_true h21; omega) h24 ?_)
       refine rvP C (.pv (.lit (.int .i64 (nr.1.D[((i1 : Int).tmod (nr.1.D.length : Int)).toNat]!)))) ?_
       refine rvc_un (rexec_buildSliceF C (eI .i64) [nr.1.D[((i1 : Int).tmod (nr.1.D.length : Int)).toNat]!] rfl rfl rfl rfl rfl rfl rfl (by decide) rfl ?_)
       refine rvc_un (rexec_append C rfl rfl rfl rfl rfl rfl rfl rfl (fun _ h => by cases h) rfl (en := (eI .i64)) (D0 := out1) (D := [nr.1.D[((i1 : Int).tmod (nr.1.D.length : Int)).toNat]!]) rfl rfl rfl rfl (by have := eq_of_bne_false h1; have := of_decide_eq_false h2; have := of_decide_eq_false h3; have := of_decide_eq_true h21; first | omega | (simp <;> omega)) (by decide) (nn := (out1 ++ [nr.1.D[((i1 : Int).tmod (nr.1.D.length : Int)).toNat]!]).length) (by simp) ?_)
       refine rvP C (.sl 55 0 ((out1 ++ [nr.1.D[((i1 : Int).tmod (nr.1.D.length : Int)).toNat]!]).length) 1 false) ?_
       refine rvc_nil ?_
       refine Awp.regionP C ?_
       refine rvP C (.pv (.lit (.int .i64 (IntKind.i64.wrap ((i1 : Int) + 1))))) ?_
       refine rvP C (.pv (.lit (.int .i64 (IntKind.i64.wrap ((i1 : Int) + 1))))) ?_
       refine rvc_nil ?_
       refine ⟨h22, (out1 ++ [nr.1.D[((i1 : Int).tmod (nr.1.D.length : Int)).toNat]!]), ?_, ?_⟩
       · exact ⟨(by rw [show many.toNat - (i1 + 1) = k1 by omega]; exact hR), (by first | omega | (simp <;> omega))⟩
       · exact ⟨fun b => bif b == 901 then 55 else (fun b => b) b, WeakerR.ofL (Ks := [901]) hI ⟨⟨rfl, rfl⟩, ⟨grow_to rfl rfl (by simp) rfl rfl, grow_within rfl⟩, ⟨rfl, rfl⟩, ⟨lit_cast (wrap_i64 (by omega) (by omega)), rfl⟩, trivial⟩ (okH_grow (fun _ => rfl) rfl rfl (okH_nil)) rfl⟩
      ·
       rw [show many.toNat - i1 = 0 by have := of_decide_eq_false h21; omega] at hR
       refine Awp.exit ?_
       refine Awp.consP C ?_
       refine rvP C (.sl 901 0 out1.length 1 false) ?_
       refine rvP C (.sl 901 0 out1.length 1 false) ?_
       refine rvP C (.pv (.lit (.int .i64 0))) ?_
       refine rvc_nil ?_
       refine Awp.freezeW 901 (encL (eI .i64) out1) ?_ [(10, sS (some out1.isEmpty) (eI .i64) out1), (11, .pv (.lit (.int .i64 0)))] [] ?_ ?_ ?_
       · rfl
       · exact ⟨⟨_, rfl, .inl (.inr ⟨_, _, _, rfl, by rw [ne_isEmpty h16]; rfl⟩)⟩, ⟨_, rfl, .inl (.inl rfl)⟩, trivial⟩
       · exact trivial
       refine Awp.ret ?_
       subst hR
       exact ⟨.inl rfl, rfl⟩
end Go.Proofs.Ytihccnkegkkikaa
/- The reference: whom one asks, for a read. No conditions. -/
namespace Go.Proofs.Ytihccnkegkkikaa
open Go.Am
def rTriesR_l1 (many : Int) (kk : (List Int) → ((Sl Int) × Int)) : List Int → Nat → (List Int) → (Sl Int) × Int
  | [], _, out1 => kk out1
  | x :: xs, i, out1 => (bif (decide ((out1.length : Int) < many)) then rTriesR_l1 many kk xs (i + 1) (out1 ++ [x]) else rTriesR_l1 many kk xs (i + 1) out1)
def rTriesR_l0 (many : Int) (nr : (Sl Int) × Int) : Nat → (List Int) → (Sl Int) × Int
  | 0, _ => default
  | nn + 1, out => (bif (decide ((out.length : Int) < many)) then rTriesR_l1 many (fun out2 => rTriesR_l0 many nr nn out2) nr.1.D 0 out else ((Sl.mk out.isEmpty out), 0))
def rTriesR (c : Chain) (w : (Nat → (Nat → Int))) (from_ : Int) (_write : Bool) (many : Int) : (Sl Int) × Int :=
  (bif ((rNear c w from_).2 != 0) then ((Sl.mk true []), (rNear c w from_).2) else (bif (decide (many < 0)) then ((Sl.mk true []), 1) else (bif (decide (many > 24)) then ((Sl.mk true []), 1) else rTriesR_l0 many (rNear c w from_) ((many.toNat - ([] : List Int).length) + 1) [])))
theorem rTriesR_calls (c : Chain) (w : (Nat → (Nat → Int))) (from_ : Int) (write : Bool) (many : Int) (hwr : write = false) (hl1 : c.members.D.length ≤ 1000000) : PCalls Try.prog 36 [.agg [.pv (.lit (.int .i64 c.epoch)), sS (some c.members.nil) eMember c.members.D], .agg [.pv (.lit (.int .i64 ((w 0) 0))), .pv (.lit (.int .i64 ((w 0) 1))), .pv (.lit (.int .i64 ((w 0) 2))), .pv (.lit (.int .i64 ((w 1) 0))), .pv (.lit (.int .i64 ((w 1) 1))), .pv (.lit (.int .i64 ((w 1) 2))), .pv (.lit (.int .i64 ((w 2) 0))), .pv (.lit (.int .i64 ((w 2) 1))), .pv (.lit (.int .i64 ((w 2) 2)))], .pv (.lit (.int .i64 from_)), .pv (.lit (.bool write)), .pv (.lit (.int .i64 many))] (.tup [sS (some (rTriesR c w from_ write many).1.nil) (eI .i64) ((rTriesR c w from_ write many).1.D), .pv (.lit (.int .i64 ((rTriesR c w from_ write many).2)))]) := by
 generalize hR : rTriesR c w from_ write many = R
 refine PCalls.of_body tabOk Try.func36 rfl rfl rfl rfl rfl mixed fun E hP C hI => ?_
 refine Awp.consP C ?_
 refine rvc_un (rexec_prim C (δ := { v := .ptr 5 0, new := [(5, .cells [.pv (.lit (.int .i64 c.epoch)), sS (some c.members.nil) eMember c.members.D])] }) rfl rfl rfl rfl trivial rfl ?_)
 refine rvc_un (rexec_prim C (δ := { v := .ptr 6 0, new := [(6, .cells [.pv (.lit (.int .i64 ((w 0) 0))), .pv (.lit (.int .i64 ((w 0) 1))), .pv (.lit (.int .i64 ((w 0) 2))), .pv (.lit (.int .i64 ((w 1) 0))), .pv (.lit (.int .i64 ((w 1) 1))), .pv (.lit (.int .i64 ((w 1) 2))), .pv (.lit (.int .i64 ((w 2) 0))), .pv (.lit (.int .i64 ((w 2) 1))), .pv (.lit (.int .i64 ((w 2) 2)))])] }) rfl rfl rfl rfl trivial rfl ?_)
 refine rvP C (sS (some true) (eI .i64) []) ?_
 refine rvP C (.pv (.lit (.int .i64 0))) ?_
 refine rvc_nil ?_
 refine Awp.consP C ?_
 refine rvP C (.agg [.pv (.lit (.int .i64 c.epoch)), sS (some c.members.nil) eMember c.members.D]) ?_
 refine rvP C (.agg [.pv (.lit (.int .i64 ((w 0) 0))), .pv (.lit (.int .i64 ((w 0) 1))), .pv (.lit (.int .i64 ((w 0) 2))), .pv (.lit (.int .i64 ((w 1) 0))), .pv (.lit (.int .i64 ((w 1) 1))), .pv (.lit (.int .i64 ((w 1) 2))), .pv (.lit (.int .i64 ((w 2) 0))), .pv (.lit (.int .i64 ((w 2) 1))), .pv (.lit (.int .i64 ((w 2) 2)))]) ?_
 refine rvP C (.pv (.lit (.int .i64 from_))) ?_
 obtain ⟨nr, hq_nr⟩ : ∃ q_, q_ = (rNear c w from_) := ⟨_, rfl⟩
 have hc_nr := (rNear_calls c w from_ hl1)
 first | rw [← hq_nr] at hR hc_nr | (unfold rTriesR at hR; rw [← hq_nr] at hR hc_nr)
 have hf0_nr := rNear_len c w from_
 rw [← hq_nr] at hf0_nr
 refine rvc_un (rexec_call hP C rfl rfl rfl hc_nr ?_)
 refine rvP C (.tup [sS (some nr.1.nil) (eI .i64) nr.1.D, .pv (.lit (.int .i64 nr.2))]) ?_
 refine rvP C (sS (some nr.1.nil) (eI .i64) nr.1.D) ?_
 refine rvP C (.pv (.lit (.int .i64 nr.2))) ?_
 refine rvP C (sS (some nr.1.nil) (eI .i64) nr.1.D) ?_
 refine rvP C (.pv (.lit (.int .i64 nr.2))) ?_
 refine rvc_nil ?_
 refine Awp.seq ?_
 refine Awp.consP C ?_
 refine rvP C (.pv (.lit (.int .i64 nr.2))) ?_
 refine rvP C (.pv (.lit (.bool (nr.2 != 0)))) ?_
 refine rvc_nil ?_
 refine Awp.cond (b := (nr.2 != 0)) rfl (fun h1 => ?_) (fun h1 => ?_)
 ·
  replace hR := of_true h1 hR
  refine Awp.consP C ?_
  refine rvP C (.pv (.lit (.int .i64 nr.2))) ?_
  refine rvP C (sS (some true) (eI .i64) []) ?_
  refine rvP C (.pv (.lit (.int .i64 nr.2))) ?_
  refine rvc_nil ?_
  refine Awp.ret ?_
  subst hR
  exact ⟨.inl rfl, rfl⟩
 ·
  replace hR := of_false h1 hR
  refine Awp.skip ?_
  refine Awp.seq ?_
  refine Awp.consP C ?_
  refine rvP C (.pv (.lit (.int .i64 many))) ?_
  refine rvP C (.pv (.lit (.bool (decide (many < 0))))) ?_
  refine rvP C (.pv (.lit (.bool (decide (many < 0))))) ?_
  refine rvc_case 31 (decide (many < 0)) rfl (fun h2 => ?_) (fun h2 => ?_)
  ·
   replace hR := of_true h2 hR
   refine rvS ?_
   refine rvS ?_
   refine rvP C (.pv (.lit (.bool true))) ?_
   refine rvc_nil ?_
   refine Awp.condT (b := true) rfl rfl ?_
   refine Awp.consP C ?_
   refine rvP C (sS (some true) (eI .i64) []) ?_
   refine rvP C (.pv (.lit (.int .i64 1))) ?_
   refine rvc_nil ?_
   refine Awp.ret ?_
   subst hR
   exact ⟨.inl rfl, rfl⟩
  ·
   replace hR := of_false h2 hR
   refine rvO C (.pv (.lit (.int .i64 many))) ?_
   refine rvO C (.pv (.lit (.bool (decide (many > 24))))) ?_
   refine rvP C (.pv (.lit (.bool (decide (many > 24))))) ?_
   refine rvc_nil ?_
   refine Awp.cond (b := (decide (many > 24))) rfl (fun h3 => ?_) (fun h3 => ?_)
   ·
    replace hR := of_true h3 hR
    refine Awp.consP C ?_
    refine rvP C (sS (some true) (eI .i64) []) ?_
    refine rvP C (.pv (.lit (.int .i64 1))) ?_
    refine rvc_nil ?_
    refine Awp.ret ?_
    subst hR
    exact ⟨.inl rfl, rfl⟩
   ·
    replace hR := of_false h3 hR
    refine Awp.skip ?_
    refine Awp.seq ?_
    refine Awp.consP C ?_
    refine rvP C (.pv (.lit (.bool write))) ?_
    refine rvc_nil ?_
    refine Awp.condF (b := write) rfl hwr ?_
    refine Awp.skip ?_
    refine Awp.consP C ?_
    refine rvP C (sS (some true) (eI .i64) []) ?_
    refine rvc_nil ?_
    refine Awp.seq ?_
    refine Awp.block ?_
    refine Awp.forM (σ := ((List Int))) (fun v => [(4, .pv (.lit (.int .i64 many))), (12, sS (some nr.1.nil) (eI .i64) nr.1.D), (16, grow 900 (eI .i64) v)]) (fun v => (growH 900 (eI .i64) v ++ ([]))) [900] (fun n v => (many.toNat - (v : List Int).length) ≤ n ∧ rTriesR_l0 many nr (n + 1) v = R) ((many.toNat - ([] : List Int).length)) [] ?_ ?_ (fun n_ out h4 => ?_)
    · exact ⟨Nat.le_refl _, hR⟩
    · exact ⟨fun b => b, WeakerR.ofL (Ks := [900]) hI ⟨⟨rfl, rfl⟩, ⟨rfl, rfl⟩, ⟨rfl, rfl⟩, trivial⟩ (okH_grow (fun hne => absurd rfl hne) rfl rfl (okH_nil)) rfl⟩
    obtain ⟨hm_, hR⟩ := h4
    replace hm_ : (many.toNat - (out : List Int).length) ≤ n_ := hm_
    have hp_ : 0 < nr.1.D.length := by rw [hq_nr]; exact rNear_pos (by rw [← hq_nr]; exact eq_of_bne_false ‹(nr.2 != 0) = false›)
    have hm1_ := of_decide_eq_false ‹decide (many > 24) = false›
    by_cases h6 : out = []
    ·
     refine Awp.wordsR [(4, .pv (.lit (.int .i64 many))), (12, sS (some nr.1.nil) (eI .i64) nr.1.D), (16, sS (some out.isEmpty) (eI .i64) out)] [] [] (WeakerR.ofL (Ks := []) hI ⟨⟨rfl, rfl⟩, ⟨rfl, rfl⟩, ⟨(by exact grow_at_nil (b := 900) (e := (eI .i64)) (l := out) rfl h6), rfl⟩, trivial⟩ (okH_nil) rfl) ?_
     refine Awp.seq ?_
     refine Awp.consP C ?_
     refine rvP C (sS (some out.isEmpty) (eI .i64) out) ?_
     refine rvP C (.pv (.lit (.int .i64 (out.length : Int)))) ?_
     refine rvP C (.pv (.lit (.int .i64 many))) ?_
     refine rvP C (.pv (.lit (.bool (decide ((out.length : Int) < many))))) ?_
     refine rvc_nil ?_
     refine Awp.cond (b := (decide ((out.length : Int) < many))) rfl (fun h7 => ?_) (fun h7 => ?_)
     ·
      replace hR := of_true h7 hR
      refine Awp.skip ?_
      refine Awp.block ?_
      refine Awp.consP C ?_
      refine rvP C (sS (some nr.1.nil) (eI .i64) nr.1.D) ?_
      refine rvP C (.pv (.lit (.int .i64 (nr.1.D.length : Int)))) ?_
      refine rvP C (.pv (.lit (.int .i64 0))) ?_
      refine rvc_nil ?_
      refine Awp.block ?_
      refine Awp.forR (σ := ((List Int))) (nr.1.D.length) (fun i v => [(4, .pv (.lit (.int .i64 many))), (12, sS (some nr.1.nil) (eI .i64) nr.1.D), (16, grow 901 (eI .i64) v), (56, sS (some nr.1.nil) (eI .i64) nr.1.D), (57, .pv (.lit (.int .i64 (nr.1.D.length : Int)))), (58, .pv (.lit (.int .i64 (i : Int))))]) (fun i v => (growH 901 (eI .i64) v ++ ([]))) [901] (fun i v => (rTriesR_l1 many (fun out1 => rTriesR_l0 many nr n_ out1) (nr.1.D.drop i) i v = R) ∧ (v.length = min many.toNat ((out : List Int).length + i)) ∧ (v.length ≤ out.length + i)) out ?_ ?_ (fun i out1 h8 hR => ?_)
      · exact ⟨hR, (by have h_ := of_decide_eq_true ‹decide (_ < many) = true›; omega), (by first | omega | (simp <;> omega))⟩
      · exact ⟨fun b => b, WeakerR.ofL (Ks := [901]) hI ⟨⟨rfl, rfl⟩, ⟨rfl, rfl⟩, ⟨grow_to_nil rfl h6 (.inr rfl), grow_within rfl⟩, ⟨rfl, rfl⟩, ⟨rfl, rfl⟩, ⟨rfl, rfl⟩, trivial⟩ (okH_grow (fun hne => absurd h6 hne) rfl rfl (okH_nil)) rfl⟩
      obtain ⟨hR, hV, hi_out1⟩ := hR
      replace hi_out1 : out1.length ≤ out.length + i := hi_out1
      by_cases h9 : out1 = []
      ·
       refine Awp.wordsR [(4, .pv (.lit (.int .i64 many))), (12, sS (some nr.1.nil) (eI .i64) nr.1.D), (16, sS (some out1.isEmpty) (eI .i64) out1), (56, sS (some nr.1.nil) (eI .i64) nr.1.D), (57, .pv (.lit (.int .i64 (nr.1.D.length : Int)))), (58, .pv (.lit (.int .i64 (i : Int))))] [] [] (WeakerR.ofL (Ks := []) hI ⟨⟨rfl, rfl⟩, ⟨rfl, rfl⟩, ⟨(by exact grow_at_nil (b := 901) (e := (eI .i64)) (l := out1) rfl h9), rfl⟩, ⟨rfl, rfl⟩, ⟨rfl, rfl⟩, ⟨rfl, rfl⟩, trivial⟩ (okH_nil) rfl) ?_
       refine Awp.consP C ?_
       refine rvP C (.pv (.lit (.bool (decide ((i : Int) < (nr.1.D.length : Int)))))) ?_
       refine rvc_nil ?_
       refine Awp.seq ?_
       refine Awp.cond (b := (decide ((i : Int) < (nr.1.D.length : Int)))) rfl (fun h10 => ?_) (fun h10 => ?_)
       ·
        have h11 : i < nr.1.D.length := by have := of_decide_eq_true h10; omega
        obtain ⟨x, h12⟩ := getX h11
        rw [drop_at h12] at hR
        refine Awp.skip ?_
        refine Awp.seq ?_
        refine Awp.block ?_
        refine Awp.consP C ?_
        refine rvc_un (rexec_idxS C rfl rfl rfl rfl rfl rfl x (Int.natCast_nonneg _) h12 ?_)
        refine rvP C (.pv (.lit (.int .i64 x))) ?_
        refine rvP C (.pv (.lit (.int .i64 x))) ?_
        refine rvc_nil ?_
        refine Awp.consP C ?_
        refine rvP C (sS (some out1.isEmpty) (eI .i64) out1) ?_
        refine rvP C (.pv (.lit (.int .i64 (out1.length : Int)))) ?_
        refine rvP C (.pv (.lit (.int .i64 many))) ?_
        refine rvP C (.pv (.lit (.bool (decide ((out1.length : Int) < many))))) ?_
        refine rvc_nil ?_
        refine Awp.cond (b := (decide ((out1.length : Int) < many))) rfl (fun h13 => ?_) (fun h13 => ?_)
        ·
         replace hR := of_true h13 hR
         refine Awp.regionP C ?_
         refine rvP C (sS (some out1.isEmpty) (eI .i64) out1) ?_
         refine rvP C (.pv (.lit (.int .i64 x))) ?_
         refine rvc_un (rexec_buildSliceF C (eI .i64) [x] rfl rfl rfl rfl rfl rfl rfl (by decide) rfl ?_)
         refine rvc_un (rexec_appendG C rfl rfl rfl rfl rfl rfl rfl rfl (fun _ h => by cases h) rfl (en := (eI .i64)) (l := out1) (D := [x]) rfl rfl h9 (by rw [h9]; rfl) (by simp) (by have := eq_of_bne_false h1; have := of_decide_eq_false h2; have := of_decide_eq_false h3; have := of_decide_eq_true h7; have := of_decide_eq_true h10; have := of_decide_eq_true h13; first | omega | (simp <;> omega)) (by decide) (nn := (out1 ++ [x]).length) (by simp) ?_)
         refine rvP C (.sl 69 0 ((out1 ++ [x]).length) 1 false) ?_
         refine rvc_nil ?_
         refine Awp.regionP C ?_
         refine rvP C (.pv (.lit (.int .i64 (IntKind.i64.wrap ((i : Int) + 1))))) ?_
         refine rvP C (.pv (.lit (.int .i64 (IntKind.i64.wrap ((i : Int) + 1))))) ?_
         refine rvc_nil ?_
         refine ⟨h11, (out1 ++ [x]), ?_, ?_⟩
         · exact ⟨hR, (by (try simp only [List.length_append, List.length_singleton]); first | (have h_ := of_decide_eq_true ‹decide (_ < many) = true›; omega) | (have h_ := of_decide_eq_false ‹decide (_ < many) = false›; omega)), (by first | omega | (simp <;> omega))⟩
         · exact ⟨fun b => bif b == 901 then 69 else (fun b => b) b, WeakerR.ofL (Ks := [901]) hI ⟨⟨rfl, rfl⟩, ⟨rfl, rfl⟩, ⟨grow_to rfl rfl app_ne rfl rfl, grow_within rfl⟩, ⟨rfl, rfl⟩, ⟨rfl, rfl⟩, ⟨lit_cast (wrap_i64 (by omega) (by omega)), rfl⟩, trivial⟩ (okH_grow (fun _ => rfl) rfl rfl (okH_nil)) rfl⟩
        ·
         replace hR := of_false h13 hR
         refine Awp.skip ?_
         refine Awp.regionP C ?_
         refine rvP C (.pv (.lit (.int .i64 (IntKind.i64.wrap ((i : Int) + 1))))) ?_
         refine rvP C (.pv (.lit (.int .i64 (IntKind.i64.wrap ((i : Int) + 1))))) ?_
         refine rvc_nil ?_
         refine ⟨h11, out1, ?_, ?_⟩
         · exact ⟨hR, (by (try simp only [List.length_append, List.length_singleton]); first | (have h_ := of_decide_eq_true ‹decide (_ < many) = true›; omega) | (have h_ := of_decide_eq_false ‹decide (_ < many) = false›; omega)), (by first | omega | (simp <;> omega))⟩
         · exact ⟨fun b => b, WeakerR.ofL (Ks := [901]) hI ⟨⟨rfl, rfl⟩, ⟨rfl, rfl⟩, ⟨grow_to_nil rfl h9 (.inr rfl), grow_within rfl⟩, ⟨rfl, rfl⟩, ⟨rfl, rfl⟩, ⟨lit_cast (wrap_i64 (by omega) (by omega)), rfl⟩, trivial⟩ (okH_grow (fun hne => absurd h9 hne) rfl rfl (okH_nil)) rfl⟩
       ·
        have h11 : ¬ i < nr.1.D.length := by have := of_decide_eq_false h10; omega
        rw [drop_end h11] at hR
        refine Awp.exit ?_
        have h14 : (many.toNat - (out1 : List Int).length) < (many.toNat - (out : List Int).length) := by (have h_ := of_decide_eq_true ‹decide (_ < many) = true›; omega)
        obtain ⟨nn, rfl⟩ : ∃ nn, n_ = nn + 1 := ⟨n_ - 1, by omega⟩
        refine ⟨nn, out1, by omega, ⟨by show (many.toNat - (out1 : List Int).length) ≤ nn; omega, hR⟩, ?_⟩
        · exact ⟨fun b => b, WeakerR.ofL (Ks := [900]) hI ⟨⟨rfl, rfl⟩, ⟨rfl, rfl⟩, ⟨grow_to_nil rfl h9 (.inr rfl), grow_within rfl⟩, trivial⟩ (okH_grow (fun hne => absurd h9 hne) rfl rfl (okH_nil)) rfl⟩
      ·
       refine Awp.wordsR [(4, .pv (.lit (.int .i64 many))), (12, sS (some nr.1.nil) (eI .i64) nr.1.D), (16, .sl 901 0 out1.length 1 false), (56, sS (some nr.1.nil) (eI .i64) nr.1.D), (57, .pv (.lit (.int .i64 (nr.1.D.length : Int)))), (58, .pv (.lit (.int .i64 (i : Int))))] [(901, .cells (encC (eI .i64) out1))] [901] (WeakerR.ofL (Ks := [901]) hI ⟨⟨rfl, rfl⟩, ⟨rfl, rfl⟩, ⟨(by exact grow_at_cons (b := 901) (b' := 901) (e := (eI .i64)) (l := out1) rfl h9 rfl rfl rfl), rfl⟩, ⟨rfl, rfl⟩, ⟨rfl, rfl⟩, ⟨rfl, rfl⟩, trivial⟩ (okH_list (look_cons h9 rfl) rfl rfl (okH_nil)) rfl) ?_
       refine Awp.consP C ?_
       refine rvP C (.pv (.lit (.bool (decide ((i : Int) < (nr.1.D.length : Int)))))) ?_
       refine rvc_nil ?_
       refine Awp.seq ?_
       refine Awp.cond (b := (decide ((i : Int) < (nr.1.D.length : Int)))) rfl (fun h15 => ?_) (fun h15 => ?_)
       ·
        have h16 : i < nr.1.D.length := by have := of_decide_eq_true h15; omega
        obtain ⟨x, h17⟩ := getX h16
        rw [drop_at h17] at hR
        refine Awp.skip ?_
        refine Awp.seq ?_
        refine Awp.block ?_
        refine Awp.consP C ?_
        refine rvc_un (rexec_idxS C rfl rfl rfl rfl rfl rfl x (Int.natCast_nonneg _) h17 ?_)
        refine rvP C (.pv (.lit (.int .i64 x))) ?_
        refine rvP C (.pv (.lit (.int .i64 x))) ?_
        refine rvc_nil ?_
        refine Awp.consP C ?_
        refine rvP C (.sl 901 0 out1.length 1 false) ?_
        refine rvP C (.pv (.lit (.int .i64 (out1.length : Int)))) ?_
        refine rvP C (.pv (.lit (.int .i64 many))) ?_
        refine rvP C (.pv (.lit (.bool (decide ((out1.length : Int) < many))))) ?_
        refine rvc_nil ?_
        refine Awp.cond (b := (decide ((out1.length : Int) < many))) rfl (fun h18 => ?_) (fun h18 => ?_)
        ·
         replace hR := of_true h18 hR
         refine Awp.regionP C ?_
         refine rvP C (.sl 901 0 out1.length 1 false) ?_
         refine rvP C (.pv (.lit (.int .i64 x))) ?_
         refine rvc_un (rexec_buildSliceF C (eI .i64) [x] rfl rfl rfl rfl rfl rfl rfl (by decide) rfl ?_)
         refine rvc_un (rexec_append C rfl rfl rfl rfl rfl rfl rfl rfl (fun _ h => by cases h) rfl (en := (eI .i64)) (D0 := out1) (D := [x]) rfl rfl rfl rfl (by have := eq_of_bne_false h1; have := of_decide_eq_false h2; have := of_decide_eq_false h3; have := of_decide_eq_true h7; have := of_decide_eq_true h15; have := of_decide_eq_true h18; first | omega | (simp <;> omega)) (by decide) (nn := (out1 ++ [x]).length) (by simp) ?_)
         refine rvP C (.sl 69 0 ((out1 ++ [x]).length) 1 false) ?_
         refine rvc_nil ?_
         refine Awp.regionP C ?_
         refine rvP C (.pv (.lit (.int .i64 (IntKind.i64.wrap ((i : Int) + 1))))) ?_
         refine rvP C (.pv (.lit (.int .i64 (IntKind.i64.wrap ((i : Int) + 1))))) ?_
         refine rvc_nil ?_
         refine ⟨h16, (out1 ++ [x]), ?_, ?_⟩
         · exact ⟨hR, (by (try simp only [List.length_append, List.length_singleton]); first | (have h_ := of_decide_eq_true ‹decide (_ < many) = true›; omega) | (have h_ := of_decide_eq_false ‹decide (_ < many) = false›; omega)), (by first | omega | (simp <;> omega))⟩
         · exact ⟨fun b => bif b == 901 then 69 else (fun b => b) b, WeakerR.ofL (Ks := [901]) hI ⟨⟨rfl, rfl⟩, ⟨rfl, rfl⟩, ⟨grow_to rfl rfl app_ne rfl rfl, grow_within rfl⟩, ⟨rfl, rfl⟩, ⟨rfl, rfl⟩, ⟨lit_cast (wrap_i64 (by omega) (by omega)), rfl⟩, trivial⟩ (okH_grow (fun _ => rfl) rfl rfl (okH_nil)) rfl⟩
        ·
         replace hR := of_false h18 hR
         refine Awp.skip ?_
         refine Awp.regionP C ?_
         refine rvP C (.pv (.lit (.int .i64 (IntKind.i64.wrap ((i : Int) + 1))))) ?_
         refine rvP C (.pv (.lit (.int .i64 (IntKind.i64.wrap ((i : Int) + 1))))) ?_
         refine rvc_nil ?_
         refine ⟨h16, out1, ?_, ?_⟩
         · exact ⟨hR, (by (try simp only [List.length_append, List.length_singleton]); first | (have h_ := of_decide_eq_true ‹decide (_ < many) = true›; omega) | (have h_ := of_decide_eq_false ‹decide (_ < many) = false›; omega)), (by first | omega | (simp <;> omega))⟩
         · exact ⟨fun b => b, WeakerR.ofL (Ks := [901]) hI ⟨⟨rfl, rfl⟩, ⟨rfl, rfl⟩, ⟨grow_to rfl rfl h9 rfl rfl, grow_within rfl⟩, ⟨rfl, rfl⟩, ⟨rfl, rfl⟩, ⟨lit_cast (wrap_i64 (by omega) (by omega)), rfl⟩, trivial⟩ (okH_grow (fun _ => rfl) rfl rfl (okH_nil)) rfl⟩
       ·
        have h16 : ¬ i < nr.1.D.length := by have := of_decide_eq_false h15; omega
        rw [drop_end h16] at hR
        refine Awp.exit ?_
        have h19 : (many.toNat - (out1 : List Int).length) < (many.toNat - (out : List Int).length) := by (have h_ := of_decide_eq_true ‹decide (_ < many) = true›; omega)
        obtain ⟨nn, rfl⟩ : ∃ nn, n_ = nn + 1 := ⟨n_ - 1, by omega⟩
        refine ⟨nn, out1, by omega, ⟨by show (many.toNat - (out1 : List Int).length) ≤ nn; omega, hR⟩, ?_⟩
        · exact ⟨fun b => bif b == 900 then 901 else (fun b => b) b, WeakerR.ofL (Ks := [900]) hI ⟨⟨rfl, rfl⟩, ⟨rfl, rfl⟩, ⟨grow_to rfl rfl h9 rfl rfl, grow_within rfl⟩, trivial⟩ (okH_grow (fun _ => rfl) rfl rfl (okH_nil)) rfl⟩
     ·
      replace hR := of_false h7 hR
      refine Awp.exit ?_
      refine Awp.consP C ?_
      refine rvP C (sS (some out.isEmpty) (eI .i64) out) ?_
      refine rvP C (sS (some out.isEmpty) (eI .i64) out) ?_
      refine rvP C (.pv (.lit (.int .i64 0))) ?_
      refine rvc_nil ?_
      refine Awp.ret ?_
      subst hR
      exact ⟨.inl rfl, rfl⟩
    ·
     refine Awp.wordsR [(4, .pv (.lit (.int .i64 many))), (12, sS (some nr.1.nil) (eI .i64) nr.1.D), (16, .sl 900 0 out.length 1 false)] [(900, .cells (encC (eI .i64) out))] [900] (WeakerR.ofL (Ks := [900]) hI ⟨⟨rfl, rfl⟩, ⟨rfl, rfl⟩, ⟨(by exact grow_at_cons (b := 900) (b' := 900) (e := (eI .i64)) (l := out) rfl h6 rfl rfl rfl), rfl⟩, trivial⟩ (okH_list (look_cons h6 rfl) rfl rfl (okH_nil)) rfl) ?_
     refine Awp.seq ?_
     refine Awp.consP C ?_
     refine rvP C (.sl 900 0 out.length 1 false) ?_
     refine rvP C (.pv (.lit (.int .i64 (out.length : Int)))) ?_
     refine rvP C (.pv (.lit (.int .i64 many))) ?_
     refine rvP C (.pv (.lit (.bool (decide ((out.length : Int) < many))))) ?_
     refine rvc_nil ?_
     refine Awp.cond (b := (decide ((out.length : Int) < many))) rfl (fun h20 => ?_) (fun h20 => ?_)
     ·
      replace hR := of_true h20 hR
      refine Awp.skip ?_
      refine Awp.block ?_
      refine Awp.consP C ?_
      refine rvP C (sS (some nr.1.nil) (eI .i64) nr.1.D) ?_
      refine rvP C (.pv (.lit (.int .i64 (nr.1.D.length : Int)))) ?_
      refine rvP C (.pv (.lit (.int .i64 0))) ?_
      refine rvc_nil ?_
      refine Awp.block ?_
      refine Awp.forR (σ := ((List Int))) (nr.1.D.length) (fun i1 v => [(4, .pv (.lit (.int .i64 many))), (12, sS (some nr.1.nil) (eI .i64) nr.1.D), (16, .sl 902 0 v.length 1 false), (56, sS (some nr.1.nil) (eI .i64) nr.1.D), (57, .pv (.lit (.int .i64 (nr.1.D.length : Int)))), (58, .pv (.lit (.int .i64 (i1 : Int))))]) (fun i1 v => [(902, .cells (encC (eI .i64) v))]) [902] (fun i1 v => (rTriesR_l1 many (fun out2 => rTriesR_l0 many nr n_ out2) (nr.1.D.drop i1) i1 v = R) ∧ (v.length = min many.toNat ((out : List Int).length + i1)) ∧ (v ≠ [] ∧ v.length ≤ out.length + i1)) out ?_ ?_ (fun i1 out2 h21 hR => ?_)
      · exact ⟨hR, (by have h_ := of_decide_eq_true ‹decide (_ < many) = true›; omega), ⟨h6, (by first | omega | (simp <;> omega))⟩⟩
      · exact ⟨fun b => bif b == 902 then 900 else (fun b => b) b, WeakerR.ofL (Ks := [902]) hI ⟨⟨rfl, rfl⟩, ⟨rfl, rfl⟩, ⟨rfl, rfl⟩, ⟨rfl, rfl⟩, ⟨rfl, rfl⟩, ⟨rfl, rfl⟩, trivial⟩ (okH_list rfl rfl rfl (okH_nil)) rfl⟩
      obtain ⟨hR, hV, ⟨hn_out2, hi_out2⟩⟩ := hR
      replace hi_out2 : out2.length ≤ out.length + i1 := hi_out2
      refine Awp.consP C ?_
      refine rvP C (.pv (.lit (.bool (decide ((i1 : Int) < (nr.1.D.length : Int)))))) ?_
      refine rvc_nil ?_
      refine Awp.seq ?_
      refine Awp.cond (b := (decide ((i1 : Int) < (nr.1.D.length : Int)))) rfl (fun h22 => ?_) (fun h22 => ?_)
      ·
       have h23 : i1 < nr.1.D.length := by have := of_decide_eq_true h22; omega
       obtain ⟨x1, h24⟩ := getX h23
       rw [drop_at h24] at hR
       refine Awp.skip ?_
       refine Awp.seq ?_
       refine Awp.block ?_
       refine Awp.consP C ?_
       refine rvc_un (rexec_idxS C rfl rfl rfl rfl rfl rfl x1 (Int.natCast_nonneg _) h24 ?_)
       refine rvP C (.pv (.lit (.int .i64 x1))) ?_
       refine rvP C (.pv (.lit (.int .i64 x1))) ?_
       refine rvc_nil ?_
       refine Awp.consP C ?_
       refine rvP C (.sl 902 0 out2.length 1 false) ?_
       refine rvP C (.pv (.lit (.int .i64 (out2.length : Int)))) ?_
       refine rvP C (.pv (.lit (.int .i64 many))) ?_
       refine rvP C (.pv (.lit (.bool (decide ((out2.length : Int) < many))))) ?_
       refine rvc_nil ?_
       refine Awp.cond (b := (decide ((out2.length : Int) < many))) rfl (fun h25 => ?_) (fun h25 => ?_)
       ·
        replace hR := of_true h25 hR
        refine Awp.regionP C ?_
        refine rvP C (.sl 902 0 out2.length 1 false) ?_
        refine rvP C (.pv (.lit (.int .i64 x1))) ?_
        refine rvc_un (rexec_buildSliceF C (eI .i64) [x1] rfl rfl rfl rfl rfl rfl rfl (by decide) rfl ?_)
        refine rvc_un (rexec_append C rfl rfl rfl rfl rfl rfl rfl rfl (fun _ h => by cases h) rfl (en := (eI .i64)) (D0 := out2) (D := [x1]) rfl rfl rfl rfl (by have := eq_of_bne_false h1; have := of_decide_eq_false h2; have := of_decide_eq_false h3; have := of_decide_eq_true h20; have := of_decide_eq_true h22; have := of_decide_eq_true h25; first | omega | (simp <;> omega)) (by decide) (nn := (out2 ++ [x1]).length) (by simp) ?_)
        refine rvP C (.sl 69 0 ((out2 ++ [x1]).length) 1 false) ?_
        refine rvc_nil ?_
        refine Awp.regionP C ?_
        refine rvP C (.pv (.lit (.int .i64 (IntKind.i64.wrap ((i1 : Int) + 1))))) ?_
        refine rvP C (.pv (.lit (.int .i64 (IntKind.i64.wrap ((i1 : Int) + 1))))) ?_
        refine rvc_nil ?_
        refine ⟨h23, (out2 ++ [x1]), ?_, ?_⟩
        · exact ⟨hR, (by (try simp only [List.length_append, List.length_singleton]); first | (have h_ := of_decide_eq_true ‹decide (_ < many) = true›; omega) | (have h_ := of_decide_eq_false ‹decide (_ < many) = false›; omega)), ⟨app_ne, (by first | omega | (simp <;> omega))⟩⟩
        · exact ⟨fun b => bif b == 902 then 69 else (fun b => b) b, WeakerR.ofL (Ks := [902]) hI ⟨⟨rfl, rfl⟩, ⟨rfl, rfl⟩, ⟨rfl, rfl⟩, ⟨rfl, rfl⟩, ⟨rfl, rfl⟩, ⟨lit_cast (wrap_i64 (by omega) (by omega)), rfl⟩, trivial⟩ (okH_list rfl rfl rfl (okH_nil)) rfl⟩
       ·
        replace hR := of_false h25 hR
        refine Awp.skip ?_
        refine Awp.regionP C ?_
        refine rvP C (.pv (.lit (.int .i64 (IntKind.i64.wrap ((i1 : Int) + 1))))) ?_
        refine rvP C (.pv (.lit (.int .i64 (IntKind.i64.wrap ((i1 : Int) + 1))))) ?_
        refine rvc_nil ?_
        refine ⟨h23, out2, ?_, ?_⟩
        · exact ⟨hR, (by (try simp only [List.length_append, List.length_singleton]); first | (have h_ := of_decide_eq_true ‹decide (_ < many) = true›; omega) | (have h_ := of_decide_eq_false ‹decide (_ < many) = false›; omega)), ⟨hn_out2, (by first | omega | (simp <;> omega))⟩⟩
        · exact ⟨fun b => b, WeakerR.ofL (Ks := [902]) hI ⟨⟨rfl, rfl⟩, ⟨rfl, rfl⟩, ⟨rfl, rfl⟩, ⟨rfl, rfl⟩, ⟨rfl, rfl⟩, ⟨lit_cast (wrap_i64 (by omega) (by omega)), rfl⟩, trivial⟩ (okH_list rfl rfl rfl (okH_nil)) rfl⟩
      ·
       have h23 : ¬ i1 < nr.1.D.length := by have := of_decide_eq_false h22; omega
       rw [drop_end h23] at hR
       refine Awp.exit ?_
       have h26 : (many.toNat - (out2 : List Int).length) < (many.toNat - (out : List Int).length) := by (have h_ := of_decide_eq_true ‹decide (_ < many) = true›; omega)
       obtain ⟨nn, rfl⟩ : ∃ nn, n_ = nn + 1 := ⟨n_ - 1, by omega⟩
       refine ⟨nn, out2, by omega, ⟨by show (many.toNat - (out2 : List Int).length) ≤ nn; omega, hR⟩, ?_⟩
       · exact ⟨fun b => bif b == 900 then 902 else (fun b => b) b, WeakerR.ofL (Ks := [900]) hI ⟨⟨rfl, rfl⟩, ⟨rfl, rfl⟩, ⟨grow_to rfl rfl hn_out2 rfl rfl, grow_within rfl⟩, trivial⟩ (okH_grow (fun _ => rfl) rfl rfl (okH_nil)) rfl⟩
     ·
      replace hR := of_false h20 hR
      refine Awp.exit ?_
      refine Awp.consP C ?_
      refine rvP C (.sl 900 0 out.length 1 false) ?_
      refine rvP C (.sl 900 0 out.length 1 false) ?_
      refine rvP C (.pv (.lit (.int .i64 0))) ?_
      refine rvc_nil ?_
      refine Awp.freezeW 900 (encL (eI .i64) out) ?_ [(10, sS (some out.isEmpty) (eI .i64) out), (11, .pv (.lit (.int .i64 0)))] [] ?_ ?_ ?_
      · rfl
      · exact ⟨⟨_, rfl, .inl (.inr ⟨_, _, _, rfl, by rw [ne_isEmpty h6]; rfl⟩)⟩, ⟨_, rfl, .inl (.inl rfl)⟩, trivial⟩
      · exact trivial
      refine Awp.ret ?_
      subst hR
      exact ⟨.inl rfl, rfl⟩
    -- !! two models: ('(bif (decide ((out.length : Int) < many)) then rTriesR_l1 many (fun out1 => rTriesR_l0 many nr nn out1) nr.1.D 0 out else ((Sl.mk out.isEmpty out), 0))', '') ||| ('(bif (decide ((out.length : Int) < many)) then rTriesR_l1 many (fun out2 => rTriesR_l0 many nr nn out2) nr.1.D 0 out else ((Sl.mk out.isEmpty out), 0))', '')
end Go.Proofs.Ytihccnkegkkikaa
/- Who has all, up to a place. No conditions. -/
namespace Go.Proofs.Ytihccnkegkkikaa
open Go.Am
def fullTo (c : Chain) (i : Nat) : List Int := ((c.members.D.take i).filter fun m => !m.fresh).map (·.node)
theorem take_add {α : Type} {l : List α} {i : Nat} {x : α} (hx : l[i]? = some x) : l.take (i + 1) = l.take i ++ [x] := by
  rw [List.take_add_one, hx]; rfl
theorem fullTo_add {c : Chain} {i : Nat} {x : Member} (hx : c.members.D[i]? = some x) (hf : x.fresh = false) : fullTo c (i + 1) = fullTo c i ++ [x.node] := by
  unfold fullTo
  rw [take_add hx, List.filter_append, List.map_append]
  simp [hf]
theorem fullTo_skip {c : Chain} {i : Nat} {x : Member} (hx : c.members.D[i]? = some x) (hf : x.fresh = true) : fullTo c (i + 1) = fullTo c i := by
  unfold fullTo
  rw [take_add hx, List.filter_append, List.map_append]
  simp [hf]
theorem fullTo_all {c : Chain} {i : Nat} (h : c.members.D.length ≤ i) : fullTo c i = fullNodes c := by
  unfold fullTo fullNodes
  rw [List.take_of_length_le h]
end Go.Proofs.Ytihccnkegkkikaa
