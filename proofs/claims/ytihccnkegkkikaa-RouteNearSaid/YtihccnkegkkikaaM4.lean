import Derived.Test.YtihccnkegkkikaaM3
import Derived.Test.YtihccnkegkkikaaM2
/- Ways in plain Lean: the code's answers are the document's. No conditions. -/
namespace Go.Proofs.Ytihccnkegkkikaa
open Go.Am
def okA (w : Nat → Nat → Int) (i j : Nat) : Bool := decide (0 ≤ w i j) && decide (w i j ≤ 1000) && (w i j == w j i) && (!(i == j) || w i j == 0)
def okB (w : Nat → Nat → Int) (i j : Nat) : Bool := decide (0 ≤ w i j) && decide (w i j ≤ 1000) && (w i j == w j i) && (w i i == 0)
theorem wayCheck_l1_eq (w : Nat → Nat → Int) (i : Nat) (kk : Int) : ∀ (k j : Nat), wayCheck_l1 w i kk k j = bif (List.range' j k).all (okA w i) then kk else 1
  | 0, _ => rfl
  | k + 1, j => by
    unfold wayCheck_l1
    rw [List.range'_succ, List.all_cons, wayCheck_l1_eq w i kk k (j + 1)]
    unfold okA
    have e1 : decide (0 ≤ w i j) = !decide (w i j < 0) := by rw [← decide_not]; exact decide_eq_decide.2 (by omega)
    have e2 : decide (w i j ≤ 1000) = !decide (w i j > 1000) := by rw [← decide_not]; exact decide_eq_decide.2 (by omega)
    have e3 : ((i : Int) == (j : Int)) = (i == j) := by rw [Bool.eq_iff_iff]; simp; omega
    rw [e1, e2, e3]
    cases decide (w i j < 0)
    case true => rfl
    cases decide (w i j > 1000)
    case true => rfl
    have e4 : (w i j != w j i) = !(w i j == w j i) := rfl
    have e5 : (w i j != 0) = !(w i j == 0) := rfl
    rw [e4, e5]
    cases w i j == w j i
    case false => rfl
    cases i == j
    case false => rfl
    cases w i j == 0 <;> rfl
theorem rWayCheck_l1_eq (w : Nat → Nat → Int) (i : Nat) (kk : Int) : ∀ (k j : Nat), rWayCheck_l1 w i kk k j = bif (List.range' j k).all (okB w i) then kk else 1
  | 0, _ => rfl
  | k + 1, j => by
    unfold rWayCheck_l1
    rw [List.range'_succ, List.all_cons, rWayCheck_l1_eq w i kk k (j + 1)]
    unfold okB
    have e1 : decide (0 ≤ w i j) = !decide (w i j < 0) := by rw [← decide_not]; exact decide_eq_decide.2 (by omega)
    have e2 : decide (w i j ≤ 1000) = !decide (w i j > 1000) := by rw [← decide_not]; exact decide_eq_decide.2 (by omega)
    rw [e1, e2]
    cases decide (w i j < 0)
    case true => rfl
    cases decide (w i j > 1000)
    case true => rfl
    have e4 : (w i j != w j i) = !(w i j == w j i) := rfl
    have e5 : (w i i != 0) = !(w i i == 0) := rfl
    rw [e4, e5]
    cases w i j == w j i
    case false => rfl
    cases w i i == 0 <;> rfl
theorem wayCheck_l0_eq (w : Nat → Nat → Int) : ∀ (k i : Nat), wayCheck_l0 w k i = bif (List.range' i k).all (fun i => (List.range' 0 3).all (okA w i)) then 0 else 1
  | 0, _ => rfl
  | k + 1, i => by
    unfold wayCheck_l0
    rw [wayCheck_l1_eq, wayCheck_l0_eq w k (i + 1), show List.range' i (k + 1) = i :: List.range' (i + 1) k from List.range'_succ .., List.all_cons]
    cases (List.range' 0 3).all (okA w i) <;> rfl
theorem rWayCheck_l0_eq (w : Nat → Nat → Int) : ∀ (k i : Nat), rWayCheck_l0 w k i = bif (List.range' i k).all (fun i => (List.range' 0 3).all (okB w i)) then 0 else 1
  | 0, _ => rfl
  | k + 1, i => by
    unfold rWayCheck_l0
    rw [rWayCheck_l1_eq, rWayCheck_l0_eq w k (i + 1), show List.range' i (k + 1) = i :: List.range' (i + 1) k from List.range'_succ .., List.all_cons]
    cases (List.range' 0 3).all (okB w i) <;> rfl
theorem all_all {p : Nat → Nat → Bool} : ((List.range' 0 3).all fun i => (List.range' 0 3).all (p i)) = true ↔ ∀ i j, i < 3 → j < 3 → p i j = true := by
  rw [List.all_eq_true]
  constructor
  · intro h i j hi hj
    exact List.all_eq_true.1 (h i (List.mem_range'_1.2 ⟨Nat.zero_le _, by omega⟩)) j (List.mem_range'_1.2 ⟨Nat.zero_le _, by omega⟩)
  · intro h i hi
    refine List.all_eq_true.2 fun j hj => h i j ?_ ?_
    · have := (List.mem_range'_1.1 hi).2; omega
    · have := (List.mem_range'_1.1 hj).2; omega
theorem okA_iff {w : Nat → Nat → Int} {i j : Nat} : okA w i j = true ↔ 0 ≤ w i j ∧ w i j ≤ 1000 ∧ w i j = w j i ∧ (i = j → w i j = 0) := by
  unfold okA
  simp only [Bool.and_eq_true, Bool.or_eq_true, decide_eq_true_eq, beq_iff_eq, Bool.not_eq_true', beq_eq_false_iff_ne]
  constructor
  · rintro ⟨⟨⟨h1, h2⟩, h3⟩, h4⟩
    exact ⟨h1, h2, h3, fun e => h4.resolve_left fun h => h e⟩
  · rintro ⟨h1, h2, h3, h4⟩
    refine ⟨⟨⟨h1, h2⟩, h3⟩, ?_⟩
    by_cases e : i = j
    · exact .inr (h4 e)
    · exact .inl e
theorem okB_iff {w : Nat → Nat → Int} {i j : Nat} : okB w i j = true ↔ 0 ≤ w i j ∧ w i j ≤ 1000 ∧ w i j = w j i ∧ w i i = 0 := by
  unfold okB
  simp only [Bool.and_eq_true, decide_eq_true_eq, beq_iff_eq]
  constructor
  · rintro ⟨⟨⟨h1, h2⟩, h3⟩, h4⟩; exact ⟨h1, h2, h3, h4⟩
  · rintro ⟨h1, h2, h3, h4⟩; exact ⟨⟨⟨h1, h2⟩, h3⟩, h4⟩
/-- What ways are. -/
def Ways (w : Nat → Nat → Int) : Prop := ∀ i j, i < 3 → j < 3 → 0 ≤ w i j ∧ w i j ≤ 1000 ∧ w i j = w j i ∧ w i i = 0
theorem wayCheck_iff (w : Nat → Nat → Int) : (wayCheck w = 0 ↔ Ways w) ∧ (wayCheck w = 0 ∨ wayCheck w = 1) := by
  unfold wayCheck
  rw [wayCheck_l0_eq]
  cases h : (List.range' 0 3).all fun i => (List.range' 0 3).all (okA w i)
  · refine ⟨⟨fun h => (by cases h), fun hw => ?_⟩, .inr rfl⟩
    have := all_all.2 fun i j hi hj => okA_iff.2 ⟨(hw i j hi hj).1, (hw i j hi hj).2.1, (hw i j hi hj).2.2.1, fun e => by subst e; exact (hw i i hi hi).2.2.2⟩
    rw [h] at this; cases this
  · refine ⟨⟨fun _ i j hi hj => ?_, fun _ => rfl⟩, .inl rfl⟩
    have h1 := okA_iff.1 (all_all.1 h i j hi hj)
    exact ⟨h1.1, h1.2.1, h1.2.2.1, (okA_iff.1 (all_all.1 h i i hi hi)).2.2.2 rfl⟩
theorem rWayCheck_iff (w : Nat → Nat → Int) : (rWayCheck w = 0 ↔ Ways w) ∧ (rWayCheck w = 0 ∨ rWayCheck w = 1) := by
  unfold rWayCheck
  rw [rWayCheck_l0_eq]
  cases h : (List.range' 0 3).all fun i => (List.range' 0 3).all (okB w i)
  · refine ⟨⟨fun h => (by cases h), fun hw => ?_⟩, .inr rfl⟩
    have := all_all.2 fun i j hi hj => okB_iff.2 (hw i j hi hj)
    rw [h] at this; cases this
  · exact ⟨⟨fun _ i j hi hj => okB_iff.1 (all_all.1 h i j hi hj), fun _ => rfl⟩, .inl rfl⟩
theorem way_eq (w : Nat → Nat → Int) : rWayCheck w = wayCheck w := by
  obtain ⟨h1, h2⟩ := wayCheck_iff w
  obtain ⟨h3, h4⟩ := rWayCheck_iff w
  rcases h2 with e | e
  · rw [e]; exact h3.2 (h1.1 e)
  · rcases h4 with f | f
    · have := h1.2 (h3.1 f); rw [e] at this; cases this
    · rw [e, f]
theorem able_eq (c : Chain) (w : Nat → Nat → Int) (f : Int) : able c w f = rMay c w f := by
  unfold able rMay
  rw [← check_eq, way_eq]
  cases hc : check c != 0
  · cases wayCheck w != 0
    · unfold siteOk
      have e1 : decide (f ≥ 0) = !decide (f < 0) := by rw [← decide_not]; exact decide_eq_decide.2 (by omega)
      have e2 : decide (f < 3) = !decide (f > 2) := by rw [← decide_not]; exact decide_eq_decide.2 (by omega)
      rw [e1, e2]
      cases decide (f < 0) <;> cases decide (f > 2) <;> rfl
    · rfl
  · rw [cond_true, cond_true, check_bad hc]
def keyN (w : Nat → Nat → Int) (f : Int) (x : Member) : Nat := (bif x.fresh then 1001 else 0) + (w f.toNat x.site.toNat).toNat
theorem way_at {w : Nat → Nat → Int} (hw : Ways w) {f s : Int} (hf : 0 ≤ f ∧ f < 3) (hs : 0 ≤ s ∧ s < 3) : 0 ≤ w f.toNat s.toNat ∧ w f.toNat s.toNat ≤ 1000 := by
  have := hw f.toNat s.toNat (by omega) (by omega)
  exact ⟨this.1, this.2.1⟩
theorem nearF_key {w : Nat → Nat → Int} (hw : Ways w) {f : Int} (hf : 0 ≤ f ∧ f < 3) {x y : Member} (hx : 0 ≤ x.site ∧ x.site < 3) (hy : 0 ≤ y.site ∧ y.site < 3) : decide (nearF x y w f < 0) = decide (keyN w f x < keyN w f y) := by
  have h1 := way_at hw hf hx
  have h2 := way_at hw hf hy
  unfold nearF keyN
  cases x.fresh <;> cases y.fresh
  · show decide (IntKind.i64.wrap (w f.toNat x.site.toNat - w f.toNat y.site.toNat) < 0) = decide (0 + _ < 0 + _)
    rw [wrapI _ (by omega)]
    exact decide_eq_decide.2 (by omega)
  · show decide ((-1 : Int) < 0) = decide (0 + _ < 1001 + _)
    exact decide_eq_decide.2 (by omega)
  · show decide ((1 : Int) < 0) = decide (1001 + _ < 0 + _)
    exact decide_eq_decide.2 (by omega)
  · show decide (IntKind.i64.wrap (w f.toNat x.site.toNat - w f.toNat y.site.toNat) < 0) = decide (1001 + _ < 1001 + _)
    rw [wrapI _ (by omega)]
    exact decide_eq_decide.2 (by omega)
theorem near_l0_eq : ∀ (l : List Member) (i : Nat) (out : List Int), near_l0 l i out = (⟨(out ++ l.map (·.node)).isEmpty, out ++ l.map (·.node)⟩, 0)
  | [], _, out => by rw [List.map_nil, List.append_nil]; rfl
  | x :: l, i, out => by
    unfold near_l0
    rw [near_l0_eq l, List.append_assoc]; rfl
theorem rNear_l2_eq (w : Nat → Nat → Int) (f : Int) (b : Bool) (n : Nat) (kk : List Int → Sl Int × Int) : ∀ (l : List Member) (i : Nat) (out : List Int), rNear_l2 w f b n kk l i out = kk (out ++ (l.filter fun x => (x.fresh == b) && (w f.toNat x.site.toNat == (n : Int))).map (·.node))
  | [], _, out => by rw [List.filter_nil, List.map_nil, List.append_nil]; rfl
  | x :: l, i, out => by
    unfold rNear_l2
    rw [rNear_l2_eq w f b n kk l, rNear_l2_eq w f b n kk l, List.filter_cons]
    cases x.fresh == b
    · rfl
    · cases w f.toNat x.site.toNat == (n : Int)
      · rfl
      · show kk (out ++ [x.node] ++ _) = kk (out ++ x.node :: _)
        rw [List.append_assoc]; rfl
theorem rNear_l1_eq (c : Chain) (w : Nat → Nat → Int) (f : Int) (b : Bool) (kk : List Int → Sl Int × Int) : ∀ (k n : Nat) (out : List Int), rNear_l1 c w f b kk k n out = kk (out ++ (List.range' n k).flatMap fun (n : Nat) => (c.members.D.filter fun x => (x.fresh == b) && (w f.toNat x.site.toNat == (n : Int))).map (·.node))
  | 0, _, out => by rw [List.range'_zero, List.flatMap_nil, List.append_nil]; rfl
  | k + 1, n, out => by
    unfold rNear_l1
    rw [rNear_l2_eq, rNear_l1_eq c w f b kk k (n + 1), List.range'_succ, List.flatMap_cons, List.append_assoc]
theorem near_eq (c : Chain) (w : Nat → Nat → Int) (f : Int) : near c w f = rNear c w f := by
  unfold near rNear
  rw [← able_eq]
  cases ha : able c w f != 0
  case true => rfl
  obtain ⟨hc, hw, hf⟩ := able_ok (eq_of_bne_false ha)
  have hW := (wayCheck_iff w).1.1 hw
  have hs := sites_ok hc
  have h6 := check_le6 hc
  rw [cond_false, cond_false, near_l0_eq, List.nil_append]
  rw [sort_bucket (fun x0 x1 => nearF x0 x1 w f) (keyN w f) (K := 2002) c.members.D (by omega) (fun x hx y hy => nearF_key hW hf (hs x hx) (hs y hy)) (fun x hx => by
    have := way_at hW hf (hs x hx)
    unfold keyN; cases x.fresh
    · show 0 + _ < 2002; omega
    · show 1001 + _ < 2002; omega)]
  unfold rNear_l0
  rw [rNear_l1_eq]
  unfold rNear_l0
  rw [rNear_l1_eq]
  unfold rNear_l0
  rw [List.nil_append]
  have e : (bucket (keyN w f) 2002 c.members.D).map (·.node) = ((List.range' 0 1001).flatMap fun (n : Nat) => (c.members.D.filter fun x => (x.fresh == false) && (w f.toNat x.site.toNat == (n : Int))).map (·.node)) ++ ((List.range' 0 1001).flatMap fun (n : Nat) => (c.members.D.filter fun x => (x.fresh == true) && (w f.toNat x.site.toNat == (n : Int))).map (·.node)) := by
    unfold bucket
    rw [List.range_eq_range', show (2002 : Nat) = 1001 + 1001 from rfl, ← List.range'_append_1, List.flatMap_append, List.map_append, List.map_flatMap, List.map_flatMap]
    congr 1
    · refine flatMap_congr' fun n hn => ?_
      have := (List.mem_range'_1.1 hn).2
      congr 1
      refine List.filter_congr fun x hx => ?_
      have hb := way_at hW hf (hs x hx)
      unfold keyN
      rw [Bool.eq_iff_iff]
      cases x.fresh
      · simp; omega
      · simp; omega
    · rw [show (0 + 1001 : Nat) = 1001 from rfl, List.range'_eq_map_range, List.range'_eq_map_range, List.flatMap_map, List.flatMap_map]
      refine flatMap_congr' fun n hn => ?_
      have := List.mem_range.1 hn
      congr 1
      refine List.filter_congr fun x hx => ?_
      have hb := way_at hW hf (hs x hx)
      unfold keyN
      rw [Bool.eq_iff_iff]
      cases x.fresh
      · simp; omega
      · simp; omega
  rw [e]
theorem near_len (c : Chain) (w : Nat → Nat → Int) (f : Int) : (near c w f).1.D.length ≤ 6 := by
  unfold near
  cases ha : able c w f != 0
  case true => exact Nat.zero_le _
  obtain ⟨hc, _, _⟩ := able_ok (eq_of_bne_false ha)
  have h6 := check_le6 hc
  rw [cond_false, near_l0_eq]
  show (([] : List Int) ++ _).length ≤ 6
  rw [List.nil_append, List.length_map, sortSF_len _ _ (by omega)]
  exact h6
theorem rNear_len (c : Chain) (w : Nat → Nat → Int) (f : Int) : (rNear c w f).1.D.length ≤ 6 := by rw [← near_eq]; exact near_len c w f
end Go.Proofs.Ytihccnkegkkikaa
/- The example. No conditions. -/
namespace Go.Proofs.Ytihccnkegkkikaa
open Go.Am
def awake  : Bool :=
  (bif ((writeW (Chain.mk 1 (Sl.mk false [(Member.mk 0 0 false), (Member.mk 1 1 false)])) (ofL [(ofL [0, 5, 9]), (ofL [5, 0, 9]), (ofL [9, 9, 0])]) 0).1 == 10) then (bif ((writeW (Chain.mk 1 (Sl.mk false [(Member.mk 0 0 false), (Member.mk 1 1 false)])) (ofL [(ofL [0, 5, 9]), (ofL [5, 0, 9]), (ofL [9, 9, 0])]) 0).2 == 0) then (bif ((readW (Chain.mk 1 (Sl.mk false [(Member.mk 0 0 false), (Member.mk 1 1 false)])) (ofL [(ofL [0, 5, 9]), (ofL [5, 0, 9]), (ofL [9, 9, 0])]) 1 1 false 0).1 == 10) then (bif ((readW (Chain.mk 1 (Sl.mk false [(Member.mk 0 0 false), (Member.mk 1 1 false)])) (ofL [(ofL [0, 5, 9]), (ofL [5, 0, 9]), (ofL [9, 9, 0])]) 1 1 false 0).2 == 0) then (bif (eqInts (near (Chain.mk 1 (Sl.mk false [(Member.mk 0 0 false), (Member.mk 1 1 false)])) (ofL [(ofL [0, 5, 9]), (ofL [5, 0, 9]), (ofL [9, 9, 0])]) 1).1 (Sl.mk false [1, 0])) then (bif ((near (Chain.mk 1 (Sl.mk false [(Member.mk 0 0 false), (Member.mk 1 1 false)])) (ofL [(ofL [0, 5, 9]), (ofL [5, 0, 9]), (ofL [9, 9, 0])]) 1).2 == 0) then ((wayCheck (ofL [(ofL [0, 4, 9]), (ofL [5, 0, 9]), (ofL [9, 9, 0])])) == 1) else false) else false) else false) else false) else false) else false)
theorem awake_calls   : PCalls Try.prog 11 [] (.pv (.lit (.bool (awake )))) := by
 generalize hR : awake  = R
 refine PCalls.of_body tabOk Try.func11 rfl rfl rfl rfl rfl mixed fun E hP C hI => ?_
 refine Awp.consP C ?_
 refine rvP C (.pv (.lit (.bool false))) ?_
 refine rvc_nil ?_
 refine Awp.consP C ?_
 refine rvP C (.agg [.pv (.lit (.int .i64 0)), .pv (.lit (.int .i64 5)), .pv (.lit (.int .i64 9))]) ?_
 refine rvP C (.agg [.pv (.lit (.int .i64 5)), .pv (.lit (.int .i64 0)), .pv (.lit (.int .i64 9))]) ?_
 refine rvP C (.agg [.pv (.lit (.int .i64 9)), .pv (.lit (.int .i64 9)), .pv (.lit (.int .i64 0))]) ?_
 refine rvP C (.agg [.pv (.lit (.int .i64 0)), .pv (.lit (.int .i64 5)), .pv (.lit (.int .i64 9)), .pv (.lit (.int .i64 5)), .pv (.lit (.int .i64 0)), .pv (.lit (.int .i64 9)), .pv (.lit (.int .i64 9)), .pv (.lit (.int .i64 9)), .pv (.lit (.int .i64 0))]) ?_
 refine rvc_un (rexec_prim C (δ := { v := .ptr 1 0, new := [(1, .cells [.pv (.lit (.int .i64 0)), .pv (.lit (.int .i64 0)), .pv (.lit (.int .i64 0)), .pv (.lit (.int .i64 0)), .pv (.lit (.int .i64 0)), .pv (.lit (.int .i64 0)), .pv (.lit (.int .i64 0)), .pv (.lit (.int .i64 0)), .pv (.lit (.int .i64 0))])] }) rfl rfl rfl rfl trivial rfl ?_)
 refine rvc_un (rexec_prim C (δ := { v := .undef, wr := [(1, some (.cells [.pv (.lit (.int .i64 0)), .pv (.lit (.int .i64 5)), .pv (.lit (.int .i64 9)), .pv (.lit (.int .i64 5)), .pv (.lit (.int .i64 0)), .pv (.lit (.int .i64 9)), .pv (.lit (.int .i64 9)), .pv (.lit (.int .i64 9)), .pv (.lit (.int .i64 0))]))] }) rfl rfl rfl rfl trivial rfl ?_)
 refine rvc_nil ?_
 refine Awp.consP C ?_
 refine rvP C (.agg [.pv (.lit (.int .i64 0)), .pv (.lit (.int .i64 0)), .pv (.lit (.bool false))]) ?_
 refine rvP C (.agg [.pv (.lit (.int .i64 1)), .pv (.lit (.int .i64 1)), .pv (.lit (.bool false))]) ?_
 refine rvc_un (rexec_buildSliceF C eMember [(Member.mk 0 0 false), (Member.mk 1 1 false)] rfl rfl rfl rfl rfl rfl rfl (by decide) rfl ?_)
 refine rvP C (.agg [.pv (.lit (.int .i64 1)), sS (some false) eMember [(Member.mk 0 0 false), (Member.mk 1 1 false)]]) ?_
 refine rvc_un (rexec_prim C (δ := { v := .ptr 2 0, new := [(2, .cells [.pv (.lit (.int .i64 0)), sS (some true) eMember []])] }) rfl rfl rfl rfl trivial rfl ?_)
 refine rvc_un (rexec_prim C (δ := { v := .undef, wr := [(2, some (.cells [.pv (.lit (.int .i64 1)), sS (some false) eMember [(Member.mk 0 0 false), (Member.mk 1 1 false)]]))] }) rfl rfl rfl rfl trivial rfl ?_)
 refine rvc_nil ?_
 refine Awp.consP C ?_
 refine rvP C (.agg [.pv (.lit (.int .i64 1)), sS (some false) eMember [(Member.mk 0 0 false), (Member.mk 1 1 false)]]) ?_
 refine rvP C (.agg [.pv (.lit (.int .i64 0)), .pv (.lit (.int .i64 5)), .pv (.lit (.int .i64 9)), .pv (.lit (.int .i64 5)), .pv (.lit (.int .i64 0)), .pv (.lit (.int .i64 9)), .pv (.lit (.int .i64 9)), .pv (.lit (.int .i64 9)), .pv (.lit (.int .i64 0))]) ?_
 obtain ⟨wr, hq_wr⟩ : ∃ q_, q_ = (writeW (Chain.mk 1 (Sl.mk false [(Member.mk 0 0 false), (Member.mk 1 1 false)])) (ofL [(ofL [0, 5, 9]), (ofL [5, 0, 9]), (ofL [9, 9, 0])]) 0) := ⟨_, rfl⟩
 have hc_wr := (writeW_calls (Chain.mk 1 (Sl.mk false [(Member.mk 0 0 false), (Member.mk 1 1 false)])) (ofL [(ofL [0, 5, 9]), (ofL [5, 0, 9]), (ofL [9, 9, 0])]) 0 (of_decide_eq_true (by kernel_rfl)))
 first | rw [← hq_wr] at hR hc_wr | (unfold awake at hR; rw [← hq_wr] at hR hc_wr)
 refine rvc_un (rexec_call hP C rfl rfl rfl hc_wr ?_)
 refine rvP C (.tup [.pv (.lit (.int .i64 wr.1)), .pv (.lit (.int .i64 wr.2))]) ?_
 refine rvP C (.pv (.lit (.int .i64 wr.1))) ?_
 refine rvP C (.pv (.lit (.int .i64 wr.2))) ?_
 refine rvP C (.pv (.lit (.int .i64 wr.1))) ?_
 refine rvP C (.pv (.lit (.int .i64 wr.2))) ?_
 refine rvc_nil ?_
 refine Awp.consP C ?_
 refine rvP C (.agg [.pv (.lit (.int .i64 1)), sS (some false) eMember [(Member.mk 0 0 false), (Member.mk 1 1 false)]]) ?_
 refine rvP C (.agg [.pv (.lit (.int .i64 0)), .pv (.lit (.int .i64 5)), .pv (.lit (.int .i64 9)), .pv (.lit (.int .i64 5)), .pv (.lit (.int .i64 0)), .pv (.lit (.int .i64 9)), .pv (.lit (.int .i64 9)), .pv (.lit (.int .i64 9)), .pv (.lit (.int .i64 0))]) ?_
 obtain ⟨rd, hq_rd⟩ : ∃ q_, q_ = (readW (Chain.mk 1 (Sl.mk false [(Member.mk 0 0 false), (Member.mk 1 1 false)])) (ofL [(ofL [0, 5, 9]), (ofL [5, 0, 9]), (ofL [9, 9, 0])]) 1 1 false 0) := ⟨_, rfl⟩
 have hc_rd := (readW_calls (Chain.mk 1 (Sl.mk false [(Member.mk 0 0 false), (Member.mk 1 1 false)])) (ofL [(ofL [0, 5, 9]), (ofL [5, 0, 9]), (ofL [9, 9, 0])]) 1 1 false 0 (of_decide_eq_true (by kernel_rfl)))
 first | rw [← hq_rd] at hR hc_rd | (unfold awake at hR; rw [← hq_rd] at hR hc_rd)
 refine rvc_un (rexec_call hP C rfl rfl rfl hc_rd ?_)
 refine rvP C (.tup [.pv (.lit (.int .i64 rd.1)), .pv (.lit (.int .i64 rd.2))]) ?_
 refine rvP C (.pv (.lit (.int .i64 rd.1))) ?_
 refine rvP C (.pv (.lit (.int .i64 rd.2))) ?_
 refine rvP C (.pv (.lit (.int .i64 rd.1))) ?_
 refine rvP C (.pv (.lit (.int .i64 rd.2))) ?_
 refine rvc_nil ?_
 refine Awp.consP C ?_
 refine rvP C (.agg [.pv (.lit (.int .i64 1)), sS (some false) eMember [(Member.mk 0 0 false), (Member.mk 1 1 false)]]) ?_
 refine rvP C (.agg [.pv (.lit (.int .i64 0)), .pv (.lit (.int .i64 5)), .pv (.lit (.int .i64 9)), .pv (.lit (.int .i64 5)), .pv (.lit (.int .i64 0)), .pv (.lit (.int .i64 9)), .pv (.lit (.int .i64 9)), .pv (.lit (.int .i64 9)), .pv (.lit (.int .i64 0))]) ?_
 obtain ⟨nr, hq_nr⟩ : ∃ q_, q_ = (near (Chain.mk 1 (Sl.mk false [(Member.mk 0 0 false), (Member.mk 1 1 false)])) (ofL [(ofL [0, 5, 9]), (ofL [5, 0, 9]), (ofL [9, 9, 0])]) 1) := ⟨_, rfl⟩
 have hc_nr := (near_calls (Chain.mk 1 (Sl.mk false [(Member.mk 0 0 false), (Member.mk 1 1 false)])) (ofL [(ofL [0, 5, 9]), (ofL [5, 0, 9]), (ofL [9, 9, 0])]) 1 (fun h => absurd (h.symm.trans (by kernel_rfl : _ = false)) Bool.noConfusion) (of_decide_eq_true (by kernel_rfl)))
 first | rw [← hq_nr] at hR hc_nr | (unfold awake at hR; rw [← hq_nr] at hR hc_nr)
 have hf0_nr := near_len (Chain.mk 1 (Sl.mk false [(Member.mk 0 0 false), (Member.mk 1 1 false)])) (ofL [(ofL [0, 5, 9]), (ofL [5, 0, 9]), (ofL [9, 9, 0])]) 1
 rw [← hq_nr] at hf0_nr
 refine rvc_un (rexec_call hP C rfl rfl rfl hc_nr ?_)
 refine rvP C (.tup [sS (some nr.1.nil) (eI .i64) nr.1.D, .pv (.lit (.int .i64 nr.2))]) ?_
 refine rvP C (sS (some nr.1.nil) (eI .i64) nr.1.D) ?_
 refine rvP C (.pv (.lit (.int .i64 nr.2))) ?_
 refine rvP C (sS (some nr.1.nil) (eI .i64) nr.1.D) ?_
 refine rvP C (.pv (.lit (.int .i64 nr.2))) ?_
 refine rvc_nil ?_
 refine Awp.consP C ?_
 refine rvc_un (rexec_prim C (δ := { v := .ptr 1 0 }) rfl rfl rfl rfl (by decide) rfl ?_)
 refine rvc_un (rexec_prim C (δ := { v := .ptr 1 1 }) rfl rfl rfl rfl (by decide) rfl ?_)
 refine rvc_un (rexec_prim C (δ := { v := .undef, wr := [(1, some (.cells [.pv (.lit (.int .i64 0)), .pv (.lit (.int .i64 4)), .pv (.lit (.int .i64 9)), .pv (.lit (.int .i64 5)), .pv (.lit (.int .i64 0)), .pv (.lit (.int .i64 9)), .pv (.lit (.int .i64 9)), .pv (.lit (.int .i64 9)), .pv (.lit (.int .i64 0))]))] }) rfl rfl rfl rfl trivial rfl ?_)
 refine rvc_nil ?_
 refine Awp.consP C ?_
 refine rvP C (.pv (.lit (.int .i64 wr.1))) ?_
 refine rvP C (.pv (.lit (.bool (wr.1 == 10)))) ?_
 refine rvP C (.pv (.lit (.bool (wr.1 == 10)))) ?_
 refine rvc_case 39 (wr.1 == 10) rfl (fun h1 => ?_) (fun h1 => ?_)
 ·
  replace hR := of_true h1 hR
  refine rvO C (.pv (.lit (.int .i64 wr.2))) ?_
  refine rvO C (.pv (.lit (.bool (wr.2 == 0)))) ?_
  refine rvP C (.pv (.lit (.bool (wr.2 == 0)))) ?_
  refine rvP C (.pv (.lit (.bool (wr.2 == 0)))) ?_
  refine rvc_case 43 (wr.2 == 0) rfl (fun h2 => ?_) (fun h2 => ?_)
  ·
   replace hR := of_true h2 hR
   refine rvO C (.pv (.lit (.int .i64 rd.1))) ?_
   refine rvO C (.pv (.lit (.bool (rd.1 == 10)))) ?_
   refine rvP C (.pv (.lit (.bool (rd.1 == 10)))) ?_
   refine rvP C (.pv (.lit (.bool (rd.1 == 10)))) ?_
   refine rvc_case 47 (rd.1 == 10) rfl (fun h3 => ?_) (fun h3 => ?_)
   ·
    replace hR := of_true h3 hR
    refine rvO C (.pv (.lit (.int .i64 rd.2))) ?_
    refine rvO C (.pv (.lit (.bool (rd.2 == 0)))) ?_
    refine rvP C (.pv (.lit (.bool (rd.2 == 0)))) ?_
    refine rvP C (.pv (.lit (.bool (rd.2 == 0)))) ?_
    refine rvc_case 51 (rd.2 == 0) rfl (fun h4 => ?_) (fun h4 => ?_)
    ·
     replace hR := of_true h4 hR
     refine rvO C (sS (some nr.1.nil) (eI .i64) nr.1.D) ?_
     refine rvc_open rfl rfl rfl (rexec_buildSliceF C (eI .i64) [1, 0] rfl rfl rfl rfl rfl rfl rfl (by decide) rfl ?_)
     obtain ⟨ec, hq_ec⟩ : ∃ q_, q_ = (eqInts nr.1 (Sl.mk false [1, 0])) := ⟨_, rfl⟩
     have hc_ec := (eqInts_calls nr.1 (Sl.mk false [1, 0]) (by first | omega | decide))
     first | rw [← hq_ec] at hR hc_ec | (unfold awake at hR; rw [← hq_ec] at hR hc_ec)
     refine rvc_open rfl rfl rfl (rexec_call hP C rfl rfl rfl hc_ec ?_)
     refine rvP C (.pv (.lit (.bool ec))) ?_
     refine rvP C (.pv (.lit (.bool ec))) ?_
     refine rvc_case 56 ec rfl (fun h5 => ?_) (fun h5 => ?_)
     ·
      replace hR := of_true h5 hR
      refine rvO C (.pv (.lit (.int .i64 nr.2))) ?_
      refine rvO C (.pv (.lit (.bool (nr.2 == 0)))) ?_
      refine rvP C (.pv (.lit (.bool (nr.2 == 0)))) ?_
      refine rvP C (.pv (.lit (.bool (nr.2 == 0)))) ?_
      refine rvc_case 60 (nr.2 == 0) rfl (fun h6 => ?_) (fun h6 => ?_)
      ·
       replace hR := of_true h6 hR
       refine rvO C (.agg [.pv (.lit (.int .i64 0)), .pv (.lit (.int .i64 4)), .pv (.lit (.int .i64 9)), .pv (.lit (.int .i64 5)), .pv (.lit (.int .i64 0)), .pv (.lit (.int .i64 9)), .pv (.lit (.int .i64 9)), .pv (.lit (.int .i64 9)), .pv (.lit (.int .i64 0))]) ?_
       obtain ⟨ck, hq_ck⟩ : ∃ q_, q_ = (wayCheck (ofL [(ofL [0, 4, 9]), (ofL [5, 0, 9]), (ofL [9, 9, 0])])) := ⟨_, rfl⟩
       have hc_ck := (wayCheck_calls (ofL [(ofL [0, 4, 9]), (ofL [5, 0, 9]), (ofL [9, 9, 0])]))
       first | rw [← hq_ck] at hR hc_ck | (unfold awake at hR; rw [← hq_ck] at hR hc_ck)
       refine rvc_open rfl rfl rfl (rexec_call hP C rfl rfl rfl hc_ck ?_)
       refine rvO C (.pv (.lit (.bool (ck == 1)))) ?_
       refine rvP C (.pv (.lit (.bool (ck == 1)))) ?_
       refine rvP C (.pv (.lit (.bool (ck == 1)))) ?_
       refine rvc_nil ?_
       refine Awp.ret ?_
       subst hR
       exact ⟨.inl rfl, rfl⟩
      ·
       replace hR := of_false h6 hR
       refine rvS ?_
       refine rvS ?_
       refine rvS ?_
       refine rvP C (.pv (.lit (.bool false))) ?_
       refine rvP C (.pv (.lit (.bool false))) ?_
       refine rvc_nil ?_
       refine Awp.ret ?_
       subst hR
       exact ⟨.inl rfl, rfl⟩
     ·
      replace hR := of_false h5 hR
      refine rvS ?_
      refine rvS ?_
      refine rvP C (.pv (.lit (.bool false))) ?_
      refine rvP C (.pv (.lit (.bool false))) ?_
      refine rvS ?_
      refine rvS ?_
      refine rvS ?_
      refine rvP C (.pv (.lit (.bool false))) ?_
      refine rvP C (.pv (.lit (.bool false))) ?_
      refine rvc_nil ?_
      refine Awp.ret ?_
      subst hR
      exact ⟨.inl rfl, rfl⟩
    ·
     replace hR := of_false h4 hR
     refine rvS ?_
     refine rvS ?_
     refine rvS ?_
     refine rvP C (.pv (.lit (.bool false))) ?_
     refine rvP C (.pv (.lit (.bool false))) ?_
     refine rvS ?_
     refine rvS ?_
     refine rvP C (.pv (.lit (.bool false))) ?_
     refine rvP C (.pv (.lit (.bool false))) ?_
     refine rvS ?_
     refine rvS ?_
     refine rvS ?_
     refine rvP C (.pv (.lit (.bool false))) ?_
     refine rvP C (.pv (.lit (.bool false))) ?_
     refine rvc_nil ?_
     refine Awp.ret ?_
     subst hR
     exact ⟨.inl rfl, rfl⟩
   ·
    replace hR := of_false h3 hR
    refine rvS ?_
    refine rvS ?_
    refine rvP C (.pv (.lit (.bool false))) ?_
    refine rvP C (.pv (.lit (.bool false))) ?_
    refine rvS ?_
    refine rvS ?_
    refine rvS ?_
    refine rvP C (.pv (.lit (.bool false))) ?_
    refine rvP C (.pv (.lit (.bool false))) ?_
    refine rvS ?_
    refine rvS ?_
    refine rvP C (.pv (.lit (.bool false))) ?_
    refine rvP C (.pv (.lit (.bool false))) ?_
    refine rvS ?_
    refine rvS ?_
    refine rvS ?_
    refine rvP C (.pv (.lit (.bool false))) ?_
    refine rvP C (.pv (.lit (.bool false))) ?_
    refine rvc_nil ?_
    refine Awp.ret ?_
    subst hR
    exact ⟨.inl rfl, rfl⟩
  ·
   replace hR := of_false h2 hR
   refine rvS ?_
   refine rvS ?_
   refine rvP C (.pv (.lit (.bool false))) ?_
   refine rvP C (.pv (.lit (.bool false))) ?_
   refine rvS ?_
   refine rvS ?_
   refine rvP C (.pv (.lit (.bool false))) ?_
   refine rvP C (.pv (.lit (.bool false))) ?_
   refine rvS ?_
   refine rvS ?_
   refine rvS ?_
   refine rvP C (.pv (.lit (.bool false))) ?_
   refine rvP C (.pv (.lit (.bool false))) ?_
   refine rvS ?_
   refine rvS ?_
   refine rvP C (.pv (.lit (.bool false))) ?_
   refine rvP C (.pv (.lit (.bool false))) ?_
   refine rvS ?_
   refine rvS ?_
   refine rvS ?_
   refine rvP C (.pv (.lit (.bool false))) ?_
   refine rvP C (.pv (.lit (.bool false))) ?_
   refine rvc_nil ?_
   refine Awp.ret ?_
   subst hR
   exact ⟨.inl rfl, rfl⟩
 ·
  replace hR := of_false h1 hR
  refine rvS ?_
  refine rvS ?_
  refine rvP C (.pv (.lit (.bool false))) ?_
  refine rvP C (.pv (.lit (.bool false))) ?_
  refine rvS ?_
  refine rvS ?_
  refine rvP C (.pv (.lit (.bool false))) ?_
  refine rvP C (.pv (.lit (.bool false))) ?_
  refine rvS ?_
  refine rvS ?_
  refine rvP C (.pv (.lit (.bool false))) ?_
  refine rvP C (.pv (.lit (.bool false))) ?_
  refine rvS ?_
  refine rvS ?_
  refine rvS ?_
  refine rvP C (.pv (.lit (.bool false))) ?_
  refine rvP C (.pv (.lit (.bool false))) ?_
  refine rvS ?_
  refine rvS ?_
  refine rvP C (.pv (.lit (.bool false))) ?_
  refine rvP C (.pv (.lit (.bool false))) ?_
  refine rvS ?_
  refine rvS ?_
  refine rvS ?_
  refine rvP C (.pv (.lit (.bool false))) ?_
  refine rvP C (.pv (.lit (.bool false))) ?_
  refine rvc_nil ?_
  refine Awp.ret ?_
  subst hR
  exact ⟨.inl rfl, rfl⟩
end Go.Proofs.Ytihccnkegkkikaa
/- Laws. No conditions. -/
namespace Go.Proofs.Ytihccnkegkkikaa
open Go.Am
def lawNear (c : Chain) (w : (Nat → (Nat → Int))) (from_ : Int) : Bool :=
  (bif (decide ((c.members.D.length : Int) > 60)) then (awake ) else (bif (eqInts (near (Chain.mk c.epoch (cloneMembers c.members)) w from_).1 (rNear c w from_).1) then (bif ((near (Chain.mk c.epoch (cloneMembers c.members)) w from_).2 == (rNear c w from_).2) then (bif ((writeW (Chain.mk c.epoch (cloneMembers c.members)) w from_).1 == (rWrite c w from_).1) then (bif ((writeW (Chain.mk c.epoch (cloneMembers c.members)) w from_).2 == (rWrite c w from_).2) then (bif (same (Chain.mk c.epoch (cloneMembers c.members)) c) then (awake ) else false) else false) else false) else false) else false))
theorem lawNear_calls (c : Chain) (w : (Nat → (Nat → Int))) (from_ : Int) (hn : c.members.nil = true → c.members.D = []) (hl1 : c.members.D.length ≤ 1000000) : PCalls Try.prog 4 [.agg [.pv (.lit (.int .i64 c.epoch)), sS (some c.members.nil) eMember c.members.D], .agg [.pv (.lit (.int .i64 ((w 0) 0))), .pv (.lit (.int .i64 ((w 0) 1))), .pv (.lit (.int .i64 ((w 0) 2))), .pv (.lit (.int .i64 ((w 1) 0))), .pv (.lit (.int .i64 ((w 1) 1))), .pv (.lit (.int .i64 ((w 1) 2))), .pv (.lit (.int .i64 ((w 2) 0))), .pv (.lit (.int .i64 ((w 2) 1))), .pv (.lit (.int .i64 ((w 2) 2)))], .pv (.lit (.int .i64 from_))] (.pv (.lit (.bool (lawNear c w from_)))) := by
 generalize hR : lawNear c w from_ = R
 refine PCalls.of_body tabOk Try.func4 rfl rfl rfl rfl rfl mixed fun E hP C hI => ?_
 refine Awp.consP C ?_
 refine rvc_un (rexec_prim C (δ := { v := .ptr 3 0, new := [(3, .cells [.pv (.lit (.int .i64 c.epoch)), sS (some c.members.nil) eMember c.members.D])] }) rfl rfl rfl rfl trivial rfl ?_)
 refine rvc_un (rexec_prim C (δ := { v := .ptr 4 0, new := [(4, .cells [.pv (.lit (.int .i64 ((w 0) 0))), .pv (.lit (.int .i64 ((w 0) 1))), .pv (.lit (.int .i64 ((w 0) 2))), .pv (.lit (.int .i64 ((w 1) 0))), .pv (.lit (.int .i64 ((w 1) 1))), .pv (.lit (.int .i64 ((w 1) 2))), .pv (.lit (.int .i64 ((w 2) 0))), .pv (.lit (.int .i64 ((w 2) 1))), .pv (.lit (.int .i64 ((w 2) 2)))])] }) rfl rfl rfl rfl trivial rfl ?_)
 refine rvP C (.pv (.lit (.bool false))) ?_
 refine rvc_nil ?_
 refine Awp.seq ?_
 refine Awp.consP C ?_
 refine rvP C (.ptr 3 1) ?_
 refine rvP C (sS (some c.members.nil) eMember c.members.D) ?_
 refine rvP C (.pv (.lit (.int .i64 (c.members.D.length : Int)))) ?_
 refine rvP C (.pv (.lit (.bool (decide ((c.members.D.length : Int) > 60))))) ?_
 refine rvc_nil ?_
 refine Awp.cond (b := (decide ((c.members.D.length : Int) > 60))) rfl (fun h1 => ?_) (fun h1 => ?_)
 ·
  replace hR := of_true h1 hR
  refine Awp.consP C ?_
  obtain ⟨aw, hq_aw⟩ : ∃ q_, q_ = (awake ) := ⟨_, rfl⟩
  have hc_aw := (awake_calls )
  first | rw [← hq_aw] at hR hc_aw | (unfold lawNear at hR; rw [← hq_aw] at hR hc_aw)
  refine rvc_un (rexec_call hP C rfl rfl rfl hc_aw ?_)
  refine rvP C (.pv (.lit (.bool aw))) ?_
  refine rvc_nil ?_
  refine Awp.ret ?_
  subst hR
  exact ⟨.inl rfl, rfl⟩
 ·
  replace hR := of_false h1 hR
  refine Awp.skip ?_
  refine Awp.consP C ?_
  refine rvP C (.ptr 3 0) ?_
  refine rvP C (.pv (.lit (.int .i64 c.epoch))) ?_
  refine rvP C (.ptr 3 1) ?_
  refine rvP C (sS (some c.members.nil) eMember c.members.D) ?_
  refine rvc_un (rexec_call hP C rfl rfl rfl (cloneMembers_calls c.members hl1) ?_)
  refine rvP C (.agg [.pv (.lit (.int .i64 c.epoch)), sS (some (cloneMembers c.members).nil) eMember ((cloneMembers c.members).D)]) ?_
  refine rvc_un (rexec_prim C (δ := { v := .ptr 7 0, new := [(7, .cells [.pv (.lit (.int .i64 0)), sS (some true) eMember []])] }) rfl rfl rfl rfl trivial rfl ?_)
  refine rvc_un (rexec_prim C (δ := { v := .undef, wr := [(7, some (.cells [.pv (.lit (.int .i64 c.epoch)), sS (some (cloneMembers c.members).nil) eMember ((cloneMembers c.members).D)]))] }) rfl rfl rfl rfl trivial rfl ?_)
  refine rvc_nil ?_
  refine Awp.consP C ?_
  refine rvP C (.agg [.pv (.lit (.int .i64 c.epoch)), sS (some (cloneMembers c.members).nil) eMember ((cloneMembers c.members).D)]) ?_
  refine rvP C (.agg [.pv (.lit (.int .i64 ((w 0) 0))), .pv (.lit (.int .i64 ((w 0) 1))), .pv (.lit (.int .i64 ((w 0) 2))), .pv (.lit (.int .i64 ((w 1) 0))), .pv (.lit (.int .i64 ((w 1) 1))), .pv (.lit (.int .i64 ((w 1) 2))), .pv (.lit (.int .i64 ((w 2) 0))), .pv (.lit (.int .i64 ((w 2) 1))), .pv (.lit (.int .i64 ((w 2) 2)))]) ?_
  refine rvP C (.pv (.lit (.int .i64 from_))) ?_
  obtain ⟨nr, hq_nr⟩ : ∃ q_, q_ = (near (Chain.mk c.epoch (cloneMembers c.members)) w from_) := ⟨_, rfl⟩
  have hc_nr := (near_calls (Chain.mk c.epoch (cloneMembers c.members)) w from_ (clone_hn c.members) (by show ((cloneMembers c.members).D).length ≤ 1000000; have := clone_len c.members; have := of_decide_eq_false h1; omega))
  first | rw [← hq_nr] at hR hc_nr | (unfold lawNear at hR; rw [← hq_nr] at hR hc_nr)
  have hf0_nr := near_len (Chain.mk c.epoch (cloneMembers c.members)) w from_
  rw [← hq_nr] at hf0_nr
  refine rvc_un (rexec_call hP C rfl rfl rfl hc_nr ?_)
  refine rvP C (.tup [sS (some nr.1.nil) (eI .i64) nr.1.D, .pv (.lit (.int .i64 nr.2))]) ?_
  refine rvP C (sS (some nr.1.nil) (eI .i64) nr.1.D) ?_
  refine rvP C (.pv (.lit (.int .i64 nr.2))) ?_
  refine rvP C (sS (some nr.1.nil) (eI .i64) nr.1.D) ?_
  refine rvP C (.pv (.lit (.int .i64 nr.2))) ?_
  refine rvc_nil ?_
  refine Awp.consP C ?_
  refine rvP C (.agg [.pv (.lit (.int .i64 c.epoch)), sS (some c.members.nil) eMember c.members.D]) ?_
  refine rvP C (.agg [.pv (.lit (.int .i64 ((w 0) 0))), .pv (.lit (.int .i64 ((w 0) 1))), .pv (.lit (.int .i64 ((w 0) 2))), .pv (.lit (.int .i64 ((w 1) 0))), .pv (.lit (.int .i64 ((w 1) 1))), .pv (.lit (.int .i64 ((w 1) 2))), .pv (.lit (.int .i64 ((w 2) 0))), .pv (.lit (.int .i64 ((w 2) 1))), .pv (.lit (.int .i64 ((w 2) 2)))]) ?_
  refine rvP C (.pv (.lit (.int .i64 from_))) ?_
  obtain ⟨rn, hq_rn⟩ : ∃ q_, q_ = (rNear c w from_) := ⟨_, rfl⟩
  have hc_rn := (rNear_calls c w from_ hl1)
  first | rw [← hq_rn] at hR hc_rn | (unfold lawNear at hR; rw [← hq_rn] at hR hc_rn)
  have hf0_rn := rNear_len c w from_
  rw [← hq_rn] at hf0_rn
  refine rvc_un (rexec_call hP C rfl rfl rfl hc_rn ?_)
  refine rvP C (.tup [sS (some rn.1.nil) (eI .i64) rn.1.D, .pv (.lit (.int .i64 rn.2))]) ?_
  refine rvP C (sS (some rn.1.nil) (eI .i64) rn.1.D) ?_
  refine rvP C (.pv (.lit (.int .i64 rn.2))) ?_
  refine rvP C (sS (some rn.1.nil) (eI .i64) rn.1.D) ?_
  refine rvP C (.pv (.lit (.int .i64 rn.2))) ?_
  refine rvc_nil ?_
  refine Awp.consP C ?_
  refine rvP C (.agg [.pv (.lit (.int .i64 c.epoch)), sS (some (cloneMembers c.members).nil) eMember ((cloneMembers c.members).D)]) ?_
  refine rvP C (.agg [.pv (.lit (.int .i64 ((w 0) 0))), .pv (.lit (.int .i64 ((w 0) 1))), .pv (.lit (.int .i64 ((w 0) 2))), .pv (.lit (.int .i64 ((w 1) 0))), .pv (.lit (.int .i64 ((w 1) 1))), .pv (.lit (.int .i64 ((w 1) 2))), .pv (.lit (.int .i64 ((w 2) 0))), .pv (.lit (.int .i64 ((w 2) 1))), .pv (.lit (.int .i64 ((w 2) 2)))]) ?_
  refine rvP C (.pv (.lit (.int .i64 from_))) ?_
  obtain ⟨wr, hq_wr⟩ : ∃ q_, q_ = (writeW (Chain.mk c.epoch (cloneMembers c.members)) w from_) := ⟨_, rfl⟩
  have hc_wr := (writeW_calls (Chain.mk c.epoch (cloneMembers c.members)) w from_ (by show ((cloneMembers c.members).D).length ≤ 1000000; have := clone_len c.members; have := of_decide_eq_false h1; omega))
  first | rw [← hq_wr] at hR hc_wr | (unfold lawNear at hR; rw [← hq_wr] at hR hc_wr)
  refine rvc_un (rexec_call hP C rfl rfl rfl hc_wr ?_)
  refine rvP C (.tup [.pv (.lit (.int .i64 wr.1)), .pv (.lit (.int .i64 wr.2))]) ?_
  refine rvP C (.pv (.lit (.int .i64 wr.1))) ?_
  refine rvP C (.pv (.lit (.int .i64 wr.2))) ?_
  refine rvP C (.pv (.lit (.int .i64 wr.1))) ?_
  refine rvP C (.pv (.lit (.int .i64 wr.2))) ?_
  refine rvc_nil ?_
  refine Awp.consP C ?_
  refine rvP C (.agg [.pv (.lit (.int .i64 c.epoch)), sS (some c.members.nil) eMember c.members.D]) ?_
  refine rvP C (.agg [.pv (.lit (.int .i64 ((w 0) 0))), .pv (.lit (.int .i64 ((w 0) 1))), .pv (.lit (.int .i64 ((w 0) 2))), .pv (.lit (.int .i64 ((w 1) 0))), .pv (.lit (.int .i64 ((w 1) 1))), .pv (.lit (.int .i64 ((w 1) 2))), .pv (.lit (.int .i64 ((w 2) 0))), .pv (.lit (.int .i64 ((w 2) 1))), .pv (.lit (.int .i64 ((w 2) 2)))]) ?_
  refine rvP C (.pv (.lit (.int .i64 from_))) ?_
  obtain ⟨ww, hq_ww⟩ : ∃ q_, q_ = (rWrite c w from_) := ⟨_, rfl⟩
  have hc_ww := (rWrite_calls c w from_ hl1)
  first | rw [← hq_ww] at hR hc_ww | (unfold lawNear at hR; rw [← hq_ww] at hR hc_ww)
  refine rvc_un (rexec_call hP C rfl rfl rfl hc_ww ?_)
  refine rvP C (.tup [.pv (.lit (.int .i64 ww.1)), .pv (.lit (.int .i64 ww.2))]) ?_
  refine rvP C (.pv (.lit (.int .i64 ww.1))) ?_
  refine rvP C (.pv (.lit (.int .i64 ww.2))) ?_
  refine rvP C (.pv (.lit (.int .i64 ww.1))) ?_
  refine rvP C (.pv (.lit (.int .i64 ww.2))) ?_
  refine rvc_nil ?_
  refine Awp.consP C ?_
  refine rvP C (sS (some nr.1.nil) (eI .i64) nr.1.D) ?_
  refine rvP C (sS (some rn.1.nil) (eI .i64) rn.1.D) ?_
  obtain ⟨ec, hq_ec⟩ : ∃ q_, q_ = (eqInts nr.1 rn.1) := ⟨_, rfl⟩
  have hc_ec := (eqInts_calls nr.1 rn.1 (by show nr.1.D.length ≤ 1000000; have := clone_len c.members; have := of_decide_eq_false h1; omega))
  first | rw [← hq_ec] at hR hc_ec | (unfold lawNear at hR; rw [← hq_ec] at hR hc_ec)
  refine rvc_un (rexec_call hP C rfl rfl rfl hc_ec ?_)
  refine rvP C (.pv (.lit (.bool ec))) ?_
  refine rvc_case 58 ec rfl (fun h2 => ?_) (fun h2 => ?_)
  ·
   replace hR := of_true h2 hR
   refine rvO C (.pv (.lit (.int .i64 nr.2))) ?_
   refine rvO C (.pv (.lit (.int .i64 rn.2))) ?_
   refine rvO C (.pv (.lit (.bool (nr.2 == rn.2)))) ?_
   refine rvP C (.pv (.lit (.bool (nr.2 == rn.2)))) ?_
   refine rvP C (.pv (.lit (.bool (nr.2 == rn.2)))) ?_
   refine rvc_case 63 (nr.2 == rn.2) rfl (fun h3 => ?_) (fun h3 => ?_)
   ·
    replace hR := of_true h3 hR
    refine rvO C (.pv (.lit (.int .i64 wr.1))) ?_
    refine rvO C (.pv (.lit (.int .i64 ww.1))) ?_
    refine rvO C (.pv (.lit (.bool (wr.1 == ww.1)))) ?_
    refine rvP C (.pv (.lit (.bool (wr.1 == ww.1)))) ?_
    refine rvP C (.pv (.lit (.bool (wr.1 == ww.1)))) ?_
    refine rvc_case 68 (wr.1 == ww.1) rfl (fun h4 => ?_) (fun h4 => ?_)
    ·
     replace hR := of_true h4 hR
     refine rvO C (.pv (.lit (.int .i64 wr.2))) ?_
     refine rvO C (.pv (.lit (.int .i64 ww.2))) ?_
     refine rvO C (.pv (.lit (.bool (wr.2 == ww.2)))) ?_
     refine rvP C (.pv (.lit (.bool (wr.2 == ww.2)))) ?_
     refine rvP C (.pv (.lit (.bool (wr.2 == ww.2)))) ?_
     refine rvc_case 73 (wr.2 == ww.2) rfl (fun h5 => ?_) (fun h5 => ?_)
     ·
      replace hR := of_true h5 hR
      refine rvO C (.agg [.pv (.lit (.int .i64 c.epoch)), sS (some (cloneMembers c.members).nil) eMember ((cloneMembers c.members).D)]) ?_
      refine rvO C (.agg [.pv (.lit (.int .i64 c.epoch)), sS (some c.members.nil) eMember c.members.D]) ?_
      obtain ⟨sm, hq_sm⟩ : ∃ q_, q_ = (same (Chain.mk c.epoch (cloneMembers c.members)) c) := ⟨_, rfl⟩
      have hc_sm := (same_calls (Chain.mk c.epoch (cloneMembers c.members)) c (by show ((cloneMembers c.members).D).length ≤ 9223372036854775807; have := clone_len c.members; have := of_decide_eq_false h1; have := beq_iff_eq.1 h3; have := beq_iff_eq.1 h4; have := beq_iff_eq.1 h5; omega))
      first | rw [← hq_sm] at hR hc_sm | (unfold lawNear at hR; rw [← hq_sm] at hR hc_sm)
      refine rvc_open rfl rfl rfl (rexec_call hP C rfl rfl rfl hc_sm ?_)
      refine rvP C (.pv (.lit (.bool sm))) ?_
      refine rvP C (.pv (.lit (.bool sm))) ?_
      refine rvc_case 78 sm rfl (fun h6 => ?_) (fun h6 => ?_)
      ·
       replace hR := of_true h6 hR
       obtain ⟨aw1, hq_aw1⟩ : ∃ q_, q_ = (awake ) := ⟨_, rfl⟩
       have hc_aw1 := (awake_calls )
       first | rw [← hq_aw1] at hR hc_aw1 | (unfold lawNear at hR; rw [← hq_aw1] at hR hc_aw1)
       refine rvc_open rfl rfl rfl (rexec_call hP C rfl rfl rfl hc_aw1 ?_)
       refine rvP C (.pv (.lit (.bool aw1))) ?_
       refine rvP C (.pv (.lit (.bool aw1))) ?_
       refine rvc_nil ?_
       refine Awp.ret ?_
       subst hR
       exact ⟨.inl rfl, rfl⟩
      ·
       replace hR := of_false h6 hR
       refine rvS ?_
       refine rvP C (.pv (.lit (.bool false))) ?_
       refine rvP C (.pv (.lit (.bool false))) ?_
       refine rvc_nil ?_
       refine Awp.ret ?_
       subst hR
       exact ⟨.inl rfl, rfl⟩
     ·
      replace hR := of_false h5 hR
      refine rvS ?_
      refine rvS ?_
      refine rvS ?_
      refine rvP C (.pv (.lit (.bool false))) ?_
      refine rvP C (.pv (.lit (.bool false))) ?_
      refine rvS ?_
      refine rvP C (.pv (.lit (.bool false))) ?_
      refine rvP C (.pv (.lit (.bool false))) ?_
      refine rvc_nil ?_
      refine Awp.ret ?_
      subst hR
      exact ⟨.inl rfl, rfl⟩
    ·
     replace hR := of_false h4 hR
     refine rvS ?_
     refine rvS ?_
     refine rvS ?_
     refine rvP C (.pv (.lit (.bool false))) ?_
     refine rvP C (.pv (.lit (.bool false))) ?_
     refine rvS ?_
     refine rvS ?_
     refine rvS ?_
     refine rvP C (.pv (.lit (.bool false))) ?_
     refine rvP C (.pv (.lit (.bool false))) ?_
     refine rvS ?_
     refine rvP C (.pv (.lit (.bool false))) ?_
     refine rvP C (.pv (.lit (.bool false))) ?_
     refine rvc_nil ?_
     refine Awp.ret ?_
     subst hR
     exact ⟨.inl rfl, rfl⟩
   ·
    replace hR := of_false h3 hR
    refine rvS ?_
    refine rvS ?_
    refine rvS ?_
    refine rvP C (.pv (.lit (.bool false))) ?_
    refine rvP C (.pv (.lit (.bool false))) ?_
    refine rvS ?_
    refine rvS ?_
    refine rvS ?_
    refine rvP C (.pv (.lit (.bool false))) ?_
    refine rvP C (.pv (.lit (.bool false))) ?_
    refine rvS ?_
    refine rvS ?_
    refine rvS ?_
    refine rvP C (.pv (.lit (.bool false))) ?_
    refine rvP C (.pv (.lit (.bool false))) ?_
    refine rvS ?_
    refine rvP C (.pv (.lit (.bool false))) ?_
    refine rvP C (.pv (.lit (.bool false))) ?_
    refine rvc_nil ?_
    refine Awp.ret ?_
    subst hR
    exact ⟨.inl rfl, rfl⟩
  ·
   replace hR := of_false h2 hR
   refine rvS ?_
   refine rvS ?_
   refine rvS ?_
   refine rvP C (.pv (.lit (.bool false))) ?_
   refine rvP C (.pv (.lit (.bool false))) ?_
   refine rvS ?_
   refine rvS ?_
   refine rvS ?_
   refine rvP C (.pv (.lit (.bool false))) ?_
   refine rvP C (.pv (.lit (.bool false))) ?_
   refine rvS ?_
   refine rvS ?_
   refine rvS ?_
   refine rvP C (.pv (.lit (.bool false))) ?_
   refine rvP C (.pv (.lit (.bool false))) ?_
   refine rvS ?_
   refine rvS ?_
   refine rvS ?_
   refine rvP C (.pv (.lit (.bool false))) ?_
   refine rvP C (.pv (.lit (.bool false))) ?_
   refine rvS ?_
   refine rvP C (.pv (.lit (.bool false))) ?_
   refine rvP C (.pv (.lit (.bool false))) ?_
   refine rvc_nil ?_
   refine Awp.ret ?_
   subst hR
   exact ⟨.inl rfl, rfl⟩
end Go.Proofs.Ytihccnkegkkikaa
/- Direct ways in plain Lean. No conditions. -/
namespace Go.Proofs.Ytihccnkegkkikaa
open Go.Am
def putC (m : Nat → Nat → Int) (i j : Nat) (x : Int) : Nat → Nat → Int := fun p q => if p = i ∧ q = j then x else m p q
/-- Three sites' ways. -/
structure Three (m : Nat → Nat → Int) (a b c : Int) : Prop where
  h00 : m 0 0 = 0
  h11 : m 1 1 = 0
  h22 : m 2 2 = 0
  h01 : m 0 1 = a
  h10 : m 1 0 = a
  h02 : m 0 2 = b
  h20 : m 2 0 = b
  h12 : m 1 2 = c
  h21 : m 2 1 = c
def rf (w : Nat → Nat → Int) (i j k : Nat) (m : Nat → Nat → Int) : Nat → Nat → Int := putC m i j (min (w i k + w k j) (m i j))
end Go.Proofs.Ytihccnkegkkikaa
/- Laws of chapter 13 in plain Lean: their models answer true. No conditions. -/
namespace Go.Proofs.Ytihccnkegkkikaa
open Go.Am
theorem awake_true : awake = true := by kernel_rfl
def pathS (w : Nat → Nat → Int) : List Member → Int
  | [] => 0
  | [_] => 0
  | x :: y :: l => w x.site.toNat y.site.toNat + pathS w (y :: l)
theorem path_le {w : Nat → Nat → Int} (hW : Ways w) : ∀ l : List Member, (∀ x ∈ l, 0 ≤ x.site ∧ x.site < 3) → 0 ≤ pathS w l ∧ pathS w l ≤ l.length * 1000
  | [], _ => ⟨Int.le_refl _, Int.le_refl _⟩
  | [_], _ => ⟨Int.le_refl _, by simp [pathS]⟩
  | x :: y :: l, h => by
    have ih := path_le hW (y :: l) fun z hz => h z (List.mem_cons_of_mem _ hz)
    have := way_at hW (h x (List.mem_cons_self ..)) (h y (List.mem_cons_of_mem _ (List.mem_cons_self ..)))
    unfold pathS
    rw [List.length_cons, List.length_cons] at *
    omega
theorem down_l0_eq (c : Chain) {w : Nat → Nat → Int} (hW : Ways w) (hs : ∀ x ∈ c.members.D, 0 ≤ x.site ∧ x.site < 3) (h6 : c.members.D.length ≤ 6) : ∀ (l : List Member) (i : Nat) (n : Int) (x : Member), c.members.D.drop i = x :: l → 0 ≤ n ∧ n ≤ i * 1000 → down_l0 c w l i n = n + pathS w (x :: l)
  | [], i, n, x, _, _ => by unfold down_l0 pathS; omega
  | y :: l, i, n, x, hd, hn => by
    have hi : i < c.members.D.length := by
      apply Classical.byContradiction; intro h
      rw [List.drop_of_length_le (by omega)] at hd; cases hd
    have hx : c.members.D[(i : Int).toNat]! = x := by
      rw [Int.toNat_natCast, getElem!_pos c.members.D i hi]
      rw [List.drop_eq_getElem_cons hi] at hd
      exact (List.cons.inj hd).1
    have hd2 : c.members.D.drop (i + 1) = y :: l := by
      rw [List.drop_eq_getElem_cons hi] at hd
      exact (List.cons.inj hd).2
    have hxm : x ∈ c.members.D := List.mem_of_mem_drop (by rw [hd]; exact List.mem_cons_self ..)
    have hym : y ∈ c.members.D := List.mem_of_mem_drop (by rw [hd]; exact List.mem_cons_of_mem _ (List.mem_cons_self ..))
    have hb := way_at hW (hs x hxm) (hs y hym)
    unfold down_l0
    rw [hx, wrapI _ (by omega), down_l0_eq c hW hs h6 l (i + 1) _ y hd2 (by omega)]
    show _ = n + (w x.site.toNat y.site.toNat + pathS w (y :: l))
    omega
theorem cost_l0_eq (s : Sl Member) {w : Nat → Nat → Int} (hW : Ways w) (hs : ∀ x ∈ s.D, 0 ≤ x.site ∧ x.site < 3) (h6 : s.D.length ≤ 6) : ∀ (l : List Member) (i : Nat) (n : Int) (x : Member), s.D.drop i = x :: l → 0 ≤ n ∧ n ≤ 2000 + i * 2000 → cost_l0 s w l (i + 1) n = n + 2 * pathS w (x :: l)
  | [], i, n, x, _, _ => by unfold cost_l0 pathS; omega
  | y :: l, i, n, x, hd, hn => by
    have hi : i < s.D.length := by
      apply Classical.byContradiction; intro h
      rw [List.drop_of_length_le (by omega)] at hd; cases hd
    have hx : s.D[(IntKind.i64.wrap (((i + 1 : Nat) : Int) - 1)).toNat]! = x := by
      rw [wrapI _ (by omega), show ((((i + 1 : Nat) : Int) - 1)).toNat = i by omega, getElem!_pos s.D i hi]
      rw [List.drop_eq_getElem_cons hi] at hd
      exact (List.cons.inj hd).1
    have hd2 : s.D.drop (i + 1) = y :: l := by
      rw [List.drop_eq_getElem_cons hi] at hd
      exact (List.cons.inj hd).2
    have hxm : x ∈ s.D := List.mem_of_mem_drop (by rw [hd]; exact List.mem_cons_self ..)
    have hym : y ∈ s.D := List.mem_of_mem_drop (by rw [hd]; exact List.mem_cons_of_mem _ (List.mem_cons_self ..))
    have hb := way_at hW (hs x hxm) (hs y hym)
    unfold cost_l0
    rw [hx, decide_eq_true (by omega), cond_true, wrapI (2 * _) (by omega), wrapI _ (by omega), cost_l0_eq s hW hs h6 l (i + 1) _ y hd2 (by omega)]
    show _ = n + 2 * (w x.site.toNat y.site.toNat + pathS w (y :: l))
    omega
theorem down_eq {c : Chain} {w : Nat → Nat → Int} (hW : Ways w) (hs : ∀ x ∈ c.members.D, 0 ≤ x.site ∧ x.site < 3) (h6 : c.members.D.length ≤ 6) (hl : 0 < c.members.D.length) : down c w = pathS w c.members.D := by
  unfold down
  cases hD : c.members.D with
  | nil => rw [hD] at hl; exact absurd hl (by simp)
  | cons x l =>
    rw [List.drop_succ_cons, List.drop_zero, down_l0_eq c hW hs h6 l 0 0 x (by rw [hD]; rfl) (by omega)]
    omega
theorem cost_eq {s : Sl Member} {w : Nat → Nat → Int} {f : Int} (hW : Ways w) (hf : 0 ≤ f ∧ f < 3) (hs : ∀ x ∈ s.D, 0 ≤ x.site ∧ x.site < 3) (h6 : s.D.length ≤ 6) (hl : 0 < s.D.length) : cost s w f = (2 : Int) * w f.toNat (s.D[0]!).site.toNat + (2 : Int) * pathS w s.D := by
  unfold cost
  have hb := way_at hW hf (hs _ (at_mem (D := s.D) (n := 0) hl))
  have hvb : 0 ≤ (2 : Int) * w f.toNat (s.D[0]!).site.toNat ∧ (2 : Int) * w f.toNat (s.D[0]!).site.toNat ≤ 2000 := by omega
  rw [wrapI _ (by omega)]
  revert hvb
  generalize (2 : Int) * w f.toNat (s.D[0]!).site.toNat = v
  intro hvb
  cases hD : s.D with
  | nil => rw [hD] at hl; exact absurd hl (by simp)
  | cons x l =>
    unfold cost_l0
    rw [decide_eq_false (by omega), cond_false]
    exact cost_l0_eq s hW hs h6 l 0 v x (by rw [hD]; rfl) (by omega)
theorem write_eq (c : Chain) (w : Nat → Nat → Int) (f : Int) : writeW c w f = rWrite c w f := by
  unfold writeW rWrite
  rw [← able_eq]
  cases ha : able c w f != 0
  case true => rfl
  obtain ⟨hc, hw, hf⟩ := able_ok (eq_of_bne_false ha)
  have hW := (wayCheck_iff w).1.1 hw
  have hs := sites_ok hc
  have hl := check_len hc
  have h6 := check_le6 hc
  have hb := way_at hW hf (hs _ (at_mem (D := c.members.D) (n := 0) hl))
  have hp := path_le hW _ hs
  have e1 := wrapI (((2 : Nat) : Int) * w f.toNat (c.members.D[0]!).site.toNat) (by omega)
  rw [cond_false, cond_false, cost_eq hW hf hs h6 hl, down_eq hW hs h6 hl, e1, wrapI ((2 : Int) * pathS w c.members.D) (by omega), wrapI _ (by omega)]
  rfl
theorem eqInts_self (s : Sl Int) : eqInts s s = true := by
  have key : ∀ (l : List Int) (i : Nat), l = s.D.drop i → eqInts_l0 s l i = true := by
    intro l
    induction l with
    | nil => intro i _; rfl
    | cons x l ih =>
      intro i hl
      have hi : i < s.D.length := by
        apply Classical.byContradiction
        intro h
        rw [List.drop_of_length_le (by omega)] at hl; cases hl
      have hx : s.D[(i : Int).toNat]! = x := by
        rw [Int.toNat_natCast, getElem!_pos s.D i hi]
        rw [List.drop_eq_getElem_cons hi] at hl
        exact (List.cons.inj hl).1.symm
      have hl' : l = s.D.drop (i + 1) := by
        rw [List.drop_eq_getElem_cons hi] at hl
        exact (List.cons.inj hl).2
      unfold eqInts_l0
      rw [hx, ih (i + 1) hl']
      simp
  unfold eqInts
  rw [key s.D 0 rfl]
  simp
theorem lawNear_true (c : Chain) (w : Nat → Nat → Int) (f : Int) (hn : c.members.nil = true → c.members.D = []) : lawNear c w f = true := by
  unfold lawNear
  rw [clone_eq hn, show (Chain.mk c.epoch c.members) = c from rfl, near_eq, write_eq, eqInts_self, same_self, awake_true]
  simp
end Go.Proofs.Ytihccnkegkkikaa
/- Laws of chapter 13 at chains that are too long. No conditions. -/
namespace Go.Proofs.Ytihccnkegkkikaa
open Go.Am
def biglawNear (_c : Chain) (_w : (Nat → (Nat → Int))) (_from_ : Int) : Bool :=
  (awake )
theorem biglawNear_calls (c : Chain) (w : (Nat → (Nat → Int))) (from_ : Int) (hbig : (decide ((c.members.D.length : Int) > 60)) = true) : PCalls Try.prog 4 [.agg [.pv (.lit (.int .i64 c.epoch)), sS (some c.members.nil) eMember c.members.D], .agg [.pv (.lit (.int .i64 ((w 0) 0))), .pv (.lit (.int .i64 ((w 0) 1))), .pv (.lit (.int .i64 ((w 0) 2))), .pv (.lit (.int .i64 ((w 1) 0))), .pv (.lit (.int .i64 ((w 1) 1))), .pv (.lit (.int .i64 ((w 1) 2))), .pv (.lit (.int .i64 ((w 2) 0))), .pv (.lit (.int .i64 ((w 2) 1))), .pv (.lit (.int .i64 ((w 2) 2)))], .pv (.lit (.int .i64 from_))] (.pv (.lit (.bool (biglawNear c w from_)))) := by
 generalize hR : biglawNear c w from_ = R
 refine PCalls.of_body tabOk Try.func4 rfl rfl rfl rfl rfl mixed fun E hP C hI => ?_
 refine Awp.consP C ?_
 refine rvc_un (rexec_prim C (δ := { v := .ptr 3 0, new := [(3, .cells [.pv (.lit (.int .i64 c.epoch)), sS (some c.members.nil) eMember c.members.D])] }) rfl rfl rfl rfl trivial rfl ?_)
 refine rvc_un (rexec_prim C (δ := { v := .ptr 4 0, new := [(4, .cells [.pv (.lit (.int .i64 ((w 0) 0))), .pv (.lit (.int .i64 ((w 0) 1))), .pv (.lit (.int .i64 ((w 0) 2))), .pv (.lit (.int .i64 ((w 1) 0))), .pv (.lit (.int .i64 ((w 1) 1))), .pv (.lit (.int .i64 ((w 1) 2))), .pv (.lit (.int .i64 ((w 2) 0))), .pv (.lit (.int .i64 ((w 2) 1))), .pv (.lit (.int .i64 ((w 2) 2)))])] }) rfl rfl rfl rfl trivial rfl ?_)
 refine rvP C (.pv (.lit (.bool false))) ?_
 refine rvc_nil ?_
 refine Awp.seq ?_
 refine Awp.consP C ?_
 refine rvP C (.ptr 3 1) ?_
 refine rvP C (sS (some c.members.nil) eMember c.members.D) ?_
 refine rvP C (.pv (.lit (.int .i64 (c.members.D.length : Int)))) ?_
 refine rvP C (.pv (.lit (.bool (decide ((c.members.D.length : Int) > 60))))) ?_
 refine rvc_nil ?_
 refine Awp.condT (b := (decide ((c.members.D.length : Int) > 60))) rfl hbig ?_
 refine Awp.consP C ?_
 obtain ⟨aw, hq_aw⟩ : ∃ q_, q_ = (awake ) := ⟨_, rfl⟩
 have hc_aw := (awake_calls )
 first | rw [← hq_aw] at hR hc_aw | (unfold biglawNear at hR; rw [← hq_aw] at hR hc_aw)
 refine rvc_un (rexec_call hP C rfl rfl rfl hc_aw ?_)
 refine rvP C (.pv (.lit (.bool aw))) ?_
 refine rvc_nil ?_
 refine Awp.ret ?_
 subst hR
 exact ⟨.inl rfl, rfl⟩
end Go.Proofs.Ytihccnkegkkikaa
/- Inputs of chapter 13, as plain values. No conditions. -/
namespace Go.Proofs.Ytihccnkegkkikaa
open Go.Am
set_option maxRecDepth 100000 in
theorem flat3 {m : Nat} {ps : List PV} (h : Flat Try.prog (m + 1) 3 ps) : ∃ n, ps = [.lit (.int .i64 n)] ∧ (Lit.int .i64 n).wf = true := by
  unfold Flat at h
  rw [Try.underlying3] at h
  exact h
set_option maxRecDepth 100000 in
theorem flat4 {m : Nat} {ps : List PV} (h : Flat Try.prog (m + 1) 4 ps) : ∃ b, ps = [.lit (.bool b)] ∧ True := by
  unfold Flat at h
  rw [Try.underlying4] at h
  obtain ⟨b, h⟩ := h
  exact ⟨b, h, trivial⟩
def WT35 (x : Member) : Prop := (Lit.int .i64 x.node).wf = true ∧ (Lit.int .i64 x.site).wf = true ∧ True
set_option maxRecDepth 100000 in
theorem flat35 {m : Nat} {ps : List PV} (h : Flat Try.prog (m + 2) 35 ps) : ∃ x : Member, ps = eMember.enc x ∧ WT35 x := by
  unfold Flat at h
  rw [Try.underlying35] at h
  obtain ⟨a0, b0, e0, h0, a1, b1, e1, h1, a2, b2, e2, h2, el⟩ := h
  obtain ⟨x0, rfl, w0⟩ := flat3 (m := m + 0) h0
  obtain ⟨x1, rfl, w1⟩ := flat3 (m := m + 0) h1
  obtain ⟨x2, rfl, w2⟩ := flat4 (m := m + 0) h2
  subst el
  subst e2
  subst e1
  subst e0
  exact ⟨⟨x0, x1, x2⟩, rfl, w0, w1, w2⟩
def WT22 (s : Sl Member) : Prop := s.D.length ≤ maxLen ∧ (s.nil = true → s.D = []) ∧ ∀ x ∈ s.D, WT35 x
set_option maxRecDepth 100000 in
theorem flat22 {m : Nat} {ps : List PV} (h : Flat Try.prog (m + 3) 22 ps) : ∃ s : Sl Member, ps = [.sl (some s.nil) s.D.length (encL eMember s.D)] ∧ WT22 s := by
  unfold Flat at h
  rw [Try.underlying22] at h
  obtain ⟨b, D, rfl, h1, h2, h3⟩ := h
  obtain ⟨D2, e1, e2, e3⟩ := enc_list (e := eMember) (W := fun x => WT35 x) D fun y hy => flat35 (h3 y hy)
  rw [e2, ← e1]
  exact ⟨⟨b, D2⟩, rfl, (by show D2.length ≤ _; rw [e1]; exact h1), (fun hb => by have := h2 hb; rw [this] at e1; exact List.eq_nil_of_length_eq_zero e1), e3⟩
def WT24 (x : Chain) : Prop := (Lit.int .i64 x.epoch).wf = true ∧ WT22 x.members
set_option maxRecDepth 100000 in
theorem flat24 {m : Nat} {ps : List PV} (h : Flat Try.prog (m + 4) 24 ps) : ∃ x : Chain, ps = eChain.enc x ∧ WT24 x := by
  unfold Flat at h
  rw [Try.underlying24] at h
  obtain ⟨a0, b0, e0, h0, a1, b1, e1, h1, el⟩ := h
  obtain ⟨x0, rfl, w0⟩ := flat3 (m := m + 2) h0
  obtain ⟨x1, rfl, w1⟩ := flat22 (m := m + 0) h1
  subst el
  subst e1
  subst e0
  exact ⟨⟨x0, x1⟩, rfl, w0, w1⟩
end Go.Proofs.Ytihccnkegkkikaa
/- The contracts of the laws RouteReads, RouteNear, RouteChecks and RouteDirect: each is true, whatever the input. No conditions. -/
namespace Go.Proofs.Ytihccnkegkkikaa
open Go.Am
theorem routeNear_calls (c : Chain) (wc : WT24 c) (w : Nat → Nat → Int) (f : Int) (_ : (Lit.int .i64 f).wf = true) : PCalls Try.prog 4 [.agg ((eChain.enc c).map .pv), .agg (rows3 fun p q => .pv (.lit (.int .i64 (w p q)))), .pv (.lit (.int .i64 f))] (.pv (.bool true)) := by
  cases hb : (decide ((c.members.D.length : Int) > 60))
  · have := of_decide_eq_false hb
    have r := lawNear_calls c w f wc.2.2.1 (by omega)
    rw [lawNear_true c w f wc.2.2.1] at r
    exact r
  · have r := biglawNear_calls c w f hb
    rw [show biglawNear c w f = true from awake_true] at r
    exact r
end Go.Proofs.Ytihccnkegkkikaa
/- An abstract machine over the kit's calls, part 34: three rows of three numbers that are handed in. No conditions. -/
namespace Go.Am
section
variable {H : Type} {enc : TypeId × Value → H} {P : Program} {w : World} {base : Nat} {spare : Nat → Bool} {held : Bool}
theorem lits_VHs {k : IntKind} {ι : Nat → Option (Nat × Nat)} {imm : Nat → Prop} {w' : World} : ∀ (l : List Value) (A : List Int), l.length = A.length → (∀ i, i < A.length → l[i]? = some (.int k (A.getD i 0))) → VHs ι imm w' (A.map fun z => .pv (.lit (.int k z))) l := by
  intro l
  induction l with
  | nil => intro A hA _; cases A with
    | nil => rfl
    | cons a A => simp at hA
  | cons v l ih => intro A hA hA2; cases A with
    | nil => simp at hA
    | cons a A =>
      have h0 := hA2 0 (by simp)
      simp only [List.getElem?_cons_zero, List.getD_cons_zero, Option.some.injEq] at h0
      subst h0
      exact ⟨_, l, rfl, ⟨rfl, rfl⟩, ih A (by simpa using hA) fun i hi => by simpa using hA2 (i + 1) (by simpa using hi)⟩
theorem open_arr33 {r : Reach} {b0 : Nat} {t e e2 : Nat} {k : IntKind} {v : Value} {d : DataW H} {ps : List MemPlace} (ht : P.underlying t = some (.array 3 e)) (he : P.underlying e = some (.array 3 e2)) (he2 : P.underlying e2 = some (.int k)) (hc2 : P.cellsOf e2 = 1) (hc : P.cellsOf e = 3) (hct : P.cellsOf t = 9) (hval : Value.okWide P w r b0 t v) (hd : DataW.Trod enc P w base spare held t v d ps) :
    ∃ f : Nat → Nat → Int, ∀ ι imm w', VH ι imm w' (.agg (rows3 fun p q => .pv (.lit (.int k (f p q))))) v := by
  simp only [Value.okWide, ht] at hval
  obtain ⟨cs, rfl, hsz, _⟩ := hval
  obtain ⟨fuel, hf⟩ := hd
  obtain ⟨xs, m, rfl, _, hl, hlx, hx⟩ := DataW.trod_array ht hf
  simp only [Value.cells] at hl hx
  have hn : cs.toList.length = 9 := by rw [hl, hct]
  have key : ∀ i j, i < 3 → j < 3 → ∃ z, cs.toList[i * 3 + j]? = some (.int k z) := fun i j hi hj => by
    have h1 := hx i hi
    obtain ⟨y, hy⟩ : ∃ y, xs[i]? = some y := ⟨xs[i], by simp [hlx, hi]⟩
    rw [hy] at h1
    obtain ⟨ys, m2, _, _, _, hly, hx2⟩ := DataW.trod_array he h1
    have h2 := hx2 j hj
    obtain ⟨y2, hy2⟩ : ∃ y, ys[j]? = some y := ⟨ys[j], by simp [hly, hj]⟩
    rw [hy2] at h2
    obtain ⟨z, h3, _, _⟩ := DataW.trod_int he2 h2
    rw [hc2, hc, Nat.mul_one] at h3
    refine ⟨z, ?_⟩
    have h5 := congrArg (fun l => l[0]?) h3
    simp only [List.getElem?_cons_zero] at h5
    rw [List.getElem?_take_of_lt (by omega), List.getElem?_drop, List.getElem?_take_of_lt (by omega), List.getElem?_drop] at h5
    simpa using h5
  refine ⟨fun i j => match cs.toList[i * 3 + j]? with | some (.int _ z) => z | _ => 0, fun ι imm w' => ⟨cs.toList, by simp, ?_⟩⟩
  generalize hf : (fun i j : Nat => match cs.toList[i * 3 + j]? with | some (.int _ z) => z | _ => 0) = f
  have hval : ∀ i j, i < 3 → j < 3 → cs.toList[i * 3 + j]? = some (.int k (f i j)) := fun i j hi hj => by
    obtain ⟨z, hz⟩ := key i j hi hj
    have : f i j = z := by rw [← hf]; simp only [hz]
    rw [hz, this]
  exact lits_VHs cs.toList (rows3 f) (by rw [hn]; rfl) fun n hn9 => by
    have hn9 : n < 9 := hn9
    have h := hval (n / 3) (n % 3) (by omega) (by omega)
    rw [show n / 3 * 3 + n % 3 = n by omega] at h
    rw [h]
    congr 2
    rcases (by omega : n = 0 ∨ n = 1 ∨ n = 2 ∨ n = 3 ∨ n = 4 ∨ n = 5 ∨ n = 6 ∨ n = 7 ∨ n = 8) with rfl | rfl | rfl | rfl | rfl | rfl | rfl | rfl | rfl <;> rfl
end
end Go.Am
/- What all rows of this seat need: no knob is turned, the types are laid out. No conditions. -/
namespace Go.Proofs.Ytihccnkegkkikaa
open Go.Am
theorem own : ownKnob Try.prog.godebug = none := by kernel_rfl
theorem laidOut : laidOutB Try.prog = true := by kernel_rfl
end Go.Proofs.Ytihccnkegkkikaa
