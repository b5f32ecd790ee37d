import Derived.Test.YtihccnkegkkikaaM3
import Derived.Test.YtihccnkegkkikaaM2
/- Members, site by site, in any order of sites. No conditions. -/
namespace Go.Proofs.Ytihccnkegkkikaa
open Go.Am
theorem ord_hits {x : Nat → Int} (hx : x ∈ [(ofL [0, 1, 2]), (ofL [0, 2, 1]), (ofL [1, 0, 2]), (ofL [1, 2, 0]), (ofL [2, 0, 1]), (ofL [2, 1, 0])]) {s : Int} (hs : 0 ≤ s ∧ s < 3) : ∃ t, t < 3 ∧ x t = s := by
  have h3 : s = 0 ∨ s = 1 ∨ s = 2 := by omega
  simp only [List.mem_cons, List.not_mem_nil, or_false] at hx
  rcases hx with rfl | rfl | rfl | rfl | rfl | rfl <;> rcases h3 with rfl | rfl | rfl
  all_goals first | exact ⟨0, by decide, rfl⟩ | exact ⟨1, by decide, rfl⟩ | exact ⟨2, by decide, rfl⟩
def inOrder (D : List Member) (x : Nat → Int) (n : Nat) : List Member := (List.range n).flatMap fun t => D.filter fun y => y.site == x t
theorem order_mem {D : List Member} {x : Nat → Int} {m : List Member} {n : Nat} (h : m = inOrder D x n) (hn : n = 3) (hx : x ∈ [(ofL [0, 1, 2]), (ofL [0, 2, 1]), (ofL [1, 0, 2]), (ofL [1, 2, 0]), (ofL [2, 0, 1]), (ofL [2, 1, 0])]) (hD : 0 < D.length) (hs : ∀ y ∈ D, 0 ≤ y.site ∧ y.site < 3) : 0 < m.length ∧ (∀ y ∈ m, 0 ≤ y.site ∧ y.site < 3) ∧ ∀ y ∈ m, y ∈ D := by
  subst h hn
  have hin : ∀ y ∈ inOrder D x 3, y ∈ D := fun y hy => by
    obtain ⟨t, _, hm⟩ := List.mem_flatMap.1 hy
    exact (List.mem_filter.1 hm).1
  refine ⟨?_, fun y hy => hs y (hin y hy), hin⟩
  cases D with
  | nil => exact absurd hD (by simp)
  | cons y D =>
    obtain ⟨t, ht, e⟩ := ord_hits hx (hs y (List.mem_cons_self ..))
    refine List.length_pos_of_mem (a := y) (List.mem_flatMap.2 ⟨t, List.mem_range.2 ht, List.mem_filter.2 ⟨List.mem_cons_self .., by simpa using e.symm⟩⟩)
theorem order_step {D : List Member} {x : Nat → Int} {m : List Member} {n k : Nat} (h : m = inOrder D x n ++ (D.take k).filter fun y => y.site == x n) (hk : ¬ k < D.length) : m = inOrder D x (n + 1) := by
  rw [h, List.take_of_length_le (by omega)]
  unfold inOrder
  rw [List.range_succ, List.flatMap_append]; simp
theorem take_step {D : List Member} {x : Nat → Int} {n k : Nat} {y : Member} (hy : D[k]? = some y) : (D.take (k + 1)).filter (fun y => y.site == x n) = (D.take k).filter (fun y => y.site == x n) ++ (if y.site == x n then [y] else []) := by
  rw [List.take_add_one, hy, List.filter_append]
  cases h : y.site == x n <;> simp [h]
theorem order_in {D : List Member} {x : Nat → Int} {m : List Member} {n k : Nat} {y : Member} (h : m = inOrder D x n ++ (D.take k).filter fun y => y.site == x n) (hy : D[k]? = some y) (hc : (y.site == x n) = true) : m ++ [y] = inOrder D x n ++ (D.take (k + 1)).filter fun y => y.site == x n := by
  rw [take_step hy, hc, h]; simp
theorem order_out {D : List Member} {x : Nat → Int} {m : List Member} {n k : Nat} {y : Member} (h : m = inOrder D x n ++ (D.take k).filter fun y => y.site == x n) (hy : D[k]? = some y) (hc : (y.site == x n) = false) : m = inOrder D x n ++ (D.take (k + 1)).filter fun y => y.site == x n := by
  rw [take_step hy, hc, h]; simp
def inList (D : List Member) (L : List Int) : List Member := L.flatMap fun s => D.filter fun y => y.site == s
theorem inList_all {D : List Member} {a b c : Int} {m : List Member} {n : Nat} (h : m = inList D ([a, b, c].take n)) (hn : ¬ n < 3) (hp : ∀ s, 0 ≤ s ∧ s < 3 → s = a ∨ s = b ∨ s = c) (hD : 0 < D.length) (hs : ∀ y ∈ D, 0 ≤ y.site ∧ y.site < 3) : 0 < m.length ∧ (∀ y ∈ m, 0 ≤ y.site ∧ y.site < 3) ∧ ∀ y ∈ m, y ∈ D := by
  rw [List.take_of_length_le (by simp; omega)] at h
  subst h
  have hin : ∀ y ∈ inList D [a, b, c], y ∈ D := fun y hy => by
    obtain ⟨t, _, hm⟩ := List.mem_flatMap.1 hy
    exact (List.mem_filter.1 hm).1
  refine ⟨?_, fun y hy => hs y (hin y hy), hin⟩
  cases D with
  | nil => exact absurd hD (by simp)
  | cons y D =>
    refine List.length_pos_of_mem (a := y) (List.mem_flatMap.2 ⟨y.site, ?_, List.mem_filter.2 ⟨List.mem_cons_self .., by simp⟩⟩)
    have := hp y.site (hs y (List.mem_cons_self ..))
    simpa using this
end Go.Proofs.Ytihccnkegkkikaa
/- The reference: the best order of sites. No conditions. -/
namespace Go.Proofs.Ytihccnkegkkikaa
open Go.Am
end Go.Proofs.Ytihccnkegkkikaa
/- The best order of sites. No conditions. -/
namespace Go.Proofs.Ytihccnkegkkikaa
open Go.Am
def best_l2 (x : (Nat → Int)) (i1 : Nat) (kk : (List Member) → ((Sl Member) × Int × Int)) : List Member → Nat → (List Member) → (Sl Member) × Int × Int
  | [], _, members1 => kk members1
  | x1 :: x1s, i2, members1 => (bif (x1.site == (x i1)) then best_l2 x i1 kk x1s (i2 + 1) (members1 ++ [x1]) else best_l2 x i1 kk x1s (i2 + 1) members1)
def best_l1 (fc : Chain × Int) (x : (Nat → Int)) (kk : (List Member) → ((Sl Member) × Int × Int)) : Nat → Nat → (List Member) → (Sl Member) × Int × Int
  | 0, _, members => kk members
  | k + 1, i1, members => best_l2 x i1 (fun members2 => best_l1 fc x kk k (i1 + 1) members2) fc.1.members.D 0 members
def best_l0 (w : (Nat → (Nat → Int))) (from_ : Int) (fc : Chain × Int) : List (Nat → Int) → Nat → (Sl Member) → Int → (Sl Member) × Int × Int
  | [], _, best, least => (best, least, 0)
  | x :: xs, i, best, least => best_l1 fc x (fun members => (bif (decide (least < 0)) then best_l0 w from_ fc xs (i + 1) (Sl.mk members.isEmpty members) (IntKind.i64.wrap ((IntKind.i64.wrap (2 * ((w from_.toNat) (members[0]!.site).toNat))) + (IntKind.i64.wrap (2 * (down (Chain.mk 0 (Sl.mk members.isEmpty members)) w))))) else (bif (decide ((IntKind.i64.wrap ((IntKind.i64.wrap (2 * ((w from_.toNat) (members[0]!.site).toNat))) + (IntKind.i64.wrap (2 * (down (Chain.mk 0 (Sl.mk members.isEmpty members)) w))))) < least)) then best_l0 w from_ fc xs (i + 1) (Sl.mk members.isEmpty members) (IntKind.i64.wrap ((IntKind.i64.wrap (2 * ((w from_.toNat) (members[0]!.site).toNat))) + (IntKind.i64.wrap (2 * (down (Chain.mk 0 (Sl.mk members.isEmpty members)) w))))) else best_l0 w from_ fc xs (i + 1) best least))) 3 0 []
def best (l : (Sl Member)) (w : (Nat → (Nat → Int))) (from_ : Int) : (Sl Member) × Int × Int :=
  (bif ((firstC l).2 != 0) then ((Sl.mk true []), 0, (firstC l).2) else (bif ((able (firstC l).1 w from_) != 0) then ((Sl.mk true []), 0, (able (firstC l).1 w from_)) else best_l0 w from_ (firstC l) [(ofL [(0 : Int), 1, 2]), (ofL [(0 : Int), 2, 1]), (ofL [(1 : Int), 0, 2]), (ofL [(1 : Int), 2, 0]), (ofL [(2 : Int), 0, 1]), (ofL [(2 : Int), 1, 0])] 0 (Sl.mk true []) (-1)))
set_option maxHeartbeats 4000000 in
theorem best_calls (l : (Sl Member)) (w : (Nat → (Nat → Int))) (from_ : Int) (hl1 : l.D.length ≤ 1000000) : PCalls Try.prog 30 [sS (some l.nil) eMember l.D, .agg [.pv (.lit (.int .i64 ((w 0) 0))), .pv (.lit (.int .i64 ((w 0) 1))), .pv (.lit (.int .i64 ((w 0) 2))), .pv (.lit (.int .i64 ((w 1) 0))), .pv (.lit (.int .i64 ((w 1) 1))), .pv (.lit (.int .i64 ((w 1) 2))), .pv (.lit (.int .i64 ((w 2) 0))), .pv (.lit (.int .i64 ((w 2) 1))), .pv (.lit (.int .i64 ((w 2) 2)))], .pv (.lit (.int .i64 from_))] (.tup [sS (some (best l w from_).1.nil) eMember ((best l w from_).1.D), .pv (.lit (.int .i64 ((best l w from_).2.1))), .pv (.lit (.int .i64 ((best l w from_).2.2)))]) := by
 generalize hR : best l w from_ = R
 refine PCalls.of_body tabOk Try.func30 rfl rfl rfl rfl rfl mixed fun E hP C hI => ?_
 refine Awp.consP C ?_
 refine rvc_un (rexec_prim C (δ := { v := .ptr 4 0, new := [(4, .cells [.pv (.lit (.int .i64 ((w 0) 0))), .pv (.lit (.int .i64 ((w 0) 1))), .pv (.lit (.int .i64 ((w 0) 2))), .pv (.lit (.int .i64 ((w 1) 0))), .pv (.lit (.int .i64 ((w 1) 1))), .pv (.lit (.int .i64 ((w 1) 2))), .pv (.lit (.int .i64 ((w 2) 0))), .pv (.lit (.int .i64 ((w 2) 1))), .pv (.lit (.int .i64 ((w 2) 2)))])] }) rfl rfl rfl rfl trivial rfl ?_)
 refine rvP C (sS (some true) eMember []) ?_
 refine rvP C (.pv (.lit (.int .i64 0))) ?_
 refine rvP C (.pv (.lit (.int .i64 0))) ?_
 refine rvc_nil ?_
 refine Awp.consP C ?_
 refine rvP C (sS (some l.nil) eMember l.D) ?_
 obtain ⟨fc, hq_fc⟩ : ∃ q_, q_ = (firstC l) := ⟨_, rfl⟩
 have hc_fc := (firstC_calls l hl1)
 first | rw [← hq_fc] at hR hc_fc | (unfold best at hR; rw [← hq_fc] at hR hc_fc)
 have hf0_fc := firstC_len l
 rw [← hq_fc] at hf0_fc
 refine rvc_un (rexec_call hP C rfl rfl rfl hc_fc ?_)
 refine rvP C (.tup [.agg [.pv (.lit (.int .i64 fc.1.epoch)), sS (some fc.1.members.nil) eMember fc.1.members.D], .pv (.lit (.int .i64 fc.2))]) ?_
 refine rvP C (.agg [.pv (.lit (.int .i64 fc.1.epoch)), sS (some fc.1.members.nil) eMember fc.1.members.D]) ?_
 refine rvP C (.pv (.lit (.int .i64 fc.2))) ?_
 refine rvc_un (rexec_prim C (δ := { v := .ptr 9 0, new := [(9, .cells [.pv (.lit (.int .i64 0)), sS (some true) eMember []])] }) rfl rfl rfl rfl trivial rfl ?_)
 refine rvc_un (rexec_prim C (δ := { v := .undef, wr := [(9, some (.cells [.pv (.lit (.int .i64 fc.1.epoch)), sS (some fc.1.members.nil) eMember fc.1.members.D]))] }) rfl rfl rfl rfl trivial rfl ?_)
 refine rvP C (.pv (.lit (.int .i64 fc.2))) ?_
 refine rvc_nil ?_
 refine Awp.seq ?_
 refine Awp.consP C ?_
 refine rvP C (.pv (.lit (.int .i64 fc.2))) ?_
 refine rvP C (.pv (.lit (.bool (fc.2 != 0)))) ?_
 refine rvc_nil ?_
 refine Awp.cond (b := (fc.2 != 0)) rfl (fun h1 => ?_) (fun h1 => ?_)
 ·
  replace hR := of_true h1 hR
  refine Awp.consP C ?_
  refine rvP C (.pv (.lit (.int .i64 fc.2))) ?_
  refine rvP C (sS (some true) eMember []) ?_
  refine rvP C (.pv (.lit (.int .i64 0))) ?_
  refine rvP C (.pv (.lit (.int .i64 fc.2))) ?_
  refine rvc_nil ?_
  refine Awp.ret ?_
  subst hR
  exact ⟨.inl rfl, rfl⟩
 ·
  replace hR := of_false h1 hR
  refine Awp.skip ?_
  refine Awp.seq ?_
  refine Awp.consP C ?_
  refine rvP C (.agg [.pv (.lit (.int .i64 fc.1.epoch)), sS (some fc.1.members.nil) eMember fc.1.members.D]) ?_
  refine rvP C (.agg [.pv (.lit (.int .i64 ((w 0) 0))), .pv (.lit (.int .i64 ((w 0) 1))), .pv (.lit (.int .i64 ((w 0) 2))), .pv (.lit (.int .i64 ((w 1) 0))), .pv (.lit (.int .i64 ((w 1) 1))), .pv (.lit (.int .i64 ((w 1) 2))), .pv (.lit (.int .i64 ((w 2) 0))), .pv (.lit (.int .i64 ((w 2) 1))), .pv (.lit (.int .i64 ((w 2) 2)))]) ?_
  refine rvP C (.pv (.lit (.int .i64 from_))) ?_
  refine rvc_un (rexec_call hP C rfl rfl rfl (able_calls fc.1 w from_ (by show fc.1.members.D.length ≤ 1000000; have := firstC_len l; have := eq_of_bne_false h1; omega)) ?_)
  refine rvP C (.pv (.lit (.int .i64 (able fc.1 w from_)))) ?_
  refine rvc_nil ?_
  refine Awp.consP C ?_
  refine rvP C (.pv (.lit (.int .i64 (able fc.1 w from_)))) ?_
  refine rvP C (.pv (.lit (.bool ((able fc.1 w from_) != 0)))) ?_
  refine rvc_nil ?_
  refine Awp.cond (b := ((able fc.1 w from_) != 0)) rfl (fun h2 => ?_) (fun h2 => ?_)
  ·
   replace hR := of_true h2 hR
   refine Awp.consP C ?_
   refine rvP C (.pv (.lit (.int .i64 (able fc.1 w from_)))) ?_
   refine rvP C (sS (some true) eMember []) ?_
   refine rvP C (.pv (.lit (.int .i64 0))) ?_
   refine rvP C (.pv (.lit (.int .i64 (able fc.1 w from_)))) ?_
   refine rvc_nil ?_
   refine Awp.ret ?_
   subst hR
   exact ⟨.inl rfl, rfl⟩
  ·
   replace hR := of_false h2 hR
   refine Awp.skip ?_
   refine Awp.consP C ?_
   refine rvP C (sS (some true) eMember []) ?_
   refine rvc_nil ?_
   refine Awp.consP C ?_
   refine rvP C (.pv (.lit (.int .i64 (-1)))) ?_
   refine rvc_nil ?_
   refine Awp.seq ?_
   refine Awp.consP C ?_
   refine rvP C (.agg [.pv (.lit (.int .i64 0)), .pv (.lit (.int .i64 1)), .pv (.lit (.int .i64 2))]) ?_
   refine rvP C (.agg [.pv (.lit (.int .i64 0)), .pv (.lit (.int .i64 2)), .pv (.lit (.int .i64 1))]) ?_
   refine rvP C (.agg [.pv (.lit (.int .i64 1)), .pv (.lit (.int .i64 0)), .pv (.lit (.int .i64 2))]) ?_
   refine rvP C (.agg [.pv (.lit (.int .i64 1)), .pv (.lit (.int .i64 2)), .pv (.lit (.int .i64 0))]) ?_
   refine rvP C (.agg [.pv (.lit (.int .i64 2)), .pv (.lit (.int .i64 0)), .pv (.lit (.int .i64 1))]) ?_
   refine rvP C (.agg [.pv (.lit (.int .i64 2)), .pv (.lit (.int .i64 1)), .pv (.lit (.int .i64 0))]) ?_
   refine rvc_un (rexec_buildSliceF C (eA3 .i64) [(ofL [(0 : Int), 1, 2]), (ofL [(0 : Int), 2, 1]), (ofL [(1 : Int), 0, 2]), (ofL [(1 : Int), 2, 0]), (ofL [(2 : Int), 0, 1]), (ofL [(2 : Int), 1, 0])] rfl rfl rfl rfl rfl rfl rfl (by decide) rfl ?_)
   refine rvP C (.pv (.lit (.int .i64 ([(ofL [(0 : Int), 1, 2]), (ofL [(0 : Int), 2, 1]), (ofL [(1 : Int), 0, 2]), (ofL [(1 : Int), 2, 0]), (ofL [(2 : Int), 0, 1]), (ofL [(2 : Int), 1, 0])].length : Int)))) ?_
   refine rvP C (.pv (.lit (.int .i64 0))) ?_
   refine rvc_nil ?_
   refine Awp.block ?_
   refine Awp.forR (σ := ((Sl Member)) × Int) ([(ofL [(0 : Int), 1, 2]), (ofL [(0 : Int), 2, 1]), (ofL [(1 : Int), 0, 2]), (ofL [(1 : Int), 2, 0]), (ofL [(2 : Int), 0, 1]), (ofL [(2 : Int), 1, 0])].length) (fun i v => [(2, .pv (.lit (.int .i64 from_))), (4, .ptr 4 0), (9, .ptr 9 0), (12, sS (some v.1.nil) eMember v.1.D), (13, .pv (.lit (.int .i64 v.2))), (44, sS (some false) (eA3 .i64) [(ofL [(0 : Int), 1, 2]), (ofL [(0 : Int), 2, 1]), (ofL [(1 : Int), 0, 2]), (ofL [(1 : Int), 2, 0]), (ofL [(2 : Int), 0, 1]), (ofL [(2 : Int), 1, 0])]), (45, .pv (.lit (.int .i64 ([(ofL [(0 : Int), 1, 2]), (ofL [(0 : Int), 2, 1]), (ofL [(1 : Int), 0, 2]), (ofL [(1 : Int), 2, 0]), (ofL [(2 : Int), 0, 1]), (ofL [(2 : Int), 1, 0])].length : Int)))), (46, .pv (.lit (.int .i64 (i : Int))))]) (fun i v => [(4, .cells [.pv (.lit (.int .i64 ((w 0) 0))), .pv (.lit (.int .i64 ((w 0) 1))), .pv (.lit (.int .i64 ((w 0) 2))), .pv (.lit (.int .i64 ((w 1) 0))), .pv (.lit (.int .i64 ((w 1) 1))), .pv (.lit (.int .i64 ((w 1) 2))), .pv (.lit (.int .i64 ((w 2) 0))), .pv (.lit (.int .i64 ((w 2) 1))), .pv (.lit (.int .i64 ((w 2) 2)))]), (9, .cells [.pv (.lit (.int .i64 fc.1.epoch)), sS (some fc.1.members.nil) eMember fc.1.members.D])]) [4, 9] (fun i v => best_l0 w from_ fc ([(ofL [(0 : Int), 1, 2]), (ofL [(0 : Int), 2, 1]), (ofL [(1 : Int), 0, 2]), (ofL [(1 : Int), 2, 0]), (ofL [(2 : Int), 0, 1]), (ofL [(2 : Int), 1, 0])].drop i) i v.1 v.2 = R) ((Sl.mk true []), (-1)) ?_ ?_ (fun i v h3 hR => ?_)
   · exact hR
   · exact ⟨fun b => b, WeakerR.ofL (Ks := [4, 9]) hI ⟨⟨rfl, rfl⟩, ⟨rfl, rfl⟩, ⟨rfl, rfl⟩, ⟨rfl, rfl⟩, ⟨rfl, rfl⟩, ⟨rfl, rfl⟩, ⟨rfl, rfl⟩, ⟨rfl, rfl⟩, trivial⟩ (okH_cons rfl rfl rfl rfl (okH_cons rfl rfl rfl rfl (okH_nil))) rfl⟩
   obtain ⟨best, least⟩ := v
   have h6_ := check_le6 (able_ok (eq_of_bne_false ‹(able fc.1 w from_ != 0) = false›)).1
   have hl_ := check_len (able_ok (eq_of_bne_false ‹(able fc.1 w from_ != 0) = false›)).1
   have hb6_ : ([(ofL [(0 : Int), 1, 2]), (ofL [(0 : Int), 2, 1]), (ofL [(1 : Int), 0, 2]), (ofL [(1 : Int), 2, 0]), (ofL [(2 : Int), 0, 1]), (ofL [(2 : Int), 1, 0])] : List (Nat → Int)).length = 6 := rfl
   refine Awp.consP C ?_
   refine rvP C (.pv (.lit (.bool (decide ((i : Int) < ([(ofL [(0 : Int), 1, 2]), (ofL [(0 : Int), 2, 1]), (ofL [(1 : Int), 0, 2]), (ofL [(1 : Int), 2, 0]), (ofL [(2 : Int), 0, 1]), (ofL [(2 : Int), 1, 0])].length : Int)))))) ?_
   refine rvc_nil ?_
   refine Awp.seq ?_
   refine Awp.cond (b := (decide ((i : Int) < ([(ofL [(0 : Int), 1, 2]), (ofL [(0 : Int), 2, 1]), (ofL [(1 : Int), 0, 2]), (ofL [(1 : Int), 2, 0]), (ofL [(2 : Int), 0, 1]), (ofL [(2 : Int), 1, 0])].length : Int)))) rfl (fun h4 => ?_) (fun h4 => ?_)
   ·
    have h5 : i < [(ofL [(0 : Int), 1, 2]), (ofL [(0 : Int), 2, 1]), (ofL [(1 : Int), 0, 2]), (ofL [(1 : Int), 2, 0]), (ofL [(2 : Int), 0, 1]), (ofL [(2 : Int), 1, 0])].length := by have := of_decide_eq_true h4; omega
    obtain ⟨x, h6⟩ := getX h5
    rw [drop_at h6] at hR
    refine Awp.skip ?_
    refine Awp.seq ?_
    refine Awp.block ?_
    refine Awp.consP C ?_
    refine rvc_un (rexec_idxS C rfl rfl rfl rfl rfl rfl x (Int.natCast_nonneg _) h6 ?_)
    refine rvP C (.agg [.pv (.lit (.int .i64 (x 0))), .pv (.lit (.int .i64 (x 1))), .pv (.lit (.int .i64 (x 2)))]) ?_
    refine rvc_un (rexec_prim C (δ := { v := .ptr 15 0, new := [(15, .cells [.pv (.lit (.int .i64 0)), .pv (.lit (.int .i64 0)), .pv (.lit (.int .i64 0))])] }) rfl rfl rfl rfl trivial rfl ?_)
    refine rvc_un (rexec_prim C (δ := { v := .undef, wr := [(15, some (.cells [.pv (.lit (.int .i64 (x 0))), .pv (.lit (.int .i64 (x 1))), .pv (.lit (.int .i64 (x 2)))]))] }) rfl rfl rfl rfl trivial rfl ?_)
    refine rvc_nil ?_
    refine Awp.consP C ?_
    refine rvP C (sS (some true) eMember []) ?_
    refine rvc_nil ?_
    refine Awp.seq ?_
    refine Awp.consP C ?_
    refine rvP C (.agg [.pv (.lit (.int .i64 (x 0))), .pv (.lit (.int .i64 (x 1))), .pv (.lit (.int .i64 (x 2)))]) ?_
    refine rvP C (.pv (.lit (.int .i64 0))) ?_
    refine rvc_nil ?_
    refine Awp.block ?_
    refine Awp.forR (σ := ((List Member))) (3) (fun i1 v => [(2, .pv (.lit (.int .i64 from_))), (4, .ptr 4 0), (9, .ptr 9 0), (12, sS (some best.nil) eMember best.D), (13, .pv (.lit (.int .i64 least))), (16, grow 900 eMember v), (44, sS (some false) (eA3 .i64) [(ofL [(0 : Int), 1, 2]), (ofL [(0 : Int), 2, 1]), (ofL [(1 : Int), 0, 2]), (ofL [(1 : Int), 2, 0]), (ofL [(2 : Int), 0, 1]), (ofL [(2 : Int), 1, 0])]), (45, .pv (.lit (.int .i64 ([(ofL [(0 : Int), 1, 2]), (ofL [(0 : Int), 2, 1]), (ofL [(1 : Int), 0, 2]), (ofL [(1 : Int), 2, 0]), (ofL [(2 : Int), 0, 1]), (ofL [(2 : Int), 1, 0])].length : Int)))), (46, .pv (.lit (.int .i64 (i : Int)))), (50, .agg [.pv (.lit (.int .i64 (x 0))), .pv (.lit (.int .i64 (x 1))), .pv (.lit (.int .i64 (x 2)))]), (51, .pv (.lit (.int .i64 (i1 : Int))))]) (fun i1 v => (growH 900 eMember v ++ ([(4, .cells [.pv (.lit (.int .i64 ((w 0) 0))), .pv (.lit (.int .i64 ((w 0) 1))), .pv (.lit (.int .i64 ((w 0) 2))), .pv (.lit (.int .i64 ((w 1) 0))), .pv (.lit (.int .i64 ((w 1) 1))), .pv (.lit (.int .i64 ((w 1) 2))), .pv (.lit (.int .i64 ((w 2) 0))), .pv (.lit (.int .i64 ((w 2) 1))), .pv (.lit (.int .i64 ((w 2) 2)))]), (9, .cells [.pv (.lit (.int .i64 fc.1.epoch)), sS (some fc.1.members.nil) eMember fc.1.members.D])]))) [4, 9, 900] (fun i1 v => (best_l1 fc x (fun members => (bif (decide (least < 0)) then best_l0 w from_ fc ([(ofL [(0 : Int), 1, 2]), (ofL [(0 : Int), 2, 1]), (ofL [(1 : Int), 0, 2]), (ofL [(1 : Int), 2, 0]), (ofL [(2 : Int), 0, 1]), (ofL [(2 : Int), 1, 0])].drop (i + 1)) (i + 1) (Sl.mk members.isEmpty members) (IntKind.i64.wrap ((IntKind.i64.wrap (2 * ((w from_.toNat) (members[0]!.site).toNat))) + (IntKind.i64.wrap (2 * (down (Chain.mk 0 (Sl.mk members.isEmpty members)) w))))) else (bif (decide ((IntKind.i64.wrap ((IntKind.i64.wrap (2 * ((w from_.toNat) (members[0]!.site).toNat))) + (IntKind.i64.wrap (2 * (down (Chain.mk 0 (Sl.mk members.isEmpty members)) w))))) < least)) then best_l0 w from_ fc ([(ofL [(0 : Int), 1, 2]), (ofL [(0 : Int), 2, 1]), (ofL [(1 : Int), 0, 2]), (ofL [(1 : Int), 2, 0]), (ofL [(2 : Int), 0, 1]), (ofL [(2 : Int), 1, 0])].drop (i + 1)) (i + 1) (Sl.mk members.isEmpty members) (IntKind.i64.wrap ((IntKind.i64.wrap (2 * ((w from_.toNat) (members[0]!.site).toNat))) + (IntKind.i64.wrap (2 * (down (Chain.mk 0 (Sl.mk members.isEmpty members)) w))))) else best_l0 w from_ fc ([(ofL [(0 : Int), 1, 2]), (ofL [(0 : Int), 2, 1]), (ofL [(1 : Int), 0, 2]), (ofL [(1 : Int), 2, 0]), (ofL [(2 : Int), 0, 1]), (ofL [(2 : Int), 1, 0])].drop (i + 1)) (i + 1) best least))) (3 - i1) i1 v = R) ∧ (v = inOrder fc.1.members.D x i1) ∧ (v.length ≤ i1 * 6)) [] ?_ ?_ (fun i1 members h7 hR => ?_)
    · exact ⟨hR, rfl, (by first | omega | (simp <;> omega))⟩
    · exact ⟨fun b => b, WeakerR.ofL (Ks := [4, 9, 900]) hI ⟨⟨rfl, rfl⟩, ⟨rfl, rfl⟩, ⟨rfl, rfl⟩, ⟨rfl, rfl⟩, ⟨rfl, rfl⟩, ⟨rfl, rfl⟩, ⟨rfl, rfl⟩, ⟨rfl, rfl⟩, ⟨rfl, rfl⟩, ⟨rfl, rfl⟩, ⟨rfl, rfl⟩, trivial⟩ (okH_grow (fun hne => absurd rfl hne) rfl rfl (okH_cons rfl rfl rfl rfl (okH_cons rfl rfl rfl rfl (okH_nil)))) rfl⟩
    obtain ⟨hR, hV, hi_members⟩ := hR
    replace hi_members : members.length ≤ i1 * 6 := hi_members
    by_cases h8 : members = []
    ·
     refine Awp.wordsR [(2, .pv (.lit (.int .i64 from_))), (4, .ptr 4 0), (9, .ptr 9 0), (12, sS (some best.nil) eMember best.D), (13, .pv (.lit (.int .i64 least))), (16, sS (some members.isEmpty) eMember members), (44, sS (some false) (eA3 .i64) [(ofL [(0 : Int), 1, 2]), (ofL [(0 : Int), 2, 1]), (ofL [(1 : Int), 0, 2]), (ofL [(1 : Int), 2, 0]), (ofL [(2 : Int), 0, 1]), (ofL [(2 : Int), 1, 0])]), (45, .pv (.lit (.int .i64 ([(ofL [(0 : Int), 1, 2]), (ofL [(0 : Int), 2, 1]), (ofL [(1 : Int), 0, 2]), (ofL [(1 : Int), 2, 0]), (ofL [(2 : Int), 0, 1]), (ofL [(2 : Int), 1, 0])].length : Int)))), (46, .pv (.lit (.int .i64 (i : Int)))), (50, .agg [.pv (.lit (.int .i64 (x 0))), .pv (.lit (.int .i64 (x 1))), .pv (.lit (.int .i64 (x 2)))]), (51, .pv (.lit (.int .i64 (i1 : Int))))] [(4, .cells [.pv (.lit (.int .i64 ((w 0) 0))), .pv (.lit (.int .i64 ((w 0) 1))), .pv (.lit (.int .i64 ((w 0) 2))), .pv (.lit (.int .i64 ((w 1) 0))), .pv (.lit (.int .i64 ((w 1) 1))), .pv (.lit (.int .i64 ((w 1) 2))), .pv (.lit (.int .i64 ((w 2) 0))), .pv (.lit (.int .i64 ((w 2) 1))), .pv (.lit (.int .i64 ((w 2) 2)))]), (9, .cells [.pv (.lit (.int .i64 fc.1.epoch)), sS (some fc.1.members.nil) eMember fc.1.members.D])] [4, 9] (WeakerR.ofL (Ks := [4, 9]) hI ⟨⟨rfl, rfl⟩, ⟨rfl, rfl⟩, ⟨rfl, rfl⟩, ⟨rfl, rfl⟩, ⟨rfl, rfl⟩, ⟨(by exact grow_at_nil (b := 900) (e := eMember) (l := members) rfl h8), rfl⟩, ⟨rfl, rfl⟩, ⟨rfl, rfl⟩, ⟨rfl, rfl⟩, ⟨rfl, rfl⟩, ⟨rfl, rfl⟩, trivial⟩ (okH_cons (look_nil h8 rfl) rfl rfl rfl (okH_cons (look_nil h8 rfl) rfl rfl rfl (okH_nil))) rfl) ?_
     refine Awp.consP C ?_
     refine rvP C (.pv (.lit (.bool (decide ((i1 : Int) < 3))))) ?_
     refine rvc_nil ?_
     refine Awp.seq ?_
     refine Awp.cond (b := (decide ((i1 : Int) < 3))) rfl (fun h9 => ?_) (fun h9 => ?_)
     ·
      have h10 : i1 < 3 := by have := of_decide_eq_true h9; omega
      obtain ⟨k, h11⟩ : ∃ k, 3 - i1 = k + 1 := ⟨3 - i1 - 1, by omega⟩
      rw [h11] at hR
      refine Awp.skip ?_
      refine Awp.seq ?_
      refine Awp.block ?_
      refine Awp.consP C ?_
      refine rvc_un (rexec_idxA C (fun j => .pv (.lit (.int .i64 (x j)))) (.pv (.lit (.int .i64 (x i1)))) rfl rfl rfl rfl rfl rfl rfl rfl ⟨(by have := firstC_len l; have := eq_of_bne_false h1; have := eq_of_bne_false h2; have := of_decide_eq_true h4; have := of_decide_eq_true h9; omega), (by have := firstC_len l; have := eq_of_bne_false h1; have := eq_of_bne_false h2; have := of_decide_eq_true h4; have := of_decide_eq_true h9; omega)⟩ rfl ?_)
      refine rvP C (.pv (.lit (.int .i64 (x i1)))) ?_
      refine rvc_nil ?_
      refine Awp.consP C ?_
      refine rvP C (.ptr 9 1) ?_
      refine rvP C (sS (some fc.1.members.nil) eMember fc.1.members.D) ?_
      refine rvP C (.pv (.lit (.int .i64 (fc.1.members.D.length : Int)))) ?_
      refine rvP C (.pv (.lit (.int .i64 0))) ?_
      refine rvc_nil ?_
      refine Awp.block ?_
      refine Awp.forR (σ := ((List Member))) (fc.1.members.D.length) (fun i2 v => [(2, .pv (.lit (.int .i64 from_))), (4, .ptr 4 0), (9, .ptr 9 0), (12, sS (some best.nil) eMember best.D), (13, .pv (.lit (.int .i64 least))), (16, grow 901 eMember v), (18, .pv (.lit (.int .i64 (x i1)))), (44, sS (some false) (eA3 .i64) [(ofL [(0 : Int), 1, 2]), (ofL [(0 : Int), 2, 1]), (ofL [(1 : Int), 0, 2]), (ofL [(1 : Int), 2, 0]), (ofL [(2 : Int), 0, 1]), (ofL [(2 : Int), 1, 0])]), (45, .pv (.lit (.int .i64 ([(ofL [(0 : Int), 1, 2]), (ofL [(0 : Int), 2, 1]), (ofL [(1 : Int), 0, 2]), (ofL [(1 : Int), 2, 0]), (ofL [(2 : Int), 0, 1]), (ofL [(2 : Int), 1, 0])].length : Int)))), (46, .pv (.lit (.int .i64 (i : Int)))), (50, .agg [.pv (.lit (.int .i64 (x 0))), .pv (.lit (.int .i64 (x 1))), .pv (.lit (.int .i64 (x 2)))]), (51, .pv (.lit (.int .i64 (i1 : Int)))), (55, sS (some fc.1.members.nil) eMember fc.1.members.D), (56, .pv (.lit (.int .i64 (fc.1.members.D.length : Int)))), (57, .pv (.lit (.int .i64 (i2 : Int))))]) (fun i2 v => (growH 901 eMember v ++ ([(4, .cells [.pv (.lit (.int .i64 ((w 0) 0))), .pv (.lit (.int .i64 ((w 0) 1))), .pv (.lit (.int .i64 ((w 0) 2))), .pv (.lit (.int .i64 ((w 1) 0))), .pv (.lit (.int .i64 ((w 1) 1))), .pv (.lit (.int .i64 ((w 1) 2))), .pv (.lit (.int .i64 ((w 2) 0))), .pv (.lit (.int .i64 ((w 2) 1))), .pv (.lit (.int .i64 ((w 2) 2)))]), (9, .cells [.pv (.lit (.int .i64 fc.1.epoch)), sS (some fc.1.members.nil) eMember fc.1.members.D])]))) [4, 9, 901] (fun i2 v => (best_l2 x i1 (fun members1 => best_l1 fc x (fun members => (bif (decide (least < 0)) then best_l0 w from_ fc ([(ofL [(0 : Int), 1, 2]), (ofL [(0 : Int), 2, 1]), (ofL [(1 : Int), 0, 2]), (ofL [(1 : Int), 2, 0]), (ofL [(2 : Int), 0, 1]), (ofL [(2 : Int), 1, 0])].drop (i + 1)) (i + 1) (Sl.mk members.isEmpty members) (IntKind.i64.wrap ((IntKind.i64.wrap (2 * ((w from_.toNat) (members[0]!.site).toNat))) + (IntKind.i64.wrap (2 * (down (Chain.mk 0 (Sl.mk members.isEmpty members)) w))))) else (bif (decide ((IntKind.i64.wrap ((IntKind.i64.wrap (2 * ((w from_.toNat) (members[0]!.site).toNat))) + (IntKind.i64.wrap (2 * (down (Chain.mk 0 (Sl.mk members.isEmpty members)) w))))) < least)) then best_l0 w from_ fc ([(ofL [(0 : Int), 1, 2]), (ofL [(0 : Int), 2, 1]), (ofL [(1 : Int), 0, 2]), (ofL [(1 : Int), 2, 0]), (ofL [(2 : Int), 0, 1]), (ofL [(2 : Int), 1, 0])].drop (i + 1)) (i + 1) (Sl.mk members.isEmpty members) (IntKind.i64.wrap ((IntKind.i64.wrap (2 * ((w from_.toNat) (members[0]!.site).toNat))) + (IntKind.i64.wrap (2 * (down (Chain.mk 0 (Sl.mk members.isEmpty members)) w))))) else best_l0 w from_ fc ([(ofL [(0 : Int), 1, 2]), (ofL [(0 : Int), 2, 1]), (ofL [(1 : Int), 0, 2]), (ofL [(1 : Int), 2, 0]), (ofL [(2 : Int), 0, 1]), (ofL [(2 : Int), 1, 0])].drop (i + 1)) (i + 1) best least))) k (i1 + 1) members1) (fc.1.members.D.drop i2) i2 v = R) ∧ (v = inOrder fc.1.members.D x i1 ++ (fc.1.members.D.take i2).filter fun y => y.site == x i1) ∧ (v.length ≤ members.length + i2)) members ?_ ?_ (fun i2 members1 h12 hR => ?_)
      · exact ⟨hR, (by rw [List.take_zero, List.filter_nil, List.append_nil]; exact hV), (by first | omega | (simp <;> omega))⟩
      · exact ⟨fun b => b, WeakerR.ofL (Ks := [4, 9, 901]) hI ⟨⟨rfl, rfl⟩, ⟨rfl, rfl⟩, ⟨rfl, rfl⟩, ⟨rfl, rfl⟩, ⟨rfl, rfl⟩, ⟨grow_to_nil rfl h8 (.inr rfl), grow_within rfl⟩, ⟨rfl, rfl⟩, ⟨rfl, rfl⟩, ⟨rfl, rfl⟩, ⟨rfl, rfl⟩, ⟨rfl, rfl⟩, ⟨rfl, rfl⟩, ⟨rfl, rfl⟩, ⟨rfl, rfl⟩, ⟨rfl, rfl⟩, trivial⟩ (okH_grow (fun hne => absurd h8 hne) rfl rfl (okH_cons rfl rfl rfl rfl (okH_cons rfl rfl rfl rfl (okH_nil)))) rfl⟩
      obtain ⟨hR, hW, hi_members1⟩ := hR
      replace hi_members1 : members1.length ≤ members.length + i2 := hi_members1
      by_cases h13 : members1 = []
      ·
       refine Awp.wordsR [(2, .pv (.lit (.int .i64 from_))), (4, .ptr 4 0), (9, .ptr 9 0), (12, sS (some best.nil) eMember best.D), (13, .pv (.lit (.int .i64 least))), (16, sS (some members1.isEmpty) eMember members1), (18, .pv (.lit (.int .i64 (x i1)))), (44, sS (some false) (eA3 .i64) [(ofL [(0 : Int), 1, 2]), (ofL [(0 : Int), 2, 1]), (ofL [(1 : Int), 0, 2]), (ofL [(1 : Int), 2, 0]), (ofL [(2 : Int), 0, 1]), (ofL [(2 : Int), 1, 0])]), (45, .pv (.lit (.int .i64 ([(ofL [(0 : Int), 1, 2]), (ofL [(0 : Int), 2, 1]), (ofL [(1 : Int), 0, 2]), (ofL [(1 : Int), 2, 0]), (ofL [(2 : Int), 0, 1]), (ofL [(2 : Int), 1, 0])].length : Int)))), (46, .pv (.lit (.int .i64 (i : Int)))), (50, .agg [.pv (.lit (.int .i64 (x 0))), .pv (.lit (.int .i64 (x 1))), .pv (.lit (.int .i64 (x 2)))]), (51, .pv (.lit (.int .i64 (i1 : Int)))), (55, sS (some fc.1.members.nil) eMember fc.1.members.D), (56, .pv (.lit (.int .i64 (fc.1.members.D.length : Int)))), (57, .pv (.lit (.int .i64 (i2 : Int))))] [(4, .cells [.pv (.lit (.int .i64 ((w 0) 0))), .pv (.lit (.int .i64 ((w 0) 1))), .pv (.lit (.int .i64 ((w 0) 2))), .pv (.lit (.int .i64 ((w 1) 0))), .pv (.lit (.int .i64 ((w 1) 1))), .pv (.lit (.int .i64 ((w 1) 2))), .pv (.lit (.int .i64 ((w 2) 0))), .pv (.lit (.int .i64 ((w 2) 1))), .pv (.lit (.int .i64 ((w 2) 2)))]), (9, .cells [.pv (.lit (.int .i64 fc.1.epoch)), sS (some fc.1.members.nil) eMember fc.1.members.D])] [4, 9] (WeakerR.ofL (Ks := [4, 9]) hI ⟨⟨rfl, rfl⟩, ⟨rfl, rfl⟩, ⟨rfl, rfl⟩, ⟨rfl, rfl⟩, ⟨rfl, rfl⟩, ⟨(by exact grow_at_nil (b := 901) (e := eMember) (l := members1) rfl h13), rfl⟩, ⟨rfl, rfl⟩, ⟨rfl, rfl⟩, ⟨rfl, rfl⟩, ⟨rfl, rfl⟩, ⟨rfl, rfl⟩, ⟨rfl, rfl⟩, ⟨rfl, rfl⟩, ⟨rfl, rfl⟩, ⟨rfl, rfl⟩, trivial⟩ (okH_cons (look_nil h13 rfl) rfl rfl rfl (okH_cons (look_nil h13 rfl) rfl rfl rfl (okH_nil))) rfl) ?_
       refine Awp.consP C ?_
       refine rvP C (.pv (.lit (.bool (decide ((i2 : Int) < (fc.1.members.D.length : Int)))))) ?_
       refine rvc_nil ?_
       refine Awp.seq ?_
       refine Awp.cond (b := (decide ((i2 : Int) < (fc.1.members.D.length : Int)))) rfl (fun h14 => ?_) (fun h14 => ?_)
       ·
        have h15 : i2 < fc.1.members.D.length := by have := of_decide_eq_true h14; omega
        obtain ⟨x1, h16⟩ := getX h15
        rw [drop_at h16] at hR
        refine Awp.skip ?_
        refine Awp.seq ?_
        refine Awp.block ?_
        refine Awp.consP C ?_
        refine rvc_un (rexec_idxS C rfl rfl rfl rfl rfl rfl x1 (Int.natCast_nonneg _) h16 ?_)
        refine rvP C (.agg [.pv (.lit (.int .i64 x1.node)), .pv (.lit (.int .i64 x1.site)), .pv (.lit (.bool x1.fresh))]) ?_
        refine rvc_un (rexec_prim C (δ := { v := .ptr 20 0, new := [(20, .cells [.pv (.lit (.int .i64 0)), .pv (.lit (.int .i64 0)), .pv (.lit (.bool false))])] }) rfl rfl rfl rfl trivial rfl ?_)
        refine rvc_un (rexec_prim C (δ := { v := .undef, wr := [(20, some (.cells [.pv (.lit (.int .i64 x1.node)), .pv (.lit (.int .i64 x1.site)), .pv (.lit (.bool x1.fresh))]))] }) rfl rfl rfl rfl trivial rfl ?_)
        refine rvc_nil ?_
        refine Awp.consP C ?_
        refine rvP C (.ptr 20 1) ?_
        refine rvP C (.pv (.lit (.int .i64 x1.site))) ?_
        refine rvP C (.pv (.lit (.int .i64 (x i1)))) ?_
        refine rvP C (.pv (.lit (.bool (x1.site == (x i1))))) ?_
        refine rvc_nil ?_
        refine Awp.cond (b := (x1.site == (x i1))) rfl (fun h17 => ?_) (fun h17 => ?_)
        ·
         replace hR := of_true h17 hR
         refine Awp.regionP C ?_
         refine rvP C (sS (some members1.isEmpty) eMember members1) ?_
         refine rvP C (.agg [.pv (.lit (.int .i64 x1.node)), .pv (.lit (.int .i64 x1.site)), .pv (.lit (.bool x1.fresh))]) ?_
         refine rvc_un (rexec_buildSliceF C eMember [x1] rfl rfl rfl rfl rfl rfl rfl (by decide) rfl ?_)
         refine rvc_un (rexec_appendG C rfl rfl rfl rfl rfl rfl rfl rfl (fun _ h => by cases h) rfl (en := eMember) (l := members1) (D := [x1]) rfl rfl h13 (by rw [h13]; rfl) (by simp) (by have := firstC_len l; have := eq_of_bne_false h1; have := eq_of_bne_false h2; have := of_decide_eq_true h4; have := of_decide_eq_true h9; have := of_decide_eq_true h14; have := beq_iff_eq.1 h17; first | omega | (simp <;> omega)) (by decide) (nn := (members1 ++ [x1]).length) (by simp) ?_)
         refine rvP C (.sl 68 0 ((members1 ++ [x1]).length) 3 false) ?_
         refine rvc_nil ?_
         refine Awp.regionP C ?_
         refine rvP C (.pv (.lit (.int .i64 (IntKind.i64.wrap ((i2 : Int) + 1))))) ?_
         refine rvP C (.pv (.lit (.int .i64 (IntKind.i64.wrap ((i2 : Int) + 1))))) ?_
         refine rvc_nil ?_
         refine ⟨h15, (members1 ++ [x1]), ?_, ?_⟩
         · exact ⟨hR, (by first | exact order_in hW (by assumption) (by assumption) | exact order_out hW (by assumption) (by assumption)), (by first | omega | (simp <;> omega))⟩
         · exact ⟨fun b => bif b == 901 then 68 else (fun b => b) b, WeakerR.ofL (Ks := [4, 9, 901]) hI ⟨⟨rfl, rfl⟩, ⟨rfl, rfl⟩, ⟨rfl, rfl⟩, ⟨rfl, rfl⟩, ⟨rfl, rfl⟩, ⟨grow_to rfl rfl app_ne rfl rfl, grow_within rfl⟩, ⟨rfl, rfl⟩, ⟨rfl, rfl⟩, ⟨rfl, rfl⟩, ⟨rfl, rfl⟩, ⟨rfl, rfl⟩, ⟨rfl, rfl⟩, ⟨rfl, rfl⟩, ⟨rfl, rfl⟩, ⟨lit_cast (wrap_i64 (by omega) (by omega)), rfl⟩, trivial⟩ (okH_grow (fun _ => rfl) rfl rfl (okH_cons rfl rfl rfl rfl (okH_cons rfl rfl rfl rfl (okH_nil)))) rfl⟩
        ·
         replace hR := of_false h17 hR
         refine Awp.skip ?_
         refine Awp.regionP C ?_
         refine rvP C (.pv (.lit (.int .i64 (IntKind.i64.wrap ((i2 : Int) + 1))))) ?_
         refine rvP C (.pv (.lit (.int .i64 (IntKind.i64.wrap ((i2 : Int) + 1))))) ?_
         refine rvc_nil ?_
         refine ⟨h15, members1, ?_, ?_⟩
         · exact ⟨hR, (by first | exact order_in hW (by assumption) (by assumption) | exact order_out hW (by assumption) (by assumption)), (by first | omega | (simp <;> omega))⟩
         · exact ⟨fun b => b, WeakerR.ofL (Ks := [4, 9, 901]) hI ⟨⟨rfl, rfl⟩, ⟨rfl, rfl⟩, ⟨rfl, rfl⟩, ⟨rfl, rfl⟩, ⟨rfl, rfl⟩, ⟨grow_to_nil rfl h13 (.inr rfl), grow_within rfl⟩, ⟨rfl, rfl⟩, ⟨rfl, rfl⟩, ⟨rfl, rfl⟩, ⟨rfl, rfl⟩, ⟨rfl, rfl⟩, ⟨rfl, rfl⟩, ⟨rfl, rfl⟩, ⟨rfl, rfl⟩, ⟨lit_cast (wrap_i64 (by omega) (by omega)), rfl⟩, trivial⟩ (okH_grow (fun hne => absurd h13 hne) rfl rfl (okH_cons rfl rfl rfl rfl (okH_cons rfl rfl rfl rfl (okH_nil)))) rfl⟩
       ·
        have h15 : ¬ i2 < fc.1.members.D.length := by have := of_decide_eq_false h14; omega
        rw [drop_end h15] at hR
        refine Awp.exit ?_
        refine Awp.regionP C ?_
        refine rvP C (.pv (.lit (.int .i64 (IntKind.i64.wrap ((i1 : Int) + 1))))) ?_
        refine rvP C (.pv (.lit (.int .i64 (IntKind.i64.wrap ((i1 : Int) + 1))))) ?_
        refine rvc_nil ?_
        refine ⟨h10, members1, ?_, ?_⟩
        · exact ⟨(by rw [show 3 - (i1 + 1) = k by omega]; exact hR), (order_step hW (by omega)), (by first | omega | (simp <;> omega))⟩
        · exact ⟨fun b => b, WeakerR.ofL (Ks := [4, 9, 900]) hI ⟨⟨rfl, rfl⟩, ⟨rfl, rfl⟩, ⟨rfl, rfl⟩, ⟨rfl, rfl⟩, ⟨rfl, rfl⟩, ⟨grow_to_nil rfl h13 (.inr rfl), grow_within rfl⟩, ⟨rfl, rfl⟩, ⟨rfl, rfl⟩, ⟨rfl, rfl⟩, ⟨rfl, rfl⟩, ⟨lit_cast (wrap_i64 (by omega) (by omega)), rfl⟩, trivial⟩ (okH_grow (fun hne => absurd h13 hne) rfl rfl (okH_cons rfl rfl rfl rfl (okH_cons rfl rfl rfl rfl (okH_nil)))) rfl⟩
      ·
       refine Awp.wordsR [(2, .pv (.lit (.int .i64 from_))), (4, .ptr 4 0), (9, .ptr 9 0), (12, sS (some best.nil) eMember best.D), (13, .pv (.lit (.int .i64 least))), (16, .sl 901 0 members1.length 3 false), (18, .pv (.lit (.int .i64 (x i1)))), (44, sS (some false) (eA3 .i64) [(ofL [(0 : Int), 1, 2]), (ofL [(0 : Int), 2, 1]), (ofL [(1 : Int), 0, 2]), (ofL [(1 : Int), 2, 0]), (ofL [(2 : Int), 0, 1]), (ofL [(2 : Int), 1, 0])]), (45, .pv (.lit (.int .i64 ([(ofL [(0 : Int), 1, 2]), (ofL [(0 : Int), 2, 1]), (ofL [(1 : Int), 0, 2]), (ofL [(1 : Int), 2, 0]), (ofL [(2 : Int), 0, 1]), (ofL [(2 : Int), 1, 0])].length : Int)))), (46, .pv (.lit (.int .i64 (i : Int)))), (50, .agg [.pv (.lit (.int .i64 (x 0))), .pv (.lit (.int .i64 (x 1))), .pv (.lit (.int .i64 (x 2)))]), (51, .pv (.lit (.int .i64 (i1 : Int)))), (55, sS (some fc.1.members.nil) eMember fc.1.members.D), (56, .pv (.lit (.int .i64 (fc.1.members.D.length : Int)))), (57, .pv (.lit (.int .i64 (i2 : Int))))] [(901, .cells (encC eMember members1)), (4, .cells [.pv (.lit (.int .i64 ((w 0) 0))), .pv (.lit (.int .i64 ((w 0) 1))), .pv (.lit (.int .i64 ((w 0) 2))), .pv (.lit (.int .i64 ((w 1) 0))), .pv (.lit (.int .i64 ((w 1) 1))), .pv (.lit (.int .i64 ((w 1) 2))), .pv (.lit (.int .i64 ((w 2) 0))), .pv (.lit (.int .i64 ((w 2) 1))), .pv (.lit (.int .i64 ((w 2) 2)))]), (9, .cells [.pv (.lit (.int .i64 fc.1.epoch)), sS (some fc.1.members.nil) eMember fc.1.members.D])] [4, 9, 901] (WeakerR.ofL (Ks := [4, 9, 901]) hI ⟨⟨rfl, rfl⟩, ⟨rfl, rfl⟩, ⟨rfl, rfl⟩, ⟨rfl, rfl⟩, ⟨rfl, rfl⟩, ⟨(by exact grow_at_cons (b := 901) (b' := 901) (e := eMember) (l := members1) rfl h13 rfl rfl rfl), rfl⟩, ⟨rfl, rfl⟩, ⟨rfl, rfl⟩, ⟨rfl, rfl⟩, ⟨rfl, rfl⟩, ⟨rfl, rfl⟩, ⟨rfl, rfl⟩, ⟨rfl, rfl⟩, ⟨rfl, rfl⟩, ⟨rfl, rfl⟩, trivial⟩ (okH_list (look_cons h13 rfl) rfl rfl (okH_cons (look_cons h13 rfl) rfl rfl rfl (okH_cons (look_cons h13 rfl) rfl rfl rfl (okH_nil)))) rfl) ?_
       refine Awp.consP C ?_
       refine rvP C (.pv (.lit (.bool (decide ((i2 : Int) < (fc.1.members.D.length : Int)))))) ?_
       refine rvc_nil ?_
       refine Awp.seq ?_
       refine Awp.cond (b := (decide ((i2 : Int) < (fc.1.members.D.length : Int)))) rfl (fun h18 => ?_) (fun h18 => ?_)
       ·
        have h19 : i2 < fc.1.members.D.length := by have := of_decide_eq_true h18; omega
        obtain ⟨x1, h20⟩ := getX h19
        rw [drop_at h20] at hR
        refine Awp.skip ?_
        refine Awp.seq ?_
        refine Awp.block ?_
        refine Awp.consP C ?_
        refine rvc_un (rexec_idxS C rfl rfl rfl rfl rfl rfl x1 (Int.natCast_nonneg _) h20 ?_)
        refine rvP C (.agg [.pv (.lit (.int .i64 x1.node)), .pv (.lit (.int .i64 x1.site)), .pv (.lit (.bool x1.fresh))]) ?_
        refine rvc_un (rexec_prim C (δ := { v := .ptr 20 0, new := [(20, .cells [.pv (.lit (.int .i64 0)), .pv (.lit (.int .i64 0)), .pv (.lit (.bool false))])] }) rfl rfl rfl rfl trivial rfl ?_)
        refine rvc_un (rexec_prim C (δ := { v := .undef, wr := [(20, some (.cells [.pv (.lit (.int .i64 x1.node)), .pv (.lit (.int .i64 x1.site)), .pv (.lit (.bool x1.fresh))]))] }) rfl rfl rfl rfl trivial rfl ?_)
        refine rvc_nil ?_
        refine Awp.consP C ?_
        refine rvP C (.ptr 20 1) ?_
        refine rvP C (.pv (.lit (.int .i64 x1.site))) ?_
        refine rvP C (.pv (.lit (.int .i64 (x i1)))) ?_
        refine rvP C (.pv (.lit (.bool (x1.site == (x i1))))) ?_
        refine rvc_nil ?_
        refine Awp.cond (b := (x1.site == (x i1))) rfl (fun h21 => ?_) (fun h21 => ?_)
        ·
         replace hR := of_true h21 hR
         refine Awp.regionP C ?_
         refine rvP C (.sl 901 0 members1.length 3 false) ?_
         refine rvP C (.agg [.pv (.lit (.int .i64 x1.node)), .pv (.lit (.int .i64 x1.site)), .pv (.lit (.bool x1.fresh))]) ?_
         refine rvc_un (rexec_buildSliceF C eMember [x1] rfl rfl rfl rfl rfl rfl rfl (by decide) rfl ?_)
         refine rvc_un (rexec_append C rfl rfl rfl rfl rfl rfl rfl rfl (fun _ h => by cases h) rfl (en := eMember) (D0 := members1) (D := [x1]) rfl rfl rfl rfl (by have := firstC_len l; have := eq_of_bne_false h1; have := eq_of_bne_false h2; have := of_decide_eq_true h4; have := of_decide_eq_true h9; have := of_decide_eq_true h18; have := beq_iff_eq.1 h21; first | omega | (simp <;> omega)) (by decide) (nn := (members1 ++ [x1]).length) (by simp) ?_)
         refine rvP C (.sl 68 0 ((members1 ++ [x1]).length) 3 false) ?_
         refine rvc_nil ?_
         refine Awp.regionP C ?_
         refine rvP C (.pv (.lit (.int .i64 (IntKind.i64.wrap ((i2 : Int) + 1))))) ?_
         refine rvP C (.pv (.lit (.int .i64 (IntKind.i64.wrap ((i2 : Int) + 1))))) ?_
         refine rvc_nil ?_
         refine ⟨h19, (members1 ++ [x1]), ?_, ?_⟩
         · exact ⟨hR, (by first | exact order_in hW (by assumption) (by assumption) | exact order_out hW (by assumption) (by assumption)), (by first | omega | (simp <;> omega))⟩
         · exact ⟨fun b => bif b == 901 then 68 else (fun b => b) b, WeakerR.ofL (Ks := [4, 9, 901]) hI ⟨⟨rfl, rfl⟩, ⟨rfl, rfl⟩, ⟨rfl, rfl⟩, ⟨rfl, rfl⟩, ⟨rfl, rfl⟩, ⟨grow_to rfl rfl app_ne rfl rfl, grow_within rfl⟩, ⟨rfl, rfl⟩, ⟨rfl, rfl⟩, ⟨rfl, rfl⟩, ⟨rfl, rfl⟩, ⟨rfl, rfl⟩, ⟨rfl, rfl⟩, ⟨rfl, rfl⟩, ⟨rfl, rfl⟩, ⟨lit_cast (wrap_i64 (by omega) (by omega)), rfl⟩, trivial⟩ (okH_grow (fun _ => rfl) rfl rfl (okH_cons rfl rfl rfl rfl (okH_cons rfl rfl rfl rfl (okH_nil)))) rfl⟩
        ·
         replace hR := of_false h21 hR
         refine Awp.skip ?_
         refine Awp.regionP C ?_
         refine rvP C (.pv (.lit (.int .i64 (IntKind.i64.wrap ((i2 : Int) + 1))))) ?_
         refine rvP C (.pv (.lit (.int .i64 (IntKind.i64.wrap ((i2 : Int) + 1))))) ?_
         refine rvc_nil ?_
         refine ⟨h19, members1, ?_, ?_⟩
         · exact ⟨hR, (by first | exact order_in hW (by assumption) (by assumption) | exact order_out hW (by assumption) (by assumption)), (by first | omega | (simp <;> omega))⟩
         · exact ⟨fun b => b, WeakerR.ofL (Ks := [4, 9, 901]) hI ⟨⟨rfl, rfl⟩, ⟨rfl, rfl⟩, ⟨rfl, rfl⟩, ⟨rfl, rfl⟩, ⟨rfl, rfl⟩, ⟨grow_to rfl rfl h13 rfl rfl, grow_within rfl⟩, ⟨rfl, rfl⟩, ⟨rfl, rfl⟩, ⟨rfl, rfl⟩, ⟨rfl, rfl⟩, ⟨rfl, rfl⟩, ⟨rfl, rfl⟩, ⟨rfl, rfl⟩, ⟨rfl, rfl⟩, ⟨lit_cast (wrap_i64 (by omega) (by omega)), rfl⟩, trivial⟩ (okH_grow (fun _ => rfl) rfl rfl (okH_cons rfl rfl rfl rfl (okH_cons rfl rfl rfl rfl (okH_nil)))) rfl⟩
       ·
        have h19 : ¬ i2 < fc.1.members.D.length := by have := of_decide_eq_false h18; omega
        rw [drop_end h19] at hR
        refine Awp.exit ?_
        refine Awp.regionP C ?_
        refine rvP C (.pv (.lit (.int .i64 (IntKind.i64.wrap ((i1 : Int) + 1))))) ?_
        refine rvP C (.pv (.lit (.int .i64 (IntKind.i64.wrap ((i1 : Int) + 1))))) ?_
        refine rvc_nil ?_
        refine ⟨h10, members1, ?_, ?_⟩
        · exact ⟨(by rw [show 3 - (i1 + 1) = k by omega]; exact hR), (order_step hW (by omega)), (by first | omega | (simp <;> omega))⟩
        · exact ⟨fun b => bif b == 900 then 901 else (fun b => b) b, WeakerR.ofL (Ks := [4, 9, 900]) hI ⟨⟨rfl, rfl⟩, ⟨rfl, rfl⟩, ⟨rfl, rfl⟩, ⟨rfl, rfl⟩, ⟨rfl, rfl⟩, ⟨grow_to rfl rfl h13 rfl rfl, grow_within rfl⟩, ⟨rfl, rfl⟩, ⟨rfl, rfl⟩, ⟨rfl, rfl⟩, ⟨rfl, rfl⟩, ⟨lit_cast (wrap_i64 (by omega) (by omega)), rfl⟩, trivial⟩ (okH_grow (fun _ => rfl) rfl rfl (okH_cons rfl rfl rfl rfl (okH_cons rfl rfl rfl rfl (okH_nil)))) rfl⟩
     ·
      rw [show 3 - i1 = 0 by have := of_decide_eq_false h9; omega] at hR
      have hms_ := order_mem hV (by have := of_decide_eq_false ‹decide ((i1 : Int) < 3) = false›; omega) (List.mem_of_getElem? (by assumption)) hl_ (sites_ok (able_ok (eq_of_bne_false ‹(able fc.1 w from_ != 0) = false›)).1)
      refine Awp.exit ?_
      refine Awp.consP C ?_
      refine rvP C (sS (some members.isEmpty) eMember members) ?_
      refine rvP C (.agg [.pv (.lit (.int .i64 0)), sS (some members.isEmpty) eMember members]) ?_
      refine rvc_un (rexec_prim C (δ := { v := .ptr 21 0, new := [(21, .cells [.pv (.lit (.int .i64 0)), sS (some true) eMember []])] }) rfl rfl rfl rfl trivial rfl ?_)
      refine rvc_un (rexec_prim C (δ := { v := .undef, wr := [(21, some (.cells [.pv (.lit (.int .i64 0)), sS (some members.isEmpty) eMember members]))] }) rfl rfl rfl rfl trivial rfl ?_)
      refine rvc_nil ?_
      refine Awp.consP C ?_
      refine rvP C (.pv (.lit (.int .i64 from_))) ?_
      refine rvP C (sS (some members.isEmpty) eMember members) ?_
      have h22 : members[0]? = some members[0]! := getE (by have := hms_.1; omega)
      refine rvc_un (rexec_idxS C rfl rfl rfl rfl rfl rfl (members[0]!) (Int.natCast_nonneg _) h22 ?_)
      refine rvP C (.rp [.lit (.int .i64 (members[0]!.site))]) ?_
      refine rvP C (.pv (.lit (.int .i64 (members[0]!.site)))) ?_
      refine rvc_un (rexec_prim C (δ := { v := .ptr 4 (0 + from_.toNat * 3) }) rfl rfl rfl rfl ⟨(by have := (able_ok (eq_of_bne_false ‹(able fc.1 w from_ != 0) = false›)).2.2; omega), (by have := (able_ok (eq_of_bne_false ‹(able fc.1 w from_ != 0) = false›)).2.2; omega)⟩ rfl ?_)
      refine rvc_un (rexec_prim C (δ := { v := .ptr 4 (0 + from_.toNat * 3 + (members[0]!.site).toNat * 1) }) rfl rfl rfl rfl ⟨(by have q_ := hms_.2.1 _ (at_mem (n := 0) hms_.1); omega), (by have q_ := hms_.2.1 _ (at_mem (n := 0) hms_.1); omega)⟩ rfl ?_)
      refine rvc_un (rexec_load33 C (fun p q => .pv (.lit (.int .i64 ((w p) q)))) from_.toNat (members[0]!.site).toNat (.pv (.lit (.int .i64 ((w from_.toNat) (members[0]!.site).toNat)))) rfl rfl rfl rfl rfl rfl rfl (by have := (able_ok (eq_of_bne_false ‹(able fc.1 w from_ != 0) = false›)).2.2; omega) (by have q_ := hms_.2.1 _ (at_mem (n := 0) hms_.1); omega) rfl ?_)
      refine rvP C (.pv (.lit (.int .i64 (IntKind.i64.wrap (2 * ((w from_.toNat) (members[0]!.site).toNat)))))) ?_
      refine rvP C (.agg [.pv (.lit (.int .i64 0)), sS (some members.isEmpty) eMember members]) ?_
      refine rvP C (.agg [.pv (.lit (.int .i64 ((w 0) 0))), .pv (.lit (.int .i64 ((w 0) 1))), .pv (.lit (.int .i64 ((w 0) 2))), .pv (.lit (.int .i64 ((w 1) 0))), .pv (.lit (.int .i64 ((w 1) 1))), .pv (.lit (.int .i64 ((w 1) 2))), .pv (.lit (.int .i64 ((w 2) 0))), .pv (.lit (.int .i64 ((w 2) 1))), .pv (.lit (.int .i64 ((w 2) 2)))]) ?_
      refine rvc_un (rexec_call hP C rfl rfl rfl (down_calls (Chain.mk 0 (Sl.mk members.isEmpty members)) w hms_.1 (by dsimp only; omega) hms_.2.1) ?_)
      refine rvP C (.pv (.lit (.int .i64 (IntKind.i64.wrap (2 * (down (Chain.mk 0 (Sl.mk members.isEmpty members)) w)))))) ?_
      refine rvP C (.pv (.lit (.int .i64 (IntKind.i64.wrap ((IntKind.i64.wrap (2 * ((w from_.toNat) (members[0]!.site).toNat))) + (IntKind.i64.wrap (2 * (down (Chain.mk 0 (Sl.mk members.isEmpty members)) w)))))))) ?_
      refine rvP C (.pv (.lit (.int .i64 (IntKind.i64.wrap ((IntKind.i64.wrap (2 * ((w from_.toNat) (members[0]!.site).toNat))) + (IntKind.i64.wrap (2 * (down (Chain.mk 0 (Sl.mk members.isEmpty members)) w)))))))) ?_
      refine rvc_nil ?_
      refine Awp.consP C ?_
      refine rvP C (.pv (.lit (.int .i64 least))) ?_
      refine rvP C (.pv (.lit (.bool (decide (least < 0))))) ?_
      refine rvP C (.pv (.lit (.bool (decide (least < 0))))) ?_
      refine rvc_case 89 (decide (least < 0)) rfl (fun h23 => ?_) (fun h23 => ?_)
      ·
       replace hR := of_true h23 hR
       refine rvS ?_
       refine rvS ?_
       refine rvS ?_
       refine rvP C (.pv (.lit (.bool true))) ?_
       refine rvc_nil ?_
       refine Awp.condT (b := true) rfl rfl ?_
       refine Awp.regionP C ?_
       refine rvP C (sS (some members.isEmpty) eMember members) ?_
       refine rvP C (.pv (.lit (.int .i64 (IntKind.i64.wrap ((IntKind.i64.wrap (2 * ((w from_.toNat) (members[0]!.site).toNat))) + (IntKind.i64.wrap (2 * (down (Chain.mk 0 (Sl.mk members.isEmpty members)) w)))))))) ?_
       refine rvP C (sS (some members.isEmpty) eMember members) ?_
       refine rvP C (.pv (.lit (.int .i64 (IntKind.i64.wrap ((IntKind.i64.wrap (2 * ((w from_.toNat) (members[0]!.site).toNat))) + (IntKind.i64.wrap (2 * (down (Chain.mk 0 (Sl.mk members.isEmpty members)) w)))))))) ?_
       refine rvc_nil ?_
       refine Awp.regionP C ?_
       refine rvP C (.pv (.lit (.int .i64 (IntKind.i64.wrap ((i : Int) + 1))))) ?_
       refine rvP C (.pv (.lit (.int .i64 (IntKind.i64.wrap ((i : Int) + 1))))) ?_
       refine rvc_nil ?_
       refine ⟨h5, ((Sl.mk members.isEmpty members), (IntKind.i64.wrap ((IntKind.i64.wrap (2 * ((w from_.toNat) (members[0]!.site).toNat))) + (IntKind.i64.wrap (2 * (down (Chain.mk 0 (Sl.mk members.isEmpty members)) w)))))), ?_, ?_⟩
       · exact hR
       · exact ⟨fun b => b, WeakerR.ofL (Ks := [4, 9]) hI ⟨⟨rfl, rfl⟩, ⟨rfl, rfl⟩, ⟨rfl, rfl⟩, ⟨rfl, rfl⟩, ⟨rfl, rfl⟩, ⟨rfl, rfl⟩, ⟨rfl, rfl⟩, ⟨lit_cast (wrap_i64 (by omega) (by omega)), rfl⟩, trivial⟩ (okH_cons rfl rfl rfl rfl (okH_cons rfl rfl rfl rfl (okH_nil))) rfl⟩
      ·
       replace hR := of_false h23 hR
       refine rvO C (.pv (.lit (.int .i64 (IntKind.i64.wrap ((IntKind.i64.wrap (2 * ((w from_.toNat) (members[0]!.site).toNat))) + (IntKind.i64.wrap (2 * (down (Chain.mk 0 (Sl.mk members.isEmpty members)) w)))))))) ?_
       refine rvO C (.pv (.lit (.int .i64 least))) ?_
       refine rvO C (.pv (.lit (.bool (decide ((IntKind.i64.wrap ((IntKind.i64.wrap (2 * ((w from_.toNat) (members[0]!.site).toNat))) + (IntKind.i64.wrap (2 * (down (Chain.mk 0 (Sl.mk members.isEmpty members)) w))))) < least))))) ?_
       refine rvP C (.pv (.lit (.bool (decide ((IntKind.i64.wrap ((IntKind.i64.wrap (2 * ((w from_.toNat) (members[0]!.site).toNat))) + (IntKind.i64.wrap (2 * (down (Chain.mk 0 (Sl.mk members.isEmpty members)) w))))) < least))))) ?_
       refine rvc_nil ?_
       refine Awp.cond (b := (decide ((IntKind.i64.wrap ((IntKind.i64.wrap (2 * ((w from_.toNat) (members[0]!.site).toNat))) + (IntKind.i64.wrap (2 * (down (Chain.mk 0 (Sl.mk members.isEmpty members)) w))))) < least))) rfl (fun h24 => ?_) (fun h24 => ?_)
       ·
        replace hR := of_true h24 hR
        refine Awp.regionP C ?_
        refine rvP C (sS (some members.isEmpty) eMember members) ?_
        refine rvP C (.pv (.lit (.int .i64 (IntKind.i64.wrap ((IntKind.i64.wrap (2 * ((w from_.toNat) (members[0]!.site).toNat))) + (IntKind.i64.wrap (2 * (down (Chain.mk 0 (Sl.mk members.isEmpty members)) w)))))))) ?_
        refine rvP C (sS (some members.isEmpty) eMember members) ?_
        refine rvP C (.pv (.lit (.int .i64 (IntKind.i64.wrap ((IntKind.i64.wrap (2 * ((w from_.toNat) (members[0]!.site).toNat))) + (IntKind.i64.wrap (2 * (down (Chain.mk 0 (Sl.mk members.isEmpty members)) w)))))))) ?_
        refine rvc_nil ?_
        refine Awp.regionP C ?_
        refine rvP C (.pv (.lit (.int .i64 (IntKind.i64.wrap ((i : Int) + 1))))) ?_
        refine rvP C (.pv (.lit (.int .i64 (IntKind.i64.wrap ((i : Int) + 1))))) ?_
        refine rvc_nil ?_
        refine ⟨h5, ((Sl.mk members.isEmpty members), (IntKind.i64.wrap ((IntKind.i64.wrap (2 * ((w from_.toNat) (members[0]!.site).toNat))) + (IntKind.i64.wrap (2 * (down (Chain.mk 0 (Sl.mk members.isEmpty members)) w)))))), ?_, ?_⟩
        · exact hR
        · exact ⟨fun b => b, WeakerR.ofL (Ks := [4, 9]) hI ⟨⟨rfl, rfl⟩, ⟨rfl, rfl⟩, ⟨rfl, rfl⟩, ⟨rfl, rfl⟩, ⟨rfl, rfl⟩, ⟨rfl, rfl⟩, ⟨rfl, rfl⟩, ⟨lit_cast (wrap_i64 (by omega) (by omega)), rfl⟩, trivial⟩ (okH_cons rfl rfl rfl rfl (okH_cons rfl rfl rfl rfl (okH_nil))) rfl⟩
       ·
        replace hR := of_false h24 hR
        refine Awp.skip ?_
        refine Awp.regionP C ?_
        refine rvP C (.pv (.lit (.int .i64 (IntKind.i64.wrap ((i : Int) + 1))))) ?_
        refine rvP C (.pv (.lit (.int .i64 (IntKind.i64.wrap ((i : Int) + 1))))) ?_
        refine rvc_nil ?_
        refine ⟨h5, (best, least), ?_, ?_⟩
        · exact hR
        · exact ⟨fun b => b, WeakerR.ofL (Ks := [4, 9]) hI ⟨⟨rfl, rfl⟩, ⟨rfl, rfl⟩, ⟨rfl, rfl⟩, ⟨rfl, rfl⟩, ⟨rfl, rfl⟩, ⟨rfl, rfl⟩, ⟨rfl, rfl⟩, ⟨lit_cast (wrap_i64 (by omega) (by omega)), rfl⟩, trivial⟩ (okH_cons rfl rfl rfl rfl (okH_cons rfl rfl rfl rfl (okH_nil))) rfl⟩
    ·
     refine Awp.wordsR [(2, .pv (.lit (.int .i64 from_))), (4, .ptr 4 0), (9, .ptr 9 0), (12, sS (some best.nil) eMember best.D), (13, .pv (.lit (.int .i64 least))), (16, .sl 900 0 members.length 3 false), (44, sS (some false) (eA3 .i64) [(ofL [(0 : Int), 1, 2]), (ofL [(0 : Int), 2, 1]), (ofL [(1 : Int), 0, 2]), (ofL [(1 : Int), 2, 0]), (ofL [(2 : Int), 0, 1]), (ofL [(2 : Int), 1, 0])]), (45, .pv (.lit (.int .i64 ([(ofL [(0 : Int), 1, 2]), (ofL [(0 : Int), 2, 1]), (ofL [(1 : Int), 0, 2]), (ofL [(1 : Int), 2, 0]), (ofL [(2 : Int), 0, 1]), (ofL [(2 : Int), 1, 0])].length : Int)))), (46, .pv (.lit (.int .i64 (i : Int)))), (50, .agg [.pv (.lit (.int .i64 (x 0))), .pv (.lit (.int .i64 (x 1))), .pv (.lit (.int .i64 (x 2)))]), (51, .pv (.lit (.int .i64 (i1 : Int))))] [(900, .cells (encC eMember members)), (4, .cells [.pv (.lit (.int .i64 ((w 0) 0))), .pv (.lit (.int .i64 ((w 0) 1))), .pv (.lit (.int .i64 ((w 0) 2))), .pv (.lit (.int .i64 ((w 1) 0))), .pv (.lit (.int .i64 ((w 1) 1))), .pv (.lit (.int .i64 ((w 1) 2))), .pv (.lit (.int .i64 ((w 2) 0))), .pv (.lit (.int .i64 ((w 2) 1))), .pv (.lit (.int .i64 ((w 2) 2)))]), (9, .cells [.pv (.lit (.int .i64 fc.1.epoch)), sS (some fc.1.members.nil) eMember fc.1.members.D])] [4, 9, 900] (WeakerR.ofL (Ks := [4, 9, 900]) hI ⟨⟨rfl, rfl⟩, ⟨rfl, rfl⟩, ⟨rfl, rfl⟩, ⟨rfl, rfl⟩, ⟨rfl, rfl⟩, ⟨(by exact grow_at_cons (b := 900) (b' := 900) (e := eMember) (l := members) rfl h8 rfl rfl rfl), rfl⟩, ⟨rfl, rfl⟩, ⟨rfl, rfl⟩, ⟨rfl, rfl⟩, ⟨rfl, rfl⟩, ⟨rfl, rfl⟩, trivial⟩ (okH_list (look_cons h8 rfl) rfl rfl (okH_cons (look_cons h8 rfl) rfl rfl rfl (okH_cons (look_cons h8 rfl) rfl rfl rfl (okH_nil)))) rfl) ?_
     refine Awp.consP C ?_
     refine rvP C (.pv (.lit (.bool (decide ((i1 : Int) < 3))))) ?_
     refine rvc_nil ?_
     refine Awp.seq ?_
     refine Awp.cond (b := (decide ((i1 : Int) < 3))) rfl (fun h25 => ?_) (fun h25 => ?_)
     ·
      have h26 : i1 < 3 := by have := of_decide_eq_true h25; omega
      obtain ⟨k, h27⟩ : ∃ k, 3 - i1 = k + 1 := ⟨3 - i1 - 1, by omega⟩
      rw [h27] at hR
      refine Awp.skip ?_
      refine Awp.seq ?_
      refine Awp.block ?_
      refine Awp.consP C ?_
      refine rvc_un (rexec_idxA C (fun j => .pv (.lit (.int .i64 (x j)))) (.pv (.lit (.int .i64 (x i1)))) rfl rfl rfl rfl rfl rfl rfl rfl ⟨(by have := firstC_len l; have := eq_of_bne_false h1; have := eq_of_bne_false h2; have := of_decide_eq_true h4; have := of_decide_eq_true h25; omega), (by have := firstC_len l; have := eq_of_bne_false h1; have := eq_of_bne_false h2; have := of_decide_eq_true h4; have := of_decide_eq_true h25; omega)⟩ rfl ?_)
      refine rvP C (.pv (.lit (.int .i64 (x i1)))) ?_
      refine rvc_nil ?_
      refine Awp.consP C ?_
      refine rvP C (.ptr 9 1) ?_
      refine rvP C (sS (some fc.1.members.nil) eMember fc.1.members.D) ?_
      refine rvP C (.pv (.lit (.int .i64 (fc.1.members.D.length : Int)))) ?_
      refine rvP C (.pv (.lit (.int .i64 0))) ?_
      refine rvc_nil ?_
      refine Awp.block ?_
      refine Awp.forR (σ := ((List Member))) (fc.1.members.D.length) (fun i3 v => [(2, .pv (.lit (.int .i64 from_))), (4, .ptr 4 0), (9, .ptr 9 0), (12, sS (some best.nil) eMember best.D), (13, .pv (.lit (.int .i64 least))), (16, .sl 902 0 v.length 3 false), (18, .pv (.lit (.int .i64 (x i1)))), (44, sS (some false) (eA3 .i64) [(ofL [(0 : Int), 1, 2]), (ofL [(0 : Int), 2, 1]), (ofL [(1 : Int), 0, 2]), (ofL [(1 : Int), 2, 0]), (ofL [(2 : Int), 0, 1]), (ofL [(2 : Int), 1, 0])]), (45, .pv (.lit (.int .i64 ([(ofL [(0 : Int), 1, 2]), (ofL [(0 : Int), 2, 1]), (ofL [(1 : Int), 0, 2]), (ofL [(1 : Int), 2, 0]), (ofL [(2 : Int), 0, 1]), (ofL [(2 : Int), 1, 0])].length : Int)))), (46, .pv (.lit (.int .i64 (i : Int)))), (50, .agg [.pv (.lit (.int .i64 (x 0))), .pv (.lit (.int .i64 (x 1))), .pv (.lit (.int .i64 (x 2)))]), (51, .pv (.lit (.int .i64 (i1 : Int)))), (55, sS (some fc.1.members.nil) eMember fc.1.members.D), (56, .pv (.lit (.int .i64 (fc.1.members.D.length : Int)))), (57, .pv (.lit (.int .i64 (i3 : Int))))]) (fun i3 v => [(4, .cells [.pv (.lit (.int .i64 ((w 0) 0))), .pv (.lit (.int .i64 ((w 0) 1))), .pv (.lit (.int .i64 ((w 0) 2))), .pv (.lit (.int .i64 ((w 1) 0))), .pv (.lit (.int .i64 ((w 1) 1))), .pv (.lit (.int .i64 ((w 1) 2))), .pv (.lit (.int .i64 ((w 2) 0))), .pv (.lit (.int .i64 ((w 2) 1))), .pv (.lit (.int .i64 ((w 2) 2)))]), (9, .cells [.pv (.lit (.int .i64 fc.1.epoch)), sS (some fc.1.members.nil) eMember fc.1.members.D]), (902, .cells (encC eMember v))]) [4, 9, 902] (fun i3 v => (best_l2 x i1 (fun members2 => best_l1 fc x (fun members => (bif (decide (least < 0)) then best_l0 w from_ fc ([(ofL [(0 : Int), 1, 2]), (ofL [(0 : Int), 2, 1]), (ofL [(1 : Int), 0, 2]), (ofL [(1 : Int), 2, 0]), (ofL [(2 : Int), 0, 1]), (ofL [(2 : Int), 1, 0])].drop (i + 1)) (i + 1) (Sl.mk members.isEmpty members) (IntKind.i64.wrap ((IntKind.i64.wrap (2 * ((w from_.toNat) (members[0]!.site).toNat))) + (IntKind.i64.wrap (2 * (down (Chain.mk 0 (Sl.mk members.isEmpty members)) w))))) else (bif (decide ((IntKind.i64.wrap ((IntKind.i64.wrap (2 * ((w from_.toNat) (members[0]!.site).toNat))) + (IntKind.i64.wrap (2 * (down (Chain.mk 0 (Sl.mk members.isEmpty members)) w))))) < least)) then best_l0 w from_ fc ([(ofL [(0 : Int), 1, 2]), (ofL [(0 : Int), 2, 1]), (ofL [(1 : Int), 0, 2]), (ofL [(1 : Int), 2, 0]), (ofL [(2 : Int), 0, 1]), (ofL [(2 : Int), 1, 0])].drop (i + 1)) (i + 1) (Sl.mk members.isEmpty members) (IntKind.i64.wrap ((IntKind.i64.wrap (2 * ((w from_.toNat) (members[0]!.site).toNat))) + (IntKind.i64.wrap (2 * (down (Chain.mk 0 (Sl.mk members.isEmpty members)) w))))) else best_l0 w from_ fc ([(ofL [(0 : Int), 1, 2]), (ofL [(0 : Int), 2, 1]), (ofL [(1 : Int), 0, 2]), (ofL [(1 : Int), 2, 0]), (ofL [(2 : Int), 0, 1]), (ofL [(2 : Int), 1, 0])].drop (i + 1)) (i + 1) best least))) k (i1 + 1) members2) (fc.1.members.D.drop i3) i3 v = R) ∧ (v = inOrder fc.1.members.D x i1 ++ (fc.1.members.D.take i3).filter fun y => y.site == x i1) ∧ (v ≠ [] ∧ v.length ≤ members.length + i3)) members ?_ ?_ (fun i3 members2 h28 hR => ?_)
      · exact ⟨hR, (by rw [List.take_zero, List.filter_nil, List.append_nil]; exact hV), ⟨h8, (by first | omega | (simp <;> omega))⟩⟩
      · exact ⟨fun b => bif b == 902 then 900 else (fun b => b) b, WeakerR.ofL (Ks := [4, 9, 902]) hI ⟨⟨rfl, rfl⟩, ⟨rfl, rfl⟩, ⟨rfl, rfl⟩, ⟨rfl, rfl⟩, ⟨rfl, rfl⟩, ⟨rfl, rfl⟩, ⟨rfl, rfl⟩, ⟨rfl, rfl⟩, ⟨rfl, rfl⟩, ⟨rfl, rfl⟩, ⟨rfl, rfl⟩, ⟨rfl, rfl⟩, ⟨rfl, rfl⟩, ⟨rfl, rfl⟩, ⟨rfl, rfl⟩, trivial⟩ (okH_cons rfl rfl rfl rfl (okH_cons rfl rfl rfl rfl (okH_list rfl rfl rfl (okH_nil)))) rfl⟩
      obtain ⟨hR, hW, ⟨hn_members2, hi_members2⟩⟩ := hR
      replace hi_members2 : members2.length ≤ members.length + i3 := hi_members2
      refine Awp.consP C ?_
      refine rvP C (.pv (.lit (.bool (decide ((i3 : Int) < (fc.1.members.D.length : Int)))))) ?_
      refine rvc_nil ?_
      refine Awp.seq ?_
      refine Awp.cond (b := (decide ((i3 : Int) < (fc.1.members.D.length : Int)))) rfl (fun h29 => ?_) (fun h29 => ?_)
      ·
       have h30 : i3 < fc.1.members.D.length := by have := of_decide_eq_true h29; omega
       obtain ⟨x2, h31⟩ := getX h30
       rw [drop_at h31] at hR
       refine Awp.skip ?_
       refine Awp.seq ?_
       refine Awp.block ?_
       refine Awp.consP C ?_
       refine rvc_un (rexec_idxS C rfl rfl rfl rfl rfl rfl x2 (Int.natCast_nonneg _) h31 ?_)
       refine rvP C (.agg [.pv (.lit (.int .i64 x2.node)), .pv (.lit (.int .i64 x2.site)), .pv (.lit (.bool x2.fresh))]) ?_
       refine rvc_un (rexec_prim C (δ := { v := .ptr 20 0, new := [(20, .cells [.pv (.lit (.int .i64 0)), .pv (.lit (.int .i64 0)), .pv (.lit (.bool false))])] }) rfl rfl rfl rfl trivial rfl ?_)
       refine rvc_un (rexec_prim C (δ := { v := .undef, wr := [(20, some (.cells [.pv (.lit (.int .i64 x2.node)), .pv (.lit (.int .i64 x2.site)), .pv (.lit (.bool x2.fresh))]))] }) rfl rfl rfl rfl trivial rfl ?_)
       refine rvc_nil ?_
       refine Awp.consP C ?_
       refine rvP C (.ptr 20 1) ?_
       refine rvP C (.pv (.lit (.int .i64 x2.site))) ?_
       refine rvP C (.pv (.lit (.int .i64 (x i1)))) ?_
       refine rvP C (.pv (.lit (.bool (x2.site == (x i1))))) ?_
       refine rvc_nil ?_
       refine Awp.cond (b := (x2.site == (x i1))) rfl (fun h32 => ?_) (fun h32 => ?_)
       ·
        replace hR := of_true h32 hR
        refine Awp.regionP C ?_
        refine rvP C (.sl 902 0 members2.length 3 false) ?_
        refine rvP C (.agg [.pv (.lit (.int .i64 x2.node)), .pv (.lit (.int .i64 x2.site)), .pv (.lit (.bool x2.fresh))]) ?_
        refine rvc_un (rexec_buildSliceF C eMember [x2] rfl rfl rfl rfl rfl rfl rfl (by decide) rfl ?_)
        refine rvc_un (rexec_append C rfl rfl rfl rfl rfl rfl rfl rfl (fun _ h => by cases h) rfl (en := eMember) (D0 := members2) (D := [x2]) rfl rfl rfl rfl (by have := firstC_len l; have := eq_of_bne_false h1; have := eq_of_bne_false h2; have := of_decide_eq_true h4; have := of_decide_eq_true h25; have := of_decide_eq_true h29; have := beq_iff_eq.1 h32; first | omega | (simp <;> omega)) (by decide) (nn := (members2 ++ [x2]).length) (by simp) ?_)
        refine rvP C (.sl 68 0 ((members2 ++ [x2]).length) 3 false) ?_
        refine rvc_nil ?_
        refine Awp.regionP C ?_
        refine rvP C (.pv (.lit (.int .i64 (IntKind.i64.wrap ((i3 : Int) + 1))))) ?_
        refine rvP C (.pv (.lit (.int .i64 (IntKind.i64.wrap ((i3 : Int) + 1))))) ?_
        refine rvc_nil ?_
        refine ⟨h30, (members2 ++ [x2]), ?_, ?_⟩
        · exact ⟨hR, (by first | exact order_in hW (by assumption) (by assumption) | exact order_out hW (by assumption) (by assumption)), ⟨app_ne, (by first | omega | (simp <;> omega))⟩⟩
        · exact ⟨fun b => bif b == 902 then 68 else (fun b => b) b, WeakerR.ofL (Ks := [4, 9, 902]) hI ⟨⟨rfl, rfl⟩, ⟨rfl, rfl⟩, ⟨rfl, rfl⟩, ⟨rfl, rfl⟩, ⟨rfl, rfl⟩, ⟨rfl, rfl⟩, ⟨rfl, rfl⟩, ⟨rfl, rfl⟩, ⟨rfl, rfl⟩, ⟨rfl, rfl⟩, ⟨rfl, rfl⟩, ⟨rfl, rfl⟩, ⟨rfl, rfl⟩, ⟨rfl, rfl⟩, ⟨lit_cast (wrap_i64 (by omega) (by omega)), rfl⟩, trivial⟩ (okH_cons rfl rfl rfl rfl (okH_cons rfl rfl rfl rfl (okH_list rfl rfl rfl (okH_nil)))) rfl⟩
       ·
        replace hR := of_false h32 hR
        refine Awp.skip ?_
        refine Awp.regionP C ?_
        refine rvP C (.pv (.lit (.int .i64 (IntKind.i64.wrap ((i3 : Int) + 1))))) ?_
        refine rvP C (.pv (.lit (.int .i64 (IntKind.i64.wrap ((i3 : Int) + 1))))) ?_
        refine rvc_nil ?_
        refine ⟨h30, members2, ?_, ?_⟩
        · exact ⟨hR, (by first | exact order_in hW (by assumption) (by assumption) | exact order_out hW (by assumption) (by assumption)), ⟨hn_members2, (by first | omega | (simp <;> omega))⟩⟩
        · exact ⟨fun b => b, WeakerR.ofL (Ks := [4, 9, 902]) hI ⟨⟨rfl, rfl⟩, ⟨rfl, rfl⟩, ⟨rfl, rfl⟩, ⟨rfl, rfl⟩, ⟨rfl, rfl⟩, ⟨rfl, rfl⟩, ⟨rfl, rfl⟩, ⟨rfl, rfl⟩, ⟨rfl, rfl⟩, ⟨rfl, rfl⟩, ⟨rfl, rfl⟩, ⟨rfl, rfl⟩, ⟨rfl, rfl⟩, ⟨rfl, rfl⟩, ⟨lit_cast (wrap_i64 (by omega) (by omega)), rfl⟩, trivial⟩ (okH_cons rfl rfl rfl rfl (okH_cons rfl rfl rfl rfl (okH_list rfl rfl rfl (okH_nil)))) rfl⟩
      ·
       have h30 : ¬ i3 < fc.1.members.D.length := by have := of_decide_eq_false h29; omega
       rw [drop_end h30] at hR
       refine Awp.exit ?_
       refine Awp.regionP C ?_
       refine rvP C (.pv (.lit (.int .i64 (IntKind.i64.wrap ((i1 : Int) + 1))))) ?_
       refine rvP C (.pv (.lit (.int .i64 (IntKind.i64.wrap ((i1 : Int) + 1))))) ?_
       refine rvc_nil ?_
       refine ⟨h26, members2, ?_, ?_⟩
       · exact ⟨(by rw [show 3 - (i1 + 1) = k by omega]; exact hR), (order_step hW (by omega)), (by first | omega | (simp <;> omega))⟩
       · exact ⟨fun b => bif b == 900 then 902 else (fun b => b) b, WeakerR.ofL (Ks := [4, 9, 900]) hI ⟨⟨rfl, rfl⟩, ⟨rfl, rfl⟩, ⟨rfl, rfl⟩, ⟨rfl, rfl⟩, ⟨rfl, rfl⟩, ⟨grow_to rfl rfl hn_members2 rfl rfl, grow_within rfl⟩, ⟨rfl, rfl⟩, ⟨rfl, rfl⟩, ⟨rfl, rfl⟩, ⟨rfl, rfl⟩, ⟨lit_cast (wrap_i64 (by omega) (by omega)), rfl⟩, trivial⟩ (okH_grow (fun _ => rfl) rfl rfl (okH_cons rfl rfl rfl rfl (okH_cons rfl rfl rfl rfl (okH_nil)))) rfl⟩
     ·
      rw [show 3 - i1 = 0 by have := of_decide_eq_false h25; omega] at hR
      have hms_ := order_mem hV (by have := of_decide_eq_false ‹decide ((i1 : Int) < 3) = false›; omega) (List.mem_of_getElem? (by assumption)) hl_ (sites_ok (able_ok (eq_of_bne_false ‹(able fc.1 w from_ != 0) = false›)).1)
      refine Awp.exit ?_
      refine Awp.consP C ?_
      refine rvP C (.sl 900 0 members.length 3 false) ?_
      refine rvP C (.agg [.pv (.lit (.int .i64 0)), .sl 900 0 members.length 3 false]) ?_
      refine rvc_un (rexec_prim C (δ := { v := .ptr 21 0, new := [(21, .cells [.pv (.lit (.int .i64 0)), sS (some true) eMember []])] }) rfl rfl rfl rfl trivial rfl ?_)
      refine rvc_un (rexec_prim C (δ := { v := .undef, wr := [(21, some (.cells [.pv (.lit (.int .i64 0)), .sl 900 0 members.length 3 false]))] }) rfl rfl rfl rfl trivial rfl ?_)
      refine rvc_nil ?_
      refine Awp.freezeW 900 (encL eMember members) ?_ [(2, .pv (.lit (.int .i64 from_))), (4, .ptr 4 0), (9, .ptr 9 0), (12, sS (some best.nil) eMember best.D), (13, .pv (.lit (.int .i64 least))), (16, sS (some members.isEmpty) eMember members), (21, .ptr 21 0), (44, sS (some false) (eA3 .i64) [(ofL [(0 : Int), 1, 2]), (ofL [(0 : Int), 2, 1]), (ofL [(1 : Int), 0, 2]), (ofL [(1 : Int), 2, 0]), (ofL [(2 : Int), 0, 1]), (ofL [(2 : Int), 1, 0])]), (45, .pv (.lit (.int .i64 ([(ofL [(0 : Int), 1, 2]), (ofL [(0 : Int), 2, 1]), (ofL [(1 : Int), 0, 2]), (ofL [(1 : Int), 2, 0]), (ofL [(2 : Int), 0, 1]), (ofL [(2 : Int), 1, 0])].length : Int)))), (46, .pv (.lit (.int .i64 (i : Int))))] [(4, .cells [.pv (.lit (.int .i64 ((w 0) 0))), .pv (.lit (.int .i64 ((w 0) 1))), .pv (.lit (.int .i64 ((w 0) 2))), .pv (.lit (.int .i64 ((w 1) 0))), .pv (.lit (.int .i64 ((w 1) 1))), .pv (.lit (.int .i64 ((w 1) 2))), .pv (.lit (.int .i64 ((w 2) 0))), .pv (.lit (.int .i64 ((w 2) 1))), .pv (.lit (.int .i64 ((w 2) 2)))]), (9, .cells [.pv (.lit (.int .i64 fc.1.epoch)), sS (some fc.1.members.nil) eMember fc.1.members.D]), (21, .cells [.pv (.lit (.int .i64 0)), sS (some members.isEmpty) eMember members])] ?_ ?_ ?_
      · rfl
      · exact ⟨⟨_, rfl, .inl (.inl rfl)⟩, ⟨_, rfl, .inl (.inl rfl)⟩, ⟨_, rfl, .inl (.inl rfl)⟩, ⟨_, rfl, .inl (.inl rfl)⟩, ⟨_, rfl, .inl (.inl rfl)⟩, ⟨_, rfl, .inl (.inr ⟨_, _, _, rfl, by rw [ne_isEmpty h8]; rfl⟩)⟩, ⟨_, rfl, .inl (.inl rfl)⟩, ⟨_, rfl, .inl (.inl rfl)⟩, ⟨_, rfl, .inl (.inl rfl)⟩, ⟨_, rfl, .inl (.inl rfl)⟩, trivial⟩
      · exact ⟨⟨(by show (4 : Nat) ≠ 900; decide), .inl rfl⟩, ⟨(by show (9 : Nat) ≠ 900; decide), .inl rfl⟩, ⟨(by show (21 : Nat) ≠ 900; decide), .inr ⟨_, _, rfl, rfl, ⟨.inl rfl, .inr ⟨_, _, _, rfl, by rw [ne_isEmpty h8]; rfl⟩, trivial⟩⟩⟩, trivial⟩
      refine Awp.consP C ?_
      refine rvP C (.pv (.lit (.int .i64 from_))) ?_
      refine rvP C (sS (some members.isEmpty) eMember members) ?_
      have h33 : members[0]? = some members[0]! := getE (by have := hms_.1; omega)
      refine rvc_un (rexec_idxS C rfl rfl rfl rfl rfl rfl (members[0]!) (Int.natCast_nonneg _) h33 ?_)
      refine rvP C (.rp [.lit (.int .i64 (members[0]!.site))]) ?_
      refine rvP C (.pv (.lit (.int .i64 (members[0]!.site)))) ?_
      refine rvc_un (rexec_prim C (δ := { v := .ptr 4 (0 + from_.toNat * 3) }) rfl rfl rfl rfl ⟨(by have := (able_ok (eq_of_bne_false ‹(able fc.1 w from_ != 0) = false›)).2.2; omega), (by have := (able_ok (eq_of_bne_false ‹(able fc.1 w from_ != 0) = false›)).2.2; omega)⟩ rfl ?_)
      refine rvc_un (rexec_prim C (δ := { v := .ptr 4 (0 + from_.toNat * 3 + (members[0]!.site).toNat * 1) }) rfl rfl rfl rfl ⟨(by have q_ := hms_.2.1 _ (at_mem (n := 0) hms_.1); omega), (by have q_ := hms_.2.1 _ (at_mem (n := 0) hms_.1); omega)⟩ rfl ?_)
      refine rvc_un (rexec_load33 C (fun p q => .pv (.lit (.int .i64 ((w p) q)))) from_.toNat (members[0]!.site).toNat (.pv (.lit (.int .i64 ((w from_.toNat) (members[0]!.site).toNat)))) rfl rfl rfl rfl rfl rfl rfl (by have := (able_ok (eq_of_bne_false ‹(able fc.1 w from_ != 0) = false›)).2.2; omega) (by have q_ := hms_.2.1 _ (at_mem (n := 0) hms_.1); omega) rfl ?_)
      refine rvP C (.pv (.lit (.int .i64 (IntKind.i64.wrap (2 * ((w from_.toNat) (members[0]!.site).toNat)))))) ?_
      refine rvP C (.agg [.pv (.lit (.int .i64 0)), sS (some members.isEmpty) eMember members]) ?_
      refine rvP C (.agg [.pv (.lit (.int .i64 ((w 0) 0))), .pv (.lit (.int .i64 ((w 0) 1))), .pv (.lit (.int .i64 ((w 0) 2))), .pv (.lit (.int .i64 ((w 1) 0))), .pv (.lit (.int .i64 ((w 1) 1))), .pv (.lit (.int .i64 ((w 1) 2))), .pv (.lit (.int .i64 ((w 2) 0))), .pv (.lit (.int .i64 ((w 2) 1))), .pv (.lit (.int .i64 ((w 2) 2)))]) ?_
      refine rvc_un (rexec_call hP C rfl rfl rfl (down_calls (Chain.mk 0 (Sl.mk members.isEmpty members)) w hms_.1 (by dsimp only; omega) hms_.2.1) ?_)
      refine rvP C (.pv (.lit (.int .i64 (IntKind.i64.wrap (2 * (down (Chain.mk 0 (Sl.mk members.isEmpty members)) w)))))) ?_
      refine rvP C (.pv (.lit (.int .i64 (IntKind.i64.wrap ((IntKind.i64.wrap (2 * ((w from_.toNat) (members[0]!.site).toNat))) + (IntKind.i64.wrap (2 * (down (Chain.mk 0 (Sl.mk members.isEmpty members)) w)))))))) ?_
      refine rvP C (.pv (.lit (.int .i64 (IntKind.i64.wrap ((IntKind.i64.wrap (2 * ((w from_.toNat) (members[0]!.site).toNat))) + (IntKind.i64.wrap (2 * (down (Chain.mk 0 (Sl.mk members.isEmpty members)) w)))))))) ?_
      refine rvc_nil ?_
      refine Awp.consP C ?_
      refine rvP C (.pv (.lit (.int .i64 least))) ?_
      refine rvP C (.pv (.lit (.bool (decide (least < 0))))) ?_
      refine rvP C (.pv (.lit (.bool (decide (least < 0))))) ?_
      refine rvc_case 89 (decide (least < 0)) rfl (fun h34 => ?_) (fun h34 => ?_)
      ·
       replace hR := of_true h34 hR
       refine rvS ?_
       refine rvS ?_
       refine rvS ?_
       refine rvP C (.pv (.lit (.bool true))) ?_
       refine rvc_nil ?_
       refine Awp.condT (b := true) rfl rfl ?_
       refine Awp.regionP C ?_
       refine rvP C (sS (some members.isEmpty) eMember members) ?_
       refine rvP C (.pv (.lit (.int .i64 (IntKind.i64.wrap ((IntKind.i64.wrap (2 * ((w from_.toNat) (members[0]!.site).toNat))) + (IntKind.i64.wrap (2 * (down (Chain.mk 0 (Sl.mk members.isEmpty members)) w)))))))) ?_
       refine rvP C (sS (some members.isEmpty) eMember members) ?_
       refine rvP C (.pv (.lit (.int .i64 (IntKind.i64.wrap ((IntKind.i64.wrap (2 * ((w from_.toNat) (members[0]!.site).toNat))) + (IntKind.i64.wrap (2 * (down (Chain.mk 0 (Sl.mk members.isEmpty members)) w)))))))) ?_
       refine rvc_nil ?_
       refine Awp.regionP C ?_
       refine rvP C (.pv (.lit (.int .i64 (IntKind.i64.wrap ((i : Int) + 1))))) ?_
       refine rvP C (.pv (.lit (.int .i64 (IntKind.i64.wrap ((i : Int) + 1))))) ?_
       refine rvc_nil ?_
       refine ⟨h5, ((Sl.mk members.isEmpty members), (IntKind.i64.wrap ((IntKind.i64.wrap (2 * ((w from_.toNat) (members[0]!.site).toNat))) + (IntKind.i64.wrap (2 * (down (Chain.mk 0 (Sl.mk members.isEmpty members)) w)))))), ?_, ?_⟩
       · exact hR
       · exact ⟨fun b => b, WeakerR.ofL (Ks := [4, 9]) hI ⟨⟨rfl, rfl⟩, ⟨rfl, rfl⟩, ⟨rfl, rfl⟩, ⟨rfl, rfl⟩, ⟨rfl, rfl⟩, ⟨rfl, rfl⟩, ⟨rfl, rfl⟩, ⟨lit_cast (wrap_i64 (by omega) (by omega)), rfl⟩, trivial⟩ (okH_cons rfl rfl rfl rfl (okH_cons rfl rfl rfl rfl (okH_nil))) rfl⟩
      ·
       replace hR := of_false h34 hR
       refine rvO C (.pv (.lit (.int .i64 (IntKind.i64.wrap ((IntKind.i64.wrap (2 * ((w from_.toNat) (members[0]!.site).toNat))) + (IntKind.i64.wrap (2 * (down (Chain.mk 0 (Sl.mk members.isEmpty members)) w)))))))) ?_
       refine rvO C (.pv (.lit (.int .i64 least))) ?_
       refine rvO C (.pv (.lit (.bool (decide ((IntKind.i64.wrap ((IntKind.i64.wrap (2 * ((w from_.toNat) (members[0]!.site).toNat))) + (IntKind.i64.wrap (2 * (down (Chain.mk 0 (Sl.mk members.isEmpty members)) w))))) < least))))) ?_
       refine rvP C (.pv (.lit (.bool (decide ((IntKind.i64.wrap ((IntKind.i64.wrap (2 * ((w from_.toNat) (members[0]!.site).toNat))) + (IntKind.i64.wrap (2 * (down (Chain.mk 0 (Sl.mk members.isEmpty members)) w))))) < least))))) ?_
       refine rvc_nil ?_
       refine Awp.cond (b := (decide ((IntKind.i64.wrap ((IntKind.i64.wrap (2 * ((w from_.toNat) (members[0]!.site).toNat))) + (IntKind.i64.wrap (2 * (down (Chain.mk 0 (Sl.mk members.isEmpty members)) w))))) < least))) rfl (fun h35 => ?_) (fun h35 => ?_)
       ·
        replace hR := of_true h35 hR
        refine Awp.regionP C ?_
        refine rvP C (sS (some members.isEmpty) eMember members) ?_
        refine rvP C (.pv (.lit (.int .i64 (IntKind.i64.wrap ((IntKind.i64.wrap (2 * ((w from_.toNat) (members[0]!.site).toNat))) + (IntKind.i64.wrap (2 * (down (Chain.mk 0 (Sl.mk members.isEmpty members)) w)))))))) ?_
        refine rvP C (sS (some members.isEmpty) eMember members) ?_
        refine rvP C (.pv (.lit (.int .i64 (IntKind.i64.wrap ((IntKind.i64.wrap (2 * ((w from_.toNat) (members[0]!.site).toNat))) + (IntKind.i64.wrap (2 * (down (Chain.mk 0 (Sl.mk members.isEmpty members)) w)))))))) ?_
        refine rvc_nil ?_
        refine Awp.regionP C ?_
        refine rvP C (.pv (.lit (.int .i64 (IntKind.i64.wrap ((i : Int) + 1))))) ?_
        refine rvP C (.pv (.lit (.int .i64 (IntKind.i64.wrap ((i : Int) + 1))))) ?_
        refine rvc_nil ?_
        refine ⟨h5, ((Sl.mk members.isEmpty members), (IntKind.i64.wrap ((IntKind.i64.wrap (2 * ((w from_.toNat) (members[0]!.site).toNat))) + (IntKind.i64.wrap (2 * (down (Chain.mk 0 (Sl.mk members.isEmpty members)) w)))))), ?_, ?_⟩
        · exact hR
        · exact ⟨fun b => b, WeakerR.ofL (Ks := [4, 9]) hI ⟨⟨rfl, rfl⟩, ⟨rfl, rfl⟩, ⟨rfl, rfl⟩, ⟨rfl, rfl⟩, ⟨rfl, rfl⟩, ⟨rfl, rfl⟩, ⟨rfl, rfl⟩, ⟨lit_cast (wrap_i64 (by omega) (by omega)), rfl⟩, trivial⟩ (okH_cons rfl rfl rfl rfl (okH_cons rfl rfl rfl rfl (okH_nil))) rfl⟩
       ·
        replace hR := of_false h35 hR
        refine Awp.skip ?_
        refine Awp.regionP C ?_
        refine rvP C (.pv (.lit (.int .i64 (IntKind.i64.wrap ((i : Int) + 1))))) ?_
        refine rvP C (.pv (.lit (.int .i64 (IntKind.i64.wrap ((i : Int) + 1))))) ?_
        refine rvc_nil ?_
        refine ⟨h5, (best, least), ?_, ?_⟩
        · exact hR
        · exact ⟨fun b => b, WeakerR.ofL (Ks := [4, 9]) hI ⟨⟨rfl, rfl⟩, ⟨rfl, rfl⟩, ⟨rfl, rfl⟩, ⟨rfl, rfl⟩, ⟨rfl, rfl⟩, ⟨rfl, rfl⟩, ⟨rfl, rfl⟩, ⟨lit_cast (wrap_i64 (by omega) (by omega)), rfl⟩, trivial⟩ (okH_cons rfl rfl rfl rfl (okH_cons rfl rfl rfl rfl (okH_nil))) rfl⟩
    -- !! two models: ('(bif (decide (least < 0)) then best_l0 w from_ fc ([(ofL [(0 : Int), 1, 2]), (ofL [(0 : Int), 2, 1]), (ofL [(1 : Int), 0, 2]), (ofL [(1 : Int), 2, 0]), (ofL [(2 : Int), 0, 1]), (ofL [(2 : Int), 1, 0])].drop (i + 1)) (i + 1) (Sl.mk members.isEmpty members) (IntKind.i64.wrap ((IntKind.i64.wrap (2 * ((w from_.toNat) (members[0]!.site).toNat))) + (IntKind.i64.wrap (2 * (down (Chain.mk 0 (Sl.mk members.isEmpty members)) w))))) else (bif (decide ((IntKind.i64.wrap ((IntKind.i64.wrap (2 * ((w from_.toNat) (members[0]!.site).toNat))) + (IntKind.i64.wrap (2 * (down (Chain.mk 0 (Sl.mk members.isEmpty members)) w))))) < least)) then best_l0 w from_ fc ([(ofL [(0 : Int), 1, 2]), (ofL [(0 : Int), 2, 1]), (ofL [(1 : Int), 0, 2]), (ofL [(1 : Int), 2, 0]), (ofL [(2 : Int), 0, 1]), (ofL [(2 : Int), 1, 0])].drop (i + 1)) (i + 1) (Sl.mk members.isEmpty members) (IntKind.i64.wrap ((IntKind.i64.wrap (2 * ((w from_.toNat) (members[0]!.site).toNat))) + (IntKind.i64.wrap (2 * (down (Chain.mk 0 (Sl.mk members.isEmpty members)) w))))) else best_l0 w from_ fc ([(ofL [(0 : Int), 1, 2]), (ofL [(0 : Int), 2, 1]), (ofL [(1 : Int), 0, 2]), (ofL [(1 : Int), 2, 0]), (ofL [(2 : Int), 0, 1]), (ofL [(2 : Int), 1, 0])].drop (i + 1)) (i + 1) best least))', 'best_l2 x i1 (fun members1 => best_l1 fc x (fun members => (bif (decide (least < 0)) then best_l0 w from_ fc ([(ofL [(0 : Int), 1, 2]), (ofL [(0 : Int), 2, 1]), (ofL [(1 : Int), 0, 2]), (ofL [(1 : Int), 2, 0]), (ofL [(2 : Int), 0, 1]), (ofL [(2 : Int), 1, 0])].drop (i + 1)) (i + 1) (Sl.mk members.isEmpty members) (IntKind.i64.wrap ((IntKind.i64.wrap (2 * ((w from_.toNat) (members[0]!.site).toNat))) + (IntKind.i64.wrap (2 * (down (Chain.mk 0 (Sl.mk members.isEmpty members)) w))))) else (bif (decide ((IntKind.i64.wrap ((IntKind.i64.wrap (2 * ((w from_.toNat) (members[0]!.site).toNat))) + (IntKind.i64.wrap (2 * (down (Chain.mk 0 (Sl.mk members.isEmpty members)) w))))) < least)) then best_l0 w from_ fc ([(ofL [(0 : Int), 1, 2]), (ofL [(0 : Int), 2, 1]), (ofL [(1 : Int), 0, 2]), (ofL [(1 : Int), 2, 0]), (ofL [(2 : Int), 0, 1]), (ofL [(2 : Int), 1, 0])].drop (i + 1)) (i + 1) (Sl.mk members.isEmpty members) (IntKind.i64.wrap ((IntKind.i64.wrap (2 * ((w from_.toNat) (members[0]!.site).toNat))) + (IntKind.i64.wrap (2 * (down (Chain.mk 0 (Sl.mk members.isEmpty members)) w))))) else best_l0 w from_ fc ([(ofL [(0 : Int), 1, 2]), (ofL [(0 : Int), 2, 1]), (ofL [(1 : Int), 0, 2]), (ofL [(1 : Int), 2, 0]), (ofL [(2 : Int), 0, 1]), (ofL [(2 : Int), 1, 0])].drop (i + 1)) (i + 1) best least))) k (i1 + 1) members1) fc.1.members.D 0 members') ||| ('(bif (decide (least < 0)) then best_l0 w from_ fc ([(ofL [(0 : Int), 1, 2]), (ofL [(0 : Int), 2, 1]), (ofL [(1 : Int), 0, 2]), (ofL [(1 : Int), 2, 0]), (ofL [(2 : Int), 0, 1]), (ofL [(2 : Int), 1, 0])].drop (i + 1)) (i + 1) (Sl.mk members.isEmpty members) (IntKind.i64.wrap ((IntKind.i64.wrap (2 * ((w from_.toNat) (members[0]!.site).toNat))) + (IntKind.i64.wrap (2 * (down (Chain.mk 0 (Sl.mk members.isEmpty members)) w))))) else (bif (decide ((IntKind.i64.wrap ((IntKind.i64.wrap (2 * ((w from_.toNat) (members[0]!.site).toNat))) + (IntKind.i64.wrap (2 * (down (Chain.mk 0 (Sl.mk members.isEmpty members)) w))))) < least)) then best_l0 w from_ fc ([(ofL [(0 : Int), 1, 2]), (ofL [(0 : Int), 2, 1]), (ofL [(1 : Int), 0, 2]), (ofL [(1 : Int), 2, 0]), (ofL [(2 : Int), 0, 1]), (ofL [(2 : Int), 1, 0])].drop (i + 1)) (i + 1) (Sl.mk members.isEmpty members) (IntKind.i64.wrap ((IntKind.i64.wrap (2 * ((w from_.toNat) (members[0]!.site).toNat))) + (IntKind.i64.wrap (2 * (down (Chain.mk 0 (Sl.mk members.isEmpty members)) w))))) else best_l0 w from_ fc ([(ofL [(0 : Int), 1, 2]), (ofL [(0 : Int), 2, 1]), (ofL [(1 : Int), 0, 2]), (ofL [(1 : Int), 2, 0]), (ofL [(2 : Int), 0, 1]), (ofL [(2 : Int), 1, 0])].drop (i + 1)) (i + 1) best least))', 'best_l2 x i1 (fun members2 => best_l1 fc x (fun members => (bif (decide (least < 0)) then best_l0 w from_ fc ([(ofL [(0 : Int), 1, 2]), (ofL [(0 : Int), 2, 1]), (ofL [(1 : Int), 0, 2]), (ofL [(1 : Int), 2, 0]), (ofL [(2 : Int), 0, 1]), (ofL [(2 : Int), 1, 0])].drop (i + 1)) (i + 1) (Sl.mk members.isEmpty members) (IntKind.i64.wrap ((IntKind.i64.wrap (2 * ((w from_.toNat) (members[0]!.site).toNat))) + (IntKind.i64.wrap (2 * (down (Chain.mk 0 (Sl.mk members.isEmpty members)) w))))) else (bif (decide ((IntKind.i64.wrap ((IntKind.i64.wrap (2 * ((w from_.toNat) (members[0]!.site).toNat))) + (IntKind.i64.wrap (2 * (down (Chain.mk 0 (Sl.mk members.isEmpty members)) w))))) < least)) then best_l0 w from_ fc ([(ofL [(0 : Int), 1, 2]), (ofL [(0 : Int), 2, 1]), (ofL [(1 : Int), 0, 2]), (ofL [(1 : Int), 2, 0]), (ofL [(2 : Int), 0, 1]), (ofL [(2 : Int), 1, 0])].drop (i + 1)) (i + 1) (Sl.mk members.isEmpty members) (IntKind.i64.wrap ((IntKind.i64.wrap (2 * ((w from_.toNat) (members[0]!.site).toNat))) + (IntKind.i64.wrap (2 * (down (Chain.mk 0 (Sl.mk members.isEmpty members)) w))))) else best_l0 w from_ fc ([(ofL [(0 : Int), 1, 2]), (ofL [(0 : Int), 2, 1]), (ofL [(1 : Int), 0, 2]), (ofL [(1 : Int), 2, 0]), (ofL [(2 : Int), 0, 1]), (ofL [(2 : Int), 1, 0])].drop (i + 1)) (i + 1) best least))) k (i1 + 1) members2) fc.1.members.D 0 members')
   ·
    have h5 : ¬ i < [(ofL [(0 : Int), 1, 2]), (ofL [(0 : Int), 2, 1]), (ofL [(1 : Int), 0, 2]), (ofL [(1 : Int), 2, 0]), (ofL [(2 : Int), 0, 1]), (ofL [(2 : Int), 1, 0])].length := by have := of_decide_eq_false h4; omega
    rw [drop_end h5] at hR
    refine Awp.exit ?_
    refine Awp.consP C ?_
    refine rvP C (sS (some best.nil) eMember best.D) ?_
    refine rvP C (.pv (.lit (.int .i64 least))) ?_
    refine rvP C (sS (some best.nil) eMember best.D) ?_
    refine rvP C (.pv (.lit (.int .i64 least))) ?_
    refine rvP C (.pv (.lit (.int .i64 0))) ?_
    refine rvc_nil ?_
    refine Awp.ret ?_
    subst hR
    exact ⟨.inl rfl, rfl⟩
end Go.Proofs.Ytihccnkegkkikaa
/- The best order of sites in plain Lean: the code's is the document's. No conditions. -/
namespace Go.Proofs.Ytihccnkegkkikaa
open Go.Am
section go
variable (w : Nat → Nat → Int) (f : Int)
def nOf (m : List Member) : Int := IntKind.i64.wrap ((IntKind.i64.wrap (2 * ((w f.toNat) (m[0]!.site).toNat))) + (IntKind.i64.wrap (2 * (down (Chain.mk 0 (Sl.mk m.isEmpty m)) w))))
def goC : List (List Member) → Sl Member → Int → Sl Member × Int
  | [], b, n => (b, n)
  | m :: ms, b, n => bif decide (n < 0) then goC ms ⟨m.isEmpty, m⟩ (nOf w f m) else bif decide (nOf w f m < n) then goC ms ⟨m.isEmpty, m⟩ (nOf w f m) else goC ms b n
def goR : List (List Member) → Sl Member → Sl Member
  | [], b => b
  | m :: ms, b => bif b.nil then goR ms ⟨m.isEmpty, m⟩ else bif decide (cost ⟨m.isEmpty, m⟩ w f < cost b w f) then goR ms ⟨m.isEmpty, m⟩ else goR ms b
end go
def Fine (m : List Member) : Prop := 0 < m.length ∧ m.length ≤ 6 ∧ ∀ y ∈ m, 0 ≤ y.site ∧ y.site < 3
theorem fine_cost {w : Nat → Nat → Int} (hW : Ways w) {f : Int} (hf : 0 ≤ f ∧ f < 3) {m : List Member} (h : Fine m) {b : Bool} : nOf w f m = cost ⟨b, m⟩ w f ∧ 0 ≤ cost ⟨b, m⟩ w f ∧ m.isEmpty = false := by
  obtain ⟨h1, h2, h3⟩ := h
  have hb := way_at hW hf (h3 _ (at_mem (D := m) (n := 0) h1))
  have hp := path_le hW m h3
  have e1 := cost_eq (s := ⟨b, m⟩) hW hf h3 h2 h1
  have e2 : down ⟨0, ⟨m.isEmpty, m⟩⟩ w = pathS w m := down_eq (c := ⟨0, ⟨m.isEmpty, m⟩⟩) hW h3 h2 h1
  have e1 : cost ⟨b, m⟩ w f = (2 : Int) * w f.toNat (m[0]!).site.toNat + (2 : Int) * pathS w m := e1
  have g1 := wrapI (((2 : Nat) : Int) * w f.toNat (m[0]!).site.toNat) (by omega)
  refine ⟨?_, by omega, ?_⟩
  · unfold nOf
    rw [e2, g1, wrapI ((2 : Int) * pathS w m) (by omega), wrapI _ (by omega), e1]; rfl
  · cases m with
    | nil => exact absurd h1 (by simp)
    | cons x m => rfl
theorem goC_eq {w : Nat → Nat → Int} (hW : Ways w) {f : Int} (hf : 0 ≤ f ∧ f < 3) : ∀ (ms : List (List Member)) (b : Sl Member) (n : Int), (∀ m ∈ ms, Fine m) → (b.nil = true ∧ n = -1 ∨ b.nil = false ∧ n = cost b w f ∧ 0 ≤ n) → (ms ≠ [] ∨ b.nil = false) → goC w f ms b n = (goR w f ms b, cost (goR w f ms b) w f)
  | [], b, n, _, h, h2 => by
    rcases h with ⟨h, _⟩ | ⟨_, h, _⟩
    · rcases h2 with h2 | h2
      · exact absurd rfl h2
      · rw [h] at h2; cases h2
    · show (b, n) = (b, cost b w f)
      rw [h]
  | m :: ms, b, n, hm, h, _ => by
    obtain ⟨c1, c2, c3⟩ := fine_cost hW hf (hm m (List.mem_cons_self ..)) (b := m.isEmpty)
    have ihn := goC_eq hW hf ms ⟨m.isEmpty, m⟩ (nOf w f m) (fun x hx => hm x (List.mem_cons_of_mem _ hx)) (.inr ⟨c3, c1, by rw [c1]; exact c2⟩) (.inr c3)
    unfold goC goR
    rcases h with ⟨h1, h2⟩ | ⟨h1, h2, h3⟩
    · rw [h1, h2, decide_eq_true (by decide), cond_true, cond_true]; exact ihn
    · have ihs := goC_eq hW hf ms b n (fun x hx => hm x (List.mem_cons_of_mem _ hx)) (.inr ⟨h1, h2, h3⟩) (.inr h1)
      rw [h1, decide_eq_false (by omega), cond_false, cond_false, ← c1, ← h2]
      cases decide (nOf w f m < n)
      · exact ihs
      · exact ihn
theorem best_l2_eq (x : Nat → Int) (i : Nat) (kk : List Member → Sl Member × Int × Int) : ∀ (l : List Member) (j : Nat) (m : List Member), best_l2 x i kk l j m = kk (m ++ l.filter fun y => y.site == x i)
  | [], _, m => by rw [List.filter_nil, List.append_nil]; rfl
  | y :: l, j, m => by
    unfold best_l2
    rw [best_l2_eq x i kk l, best_l2_eq x i kk l, List.filter_cons]
    cases y.site == x i
    · rfl
    · show kk (m ++ [y] ++ _) = kk (m ++ y :: _)
      rw [List.append_assoc]; rfl
theorem best_l1_eq (fc : Chain × Int) (x : Nat → Int) (kk : List Member → Sl Member × Int × Int) : ∀ (k i : Nat) (m : List Member), best_l1 fc x kk k i m = kk (m ++ (List.range' i k).flatMap fun t => fc.1.members.D.filter fun y => y.site == x t)
  | 0, _, m => by rw [List.range'_zero, List.flatMap_nil, List.append_nil]; rfl
  | k + 1, i, m => by
    unfold best_l1
    rw [best_l2_eq, best_l1_eq fc x kk k (i + 1), List.range'_succ, List.flatMap_cons, List.append_assoc]
theorem best_l0_eq (w : Nat → Nat → Int) (f : Int) (fc : Chain × Int) : ∀ (xs : List (Nat → Int)) (i : Nat) (b : Sl Member) (n : Int), best_l0 w f fc xs i b n = ((goC w f (xs.map fun x => inOrder fc.1.members.D x 3) b n).1, (goC w f (xs.map fun x => inOrder fc.1.members.D x 3) b n).2, 0)
  | [], _, b, n => rfl
  | x :: xs, i, b, n => by
    unfold best_l0
    rw [best_l1_eq, List.nil_append, List.map_cons]
    have e : ((List.range' 0 3).flatMap fun t => fc.1.members.D.filter fun y => y.site == x t) = inOrder fc.1.members.D x 3 := by unfold inOrder; rw [List.range_eq_range']
    rw [e]
    unfold goC
    rw [best_l0_eq w f fc xs, best_l0_eq w f fc xs]
    show (bif decide (n < 0) then ((goC w f _ _ (nOf w f (inOrder fc.1.members.D x 3))).1, (goC w f _ _ (nOf w f (inOrder fc.1.members.D x 3))).2, (0 : Int)) else bif decide (nOf w f (inOrder fc.1.members.D x 3) < n) then ((goC w f _ _ (nOf w f (inOrder fc.1.members.D x 3))).1, (goC w f _ _ (nOf w f (inOrder fc.1.members.D x 3))).2, (0 : Int)) else _) = _
    cases decide (n < 0)
    · cases decide (nOf w f (inOrder fc.1.members.D x 3) < n) <;> rfl
    · rfl
theorem goR_cons (w : Nat → Nat → Int) (f : Int) (m : List Member) (ms : List (List Member)) (b : Sl Member) : goR w f ms (bif b.nil then ⟨m.isEmpty, m⟩ else bif decide (cost ⟨m.isEmpty, m⟩ w f < cost b w f) then ⟨m.isEmpty, m⟩ else b) = goR w f (m :: ms) b := by
  show _ = bif b.nil then goR w f ms ⟨m.isEmpty, m⟩ else bif decide (cost ⟨m.isEmpty, m⟩ w f < cost b w f) then goR w f ms ⟨m.isEmpty, m⟩ else goR w f ms b
  cases b.nil
  · cases decide (cost ⟨m.isEmpty, m⟩ w f < cost b w f) <;> rfl
  · rfl
def cands (D : List Member) : List (List Member) := [inList D [0, 1, 2], inList D [0, 2, 1], inList D [1, 0, 2], inList D [1, 2, 0], inList D [2, 0, 1], inList D [2, 1, 0]]
theorem order_list (D : List Member) (x : Nat → Int) : inOrder D x 3 = inList D [x 0, x 1, x 2] := by
  unfold inOrder inList
  rw [show List.range 3 = [0, 1, 2] by decide]
  simp only [List.flatMap_cons, List.flatMap_nil]
theorem orders_eq (D : List Member) : ([(ofL [(0 : Int), 1, 2]), (ofL [(0 : Int), 2, 1]), (ofL [(1 : Int), 0, 2]), (ofL [(1 : Int), 2, 0]), (ofL [(2 : Int), 0, 1]), (ofL [(2 : Int), 1, 0])].map fun x => inOrder D x 3) = cands D := by
  have h : ∀ a b c : Int, inOrder D (ofL [a, b, c]) 3 = inList D [a, b, c] := fun a b c => order_list D (ofL [a, b, c])
  unfold cands
  simp only [List.map_cons, List.map_nil, h]
theorem list_len {D : List Member} {a b c : Int} (h : ∀ s, 0 ≤ s ∧ s < 3 → s = a ∨ s = b ∨ s = c) (hab : a ≠ b) (hac : a ≠ c) (hbc : b ≠ c) (hs : ∀ y ∈ D, 0 ≤ y.site ∧ y.site < 3) : (inList D [a, b, c]).length = D.length := by
  unfold inList
  rw [List.flatMap_cons, List.flatMap_cons, List.flatMap_cons, List.flatMap_nil, List.append_nil, List.length_append, List.length_append]
  induction D with
  | nil => rfl
  | cons x D ih =>
    have ih := ih fun y hy => hs y (List.mem_cons_of_mem _ hy)
    rw [List.filter_cons, List.filter_cons, List.filter_cons, List.length_cons]
    rcases h x.site (hs x (List.mem_cons_self ..)) with e | e | e
    · rw [show (x.site == a) = true by simpa using e, show (x.site == b) = false by simp [e]; exact hab, show (x.site == c) = false by simp [e]; exact hac]
      simp only [Bool.false_eq_true, if_false, if_true, List.length_cons]; omega
    · rw [show (x.site == a) = false by simp [e]; exact fun q => hab q.symm, show (x.site == b) = true by simpa using e, show (x.site == c) = false by simp [e]; exact hbc]
      simp only [Bool.false_eq_true, if_false, if_true, List.length_cons]; omega
    · rw [show (x.site == a) = false by simp [e]; exact fun q => hac q.symm, show (x.site == b) = false by simp [e]; exact fun q => hbc q.symm, show (x.site == c) = true by simpa using e]
      simp only [Bool.false_eq_true, if_false, if_true, List.length_cons]; omega
theorem cands_fine {D : List Member} (hD : 0 < D.length) (h6 : D.length ≤ 6) (hs : ∀ y ∈ D, 0 ≤ y.site ∧ y.site < 3) : ∀ m ∈ cands D, Fine m ∧ m.length = D.length := by
  have key : ∀ a b c : Int, (∀ s, 0 ≤ s ∧ s < 3 → s = a ∨ s = b ∨ s = c) → a ≠ b → a ≠ c → b ≠ c → Fine (inList D [a, b, c]) ∧ (inList D [a, b, c]).length = D.length := fun a b c h h1 h2 h3 => by
    have hl := list_len h h1 h2 h3 hs
    obtain ⟨g1, g2, _⟩ := inList_all (n := 3) rfl (by omega) h hD hs
    exact ⟨⟨g1, by omega, g2⟩, hl⟩
  intro m hm
  unfold cands at hm
  simp only [List.mem_cons, List.not_mem_nil, or_false] at hm
  rcases hm with rfl | rfl | rfl | rfl | rfl | rfl
  all_goals exact key _ _ _ (fun s hs => by omega) (by decide) (by decide) (by decide)
end Go.Proofs.Ytihccnkegkkikaa
/- The best order of sites: what it is. No conditions. -/
namespace Go.Proofs.Ytihccnkegkkikaa
open Go.Am
theorem goR_mem (w : Nat → Nat → Int) (f : Int) : ∀ (ms : List (List Member)) (b : Sl Member), goR w f ms b = b ∨ ∃ m ∈ ms, goR w f ms b = ⟨m.isEmpty, m⟩
  | [], _ => .inl rfl
  | m :: ms, b => by
    rw [← goR_cons]
    rcases goR_mem w f ms (bif b.nil then ⟨m.isEmpty, m⟩ else bif decide (cost ⟨m.isEmpty, m⟩ w f < cost b w f) then ⟨m.isEmpty, m⟩ else b) with h | ⟨x, hx, h⟩
    · rw [h]
      cases b.nil
      · cases decide (cost ⟨m.isEmpty, m⟩ w f < cost b w f)
        · exact .inl rfl
        · exact .inr ⟨m, List.mem_cons_self .., rfl⟩
      · exact .inr ⟨m, List.mem_cons_self .., rfl⟩
    · exact .inr ⟨x, List.mem_cons_of_mem _ hx, h⟩
theorem goR_le (w : Nat → Nat → Int) (f : Int) : ∀ (ms : List (List Member)) (b : Sl Member), (∀ m ∈ ms, m.isEmpty = false) → (b.nil = false → cost (goR w f ms b) w f ≤ cost b w f) ∧ ∀ m ∈ ms, cost (goR w f ms b) w f ≤ cost ⟨m.isEmpty, m⟩ w f
  | [], _, _ => ⟨fun _ => Int.le_refl _, fun _ h => by cases h⟩
  | m :: ms, b, hm => by
    rw [← goR_cons]
    have hm0 := hm m (List.mem_cons_self ..)
    obtain ⟨h1, h2⟩ := goR_le w f ms (bif b.nil then ⟨m.isEmpty, m⟩ else bif decide (cost ⟨m.isEmpty, m⟩ w f < cost b w f) then ⟨m.isEmpty, m⟩ else b) fun x hx => hm x (List.mem_cons_of_mem _ hx)
    revert h1 h2
    cases hb : b.nil
    · rw [cond_false]
      cases hd : decide (cost ⟨m.isEmpty, m⟩ w f < cost b w f)
      · rw [cond_false]
        intro h1 h2
        have h1 := h1 hb
        have hd := of_decide_eq_false hd
        refine ⟨fun _ => h1, fun x hx => ?_⟩
        cases hx with
        | head => omega
        | tail _ hx => exact h2 x hx
      · rw [cond_true]
        intro h1 h2
        have h1 := h1 hm0
        have hd := of_decide_eq_true hd
        refine ⟨fun _ => by omega, fun x hx => ?_⟩
        cases hx with
        | head => exact h1
        | tail _ hx => exact h2 x hx
    · rw [cond_true]
      intro h1 h2
      have h1 := h1 hm0
      refine ⟨fun h => (by cases h), fun x hx => ?_⟩
      cases hx with
      | head => exact h1
      | tail _ hx => exact h2 x hx
theorem best_bad {l : Sl Member} {w : Nat → Nat → Int} {f : Int} (h : (best l w f).2.2 ≠ 0) : best l w f = (⟨true, []⟩, 0, (best l w f).2.2) := by
  unfold best at h ⊢
  cases h1 : (firstC l).2 != 0
  · rw [h1, cond_false] at h
    rw [cond_false]
    cases h2 : able (firstC l).1 w f != 0
    · rw [h2, cond_false, best_l0_eq] at h
      exact absurd rfl h
    · rw [cond_true]
  · rw [cond_true]
theorem best_ok {l : Sl Member} {w : Nat → Nat → Int} {f : Int} (h : (best l w f).2.2 = 0) : (firstC l).2 = 0 ∧ able (firstC l).1 w f = 0 ∧ ∃ m ∈ cands (firstC l).1.members.D, (best l w f).1 = ⟨m.isEmpty, m⟩ ∧ (best l w f).2.1 = cost ⟨m.isEmpty, m⟩ w f ∧ ∀ x ∈ cands (firstC l).1.members.D, (best l w f).2.1 ≤ cost ⟨x.isEmpty, x⟩ w f := by
  unfold best at h ⊢
  cases h1 : (firstC l).2 != 0
  case true => rw [h1, cond_true] at h; rw [h] at h1; cases h1
  rw [h1, cond_false] at h
  cases ha : able (firstC l).1 w f != 0
  case true => rw [ha, cond_true] at h; have h : able (firstC l).1 w f = 0 := h; rw [h] at ha; cases ha
  obtain ⟨hc, hw, hf⟩ := able_ok (eq_of_bne_false ha)
  have hW := (wayCheck_iff w).1.1 hw
  have hs := sites_ok hc
  have hl := check_len hc
  have h6 := check_le6 hc
  have hfine := cands_fine hl h6 hs
  refine ⟨eq_of_bne_false h1, eq_of_bne_false ha, ?_⟩
  rw [cond_false, cond_false, best_l0_eq, orders_eq, goC_eq hW hf _ _ _ (fun m hm => (hfine m hm).1) (.inl ⟨rfl, rfl⟩) (.inl (by unfold cands; simp))]
  have hle := (goR_le w f (cands (firstC l).1.members.D) ⟨true, []⟩ fun m hm => (fine_cost hW hf (hfine m hm).1 (b := true)).2.2).2
  rcases goR_mem w f (cands (firstC l).1.members.D) ⟨true, []⟩ with hb | ⟨m, hm, hb⟩
  · exfalso
    have hm : inList (firstC l).1.members.D [0, 1, 2] ∈ cands (firstC l).1.members.D := by unfold cands; exact List.mem_cons_self ..
    have hne : goR w f (cands (firstC l).1.members.D) ⟨true, []⟩ ≠ ⟨true, []⟩ := by
      unfold cands
      rw [← goR_cons]
      show goR w f _ ⟨(inList (firstC l).1.members.D [0, 1, 2]).isEmpty, inList (firstC l).1.members.D [0, 1, 2]⟩ ≠ _
      rw [(fine_cost hW hf (hfine _ hm).1 (b := true)).2.2]
      intro e
      rcases goR_mem w f [inList (firstC l).1.members.D [0, 2, 1], inList (firstC l).1.members.D [1, 0, 2], inList (firstC l).1.members.D [1, 2, 0], inList (firstC l).1.members.D [2, 0, 1], inList (firstC l).1.members.D [2, 1, 0]] ⟨false, inList (firstC l).1.members.D [0, 1, 2]⟩ with q | ⟨x, hx, q⟩
      · rw [q] at e; cases e
      · rw [q] at e
        have hx' : x ∈ cands (firstC l).1.members.D := by unfold cands; exact List.mem_cons_of_mem _ hx
        rw [(fine_cost hW hf (hfine x hx').1 (b := true)).2.2] at e
        cases e
    exact hne hb
  · exact ⟨m, hm, hb, by rw [hb], hle⟩
theorem best_len (l : Sl Member) (w : Nat → Nat → Int) (f : Int) : (best l w f).1.D.length ≤ 6 := by
  by_cases h : (best l w f).2.2 = 0
  · obtain ⟨_, ha, m, hm, e, _⟩ := best_ok h
    have hc := (able_ok ha).1
    rw [e]
    exact (cands_fine (check_len hc) (check_le6 hc) (sites_ok hc) m hm).1.2.1
  · rw [best_bad h]; exact Nat.zero_le _
theorem best_cost {l : Sl Member} {w : Nat → Nat → Int} {f : Int} (h : (best l w f).2.2 = 0) : 0 < (best l w f).1.D.length ∧ (∀ y ∈ (best l w f).1.D, 0 ≤ y.site ∧ y.site < 3) ∧ 0 ≤ f ∧ f < 3 := by
  obtain ⟨_, ha, m, hm, e, _⟩ := best_ok h
  obtain ⟨hc, _, hf⟩ := able_ok ha
  rw [e]
  have := (cands_fine (check_len hc) (check_le6 hc) (sites_ok hc) m hm).1
  exact ⟨this.1, this.2.2, hf⟩
end Go.Proofs.Ytihccnkegkkikaa
/- Laws: the best order. No conditions. -/
namespace Go.Proofs.Ytihccnkegkkikaa
open Go.Am
def lawLeast (l : (Sl Member)) (w : (Nat → (Nat → Int))) (from_ : Int) : Bool :=
  (bif (decide ((l.D.length : Int) > 60)) then (awake ) else (bif ((best l w from_).2.2 != 0) then (bif (((best l w from_).1.D.length : Int) == 0) then (bif ((best l w from_).2.1 == 0) then (awake ) else false) else false) else (bif ((firstC l).2 == 0) then (bif ((writeW (firstC l).1 w from_).2 == 0) then (bif (decide ((best l w from_).2.1 ≤ (writeW (firstC l).1 w from_).1)) then (bif (((best l w from_).1.D.length : Int) == (l.D.length : Int)) then (bif (decide (((best l w from_).1.D.length : Int) > 0)) then (bif ((cost (best l w from_).1 w from_) == (best l w from_).2.1) then (awake ) else false) else false) else false) else false) else false) else false)))
theorem lawLeast_calls (l : (Sl Member)) (w : (Nat → (Nat → Int))) (from_ : Int) (hl1 : l.D.length ≤ 1000000) : PCalls Try.prog 9 [sS (some l.nil) eMember l.D, .agg [.pv (.lit (.int .i64 ((w 0) 0))), .pv (.lit (.int .i64 ((w 0) 1))), .pv (.lit (.int .i64 ((w 0) 2))), .pv (.lit (.int .i64 ((w 1) 0))), .pv (.lit (.int .i64 ((w 1) 1))), .pv (.lit (.int .i64 ((w 1) 2))), .pv (.lit (.int .i64 ((w 2) 0))), .pv (.lit (.int .i64 ((w 2) 1))), .pv (.lit (.int .i64 ((w 2) 2)))], .pv (.lit (.int .i64 from_))] (.pv (.lit (.bool (lawLeast l w from_)))) := by
 generalize hR : lawLeast l w from_ = R
 refine PCalls.of_body tabOk Try.func9 rfl rfl rfl rfl rfl mixed fun E hP C hI => ?_
 refine Awp.consP C ?_
 refine rvc_un (rexec_prim C (δ := { v := .ptr 4 0, new := [(4, .cells [.pv (.lit (.int .i64 ((w 0) 0))), .pv (.lit (.int .i64 ((w 0) 1))), .pv (.lit (.int .i64 ((w 0) 2))), .pv (.lit (.int .i64 ((w 1) 0))), .pv (.lit (.int .i64 ((w 1) 1))), .pv (.lit (.int .i64 ((w 1) 2))), .pv (.lit (.int .i64 ((w 2) 0))), .pv (.lit (.int .i64 ((w 2) 1))), .pv (.lit (.int .i64 ((w 2) 2)))])] }) rfl rfl rfl rfl trivial rfl ?_)
 refine rvP C (.pv (.lit (.bool false))) ?_
 refine rvc_nil ?_
 refine Awp.seq ?_
 refine Awp.consP C ?_
 refine rvP C (sS (some l.nil) eMember l.D) ?_
 refine rvP C (.pv (.lit (.int .i64 (l.D.length : Int)))) ?_
 refine rvP C (.pv (.lit (.bool (decide ((l.D.length : Int) > 60))))) ?_
 refine rvc_nil ?_
 refine Awp.cond (b := (decide ((l.D.length : Int) > 60))) rfl (fun h1 => ?_) (fun h1 => ?_)
 ·
  replace hR := of_true h1 hR
  refine Awp.consP C ?_
  obtain ⟨aw, hq_aw⟩ : ∃ q_, q_ = (awake ) := ⟨_, rfl⟩
  have hc_aw := (awake_calls )
  first | rw [← hq_aw] at hR hc_aw | (unfold lawLeast at hR; rw [← hq_aw] at hR hc_aw)
  refine rvc_un (rexec_call hP C rfl rfl rfl hc_aw ?_)
  refine rvP C (.pv (.lit (.bool aw))) ?_
  refine rvc_nil ?_
  refine Awp.ret ?_
  subst hR
  exact ⟨.inl rfl, rfl⟩
 ·
  replace hR := of_false h1 hR
  refine Awp.skip ?_
  refine Awp.consP C ?_
  refine rvP C (sS (some l.nil) eMember l.D) ?_
  refine rvP C (.agg [.pv (.lit (.int .i64 ((w 0) 0))), .pv (.lit (.int .i64 ((w 0) 1))), .pv (.lit (.int .i64 ((w 0) 2))), .pv (.lit (.int .i64 ((w 1) 0))), .pv (.lit (.int .i64 ((w 1) 1))), .pv (.lit (.int .i64 ((w 1) 2))), .pv (.lit (.int .i64 ((w 2) 0))), .pv (.lit (.int .i64 ((w 2) 1))), .pv (.lit (.int .i64 ((w 2) 2)))]) ?_
  refine rvP C (.pv (.lit (.int .i64 from_))) ?_
  obtain ⟨ba, hq_ba⟩ : ∃ q_, q_ = (best l w from_) := ⟨_, rfl⟩
  have hc_ba := (best_calls l w from_ hl1)
  first | rw [← hq_ba] at hR hc_ba | (unfold lawLeast at hR; rw [← hq_ba] at hR hc_ba)
  have hf0_ba := best_len l w from_
  rw [← hq_ba] at hf0_ba
  refine rvc_un (rexec_call hP C rfl rfl rfl hc_ba ?_)
  refine rvP C (.tup [sS (some ba.1.nil) eMember ba.1.D, .pv (.lit (.int .i64 ba.2.1)), .pv (.lit (.int .i64 ba.2.2))]) ?_
  refine rvP C (sS (some ba.1.nil) eMember ba.1.D) ?_
  refine rvP C (.pv (.lit (.int .i64 ba.2.1))) ?_
  refine rvP C (.pv (.lit (.int .i64 ba.2.2))) ?_
  refine rvP C (sS (some ba.1.nil) eMember ba.1.D) ?_
  refine rvP C (.pv (.lit (.int .i64 ba.2.1))) ?_
  refine rvP C (.pv (.lit (.int .i64 ba.2.2))) ?_
  refine rvc_nil ?_
  refine Awp.seq ?_
  refine Awp.consP C ?_
  refine rvP C (.pv (.lit (.int .i64 ba.2.2))) ?_
  refine rvP C (.pv (.lit (.bool (ba.2.2 != 0)))) ?_
  refine rvc_nil ?_
  refine Awp.cond (b := (ba.2.2 != 0)) rfl (fun h2 => ?_) (fun h2 => ?_)
  ·
   replace hR := of_true h2 hR
   refine Awp.consP C ?_
   refine rvP C (sS (some ba.1.nil) eMember ba.1.D) ?_
   refine rvP C (.pv (.lit (.int .i64 (ba.1.D.length : Int)))) ?_
   refine rvP C (.pv (.lit (.bool ((ba.1.D.length : Int) == 0)))) ?_
   refine rvP C (.pv (.lit (.bool ((ba.1.D.length : Int) == 0)))) ?_
   refine rvc_case 31 ((ba.1.D.length : Int) == 0) rfl (fun h3 => ?_) (fun h3 => ?_)
   ·
    replace hR := of_true h3 hR
    refine rvO C (.pv (.lit (.int .i64 ba.2.1))) ?_
    refine rvO C (.pv (.lit (.bool (ba.2.1 == 0)))) ?_
    refine rvP C (.pv (.lit (.bool (ba.2.1 == 0)))) ?_
    refine rvP C (.pv (.lit (.bool (ba.2.1 == 0)))) ?_
    refine rvc_case 35 (ba.2.1 == 0) rfl (fun h4 => ?_) (fun h4 => ?_)
    ·
     replace hR := of_true h4 hR
     obtain ⟨aw1, hq_aw1⟩ : ∃ q_, q_ = (awake ) := ⟨_, rfl⟩
     have hc_aw1 := (awake_calls )
     first | rw [← hq_aw1] at hR hc_aw1 | (unfold lawLeast at hR; rw [← hq_aw1] at hR hc_aw1)
     refine rvc_open rfl rfl rfl (rexec_call hP C rfl rfl rfl hc_aw1 ?_)
     refine rvP C (.pv (.lit (.bool aw1))) ?_
     refine rvP C (.pv (.lit (.bool aw1))) ?_
     refine rvc_nil ?_
     refine Awp.ret ?_
     subst hR
     exact ⟨.inl rfl, rfl⟩
    ·
     replace hR := of_false h4 hR
     refine rvS ?_
     refine rvP C (.pv (.lit (.bool false))) ?_
     refine rvP C (.pv (.lit (.bool false))) ?_
     refine rvc_nil ?_
     refine Awp.ret ?_
     subst hR
     exact ⟨.inl rfl, rfl⟩
   ·
    replace hR := of_false h3 hR
    refine rvS ?_
    refine rvS ?_
    refine rvP C (.pv (.lit (.bool false))) ?_
    refine rvP C (.pv (.lit (.bool false))) ?_
    refine rvS ?_
    refine rvP C (.pv (.lit (.bool false))) ?_
    refine rvP C (.pv (.lit (.bool false))) ?_
    refine rvc_nil ?_
    refine Awp.ret ?_
    subst hR
    exact ⟨.inl rfl, rfl⟩
  ·
   replace hR := of_false h2 hR
   refine Awp.skip ?_
   refine Awp.consP C ?_
   refine rvP C (sS (some l.nil) eMember l.D) ?_
   obtain ⟨fc, hq_fc⟩ : ∃ q_, q_ = (firstC l) := ⟨_, rfl⟩
   have hc_fc := (firstC_calls l hl1)
   first | rw [← hq_fc] at hR hc_fc | (unfold lawLeast at hR; rw [← hq_fc] at hR hc_fc)
   have hf0_fc := firstC_len l
   rw [← hq_fc] at hf0_fc
   refine rvc_un (rexec_call hP C rfl rfl rfl hc_fc ?_)
   refine rvP C (.tup [.agg [.pv (.lit (.int .i64 fc.1.epoch)), sS (some fc.1.members.nil) eMember fc.1.members.D], .pv (.lit (.int .i64 fc.2))]) ?_
   refine rvP C (.agg [.pv (.lit (.int .i64 fc.1.epoch)), sS (some fc.1.members.nil) eMember fc.1.members.D]) ?_
   refine rvP C (.pv (.lit (.int .i64 fc.2))) ?_
   refine rvc_un (rexec_prim C (δ := { v := .ptr 10 0, new := [(10, .cells [.pv (.lit (.int .i64 0)), sS (some true) eMember []])] }) rfl rfl rfl rfl trivial rfl ?_)
   refine rvc_un (rexec_prim C (δ := { v := .undef, wr := [(10, some (.cells [.pv (.lit (.int .i64 fc.1.epoch)), sS (some fc.1.members.nil) eMember fc.1.members.D]))] }) rfl rfl rfl rfl trivial rfl ?_)
   refine rvP C (.pv (.lit (.int .i64 fc.2))) ?_
   refine rvc_nil ?_
   refine Awp.consP C ?_
   refine rvP C (.agg [.pv (.lit (.int .i64 fc.1.epoch)), sS (some fc.1.members.nil) eMember fc.1.members.D]) ?_
   refine rvP C (.agg [.pv (.lit (.int .i64 ((w 0) 0))), .pv (.lit (.int .i64 ((w 0) 1))), .pv (.lit (.int .i64 ((w 0) 2))), .pv (.lit (.int .i64 ((w 1) 0))), .pv (.lit (.int .i64 ((w 1) 1))), .pv (.lit (.int .i64 ((w 1) 2))), .pv (.lit (.int .i64 ((w 2) 0))), .pv (.lit (.int .i64 ((w 2) 1))), .pv (.lit (.int .i64 ((w 2) 2)))]) ?_
   refine rvP C (.pv (.lit (.int .i64 from_))) ?_
   obtain ⟨wr, hq_wr⟩ : ∃ q_, q_ = (writeW fc.1 w from_) := ⟨_, rfl⟩
   have hc_wr := (writeW_calls fc.1 w from_ (by show fc.1.members.D.length ≤ 1000000; have := firstC_len l; have := of_decide_eq_false h1; have := eq_of_bne_false h2; omega))
   first | rw [← hq_wr] at hR hc_wr | (unfold lawLeast at hR; rw [← hq_wr] at hR hc_wr)
   refine rvc_un (rexec_call hP C rfl rfl rfl hc_wr ?_)
   refine rvP C (.tup [.pv (.lit (.int .i64 wr.1)), .pv (.lit (.int .i64 wr.2))]) ?_
   refine rvP C (.pv (.lit (.int .i64 wr.1))) ?_
   refine rvP C (.pv (.lit (.int .i64 wr.2))) ?_
   refine rvP C (.pv (.lit (.int .i64 wr.1))) ?_
   refine rvP C (.pv (.lit (.int .i64 wr.2))) ?_
   refine rvc_nil ?_
   refine Awp.consP C ?_
   refine rvP C (.pv (.lit (.int .i64 fc.2))) ?_
   refine rvP C (.pv (.lit (.bool (fc.2 == 0)))) ?_
   refine rvP C (.pv (.lit (.bool (fc.2 == 0)))) ?_
   refine rvc_case 52 (fc.2 == 0) rfl (fun h5 => ?_) (fun h5 => ?_)
   ·
    replace hR := of_true h5 hR
    refine rvO C (.pv (.lit (.int .i64 wr.2))) ?_
    refine rvO C (.pv (.lit (.bool (wr.2 == 0)))) ?_
    refine rvP C (.pv (.lit (.bool (wr.2 == 0)))) ?_
    refine rvP C (.pv (.lit (.bool (wr.2 == 0)))) ?_
    refine rvc_case 56 (wr.2 == 0) rfl (fun h6 => ?_) (fun h6 => ?_)
    ·
     replace hR := of_true h6 hR
     refine rvO C (.pv (.lit (.int .i64 ba.2.1))) ?_
     refine rvO C (.pv (.lit (.int .i64 wr.1))) ?_
     refine rvO C (.pv (.lit (.bool (decide (ba.2.1 ≤ wr.1))))) ?_
     refine rvP C (.pv (.lit (.bool (decide (ba.2.1 ≤ wr.1))))) ?_
     refine rvP C (.pv (.lit (.bool (decide (ba.2.1 ≤ wr.1))))) ?_
     refine rvc_case 61 (decide (ba.2.1 ≤ wr.1)) rfl (fun h7 => ?_) (fun h7 => ?_)
     ·
      replace hR := of_true h7 hR
      refine rvO C (sS (some ba.1.nil) eMember ba.1.D) ?_
      refine rvO C (.pv (.lit (.int .i64 (ba.1.D.length : Int)))) ?_
      refine rvO C (sS (some l.nil) eMember l.D) ?_
      refine rvO C (.pv (.lit (.int .i64 (l.D.length : Int)))) ?_
      refine rvO C (.pv (.lit (.bool ((ba.1.D.length : Int) == (l.D.length : Int))))) ?_
      refine rvP C (.pv (.lit (.bool ((ba.1.D.length : Int) == (l.D.length : Int))))) ?_
      refine rvP C (.pv (.lit (.bool ((ba.1.D.length : Int) == (l.D.length : Int))))) ?_
      refine rvc_case 68 ((ba.1.D.length : Int) == (l.D.length : Int)) rfl (fun h8 => ?_) (fun h8 => ?_)
      ·
       replace hR := of_true h8 hR
       refine rvO C (sS (some ba.1.nil) eMember ba.1.D) ?_
       refine rvO C (.pv (.lit (.int .i64 (ba.1.D.length : Int)))) ?_
       refine rvO C (.pv (.lit (.bool (decide ((ba.1.D.length : Int) > 0))))) ?_
       refine rvP C (.pv (.lit (.bool (decide ((ba.1.D.length : Int) > 0))))) ?_
       refine rvP C (.pv (.lit (.bool (decide ((ba.1.D.length : Int) > 0))))) ?_
       refine rvc_case 73 (decide ((ba.1.D.length : Int) > 0)) rfl (fun h9 => ?_) (fun h9 => ?_)
       ·
        replace hR := of_true h9 hR
        refine rvO C (sS (some ba.1.nil) eMember ba.1.D) ?_
        refine rvO C (.agg [.pv (.lit (.int .i64 ((w 0) 0))), .pv (.lit (.int .i64 ((w 0) 1))), .pv (.lit (.int .i64 ((w 0) 2))), .pv (.lit (.int .i64 ((w 1) 0))), .pv (.lit (.int .i64 ((w 1) 1))), .pv (.lit (.int .i64 ((w 1) 2))), .pv (.lit (.int .i64 ((w 2) 0))), .pv (.lit (.int .i64 ((w 2) 1))), .pv (.lit (.int .i64 ((w 2) 2)))]) ?_
        refine rvO C (.pv (.lit (.int .i64 from_))) ?_
        refine rvc_open rfl rfl rfl (rexec_call hP C rfl rfl rfl (cost_calls ba.1 w from_ (by have h_ := (best_cost (by rw [← hq_ba]; exact eq_of_bne_false ‹(ba.2.2 != 0) = false›)); rw [← hq_ba] at h_; exact h_.1) (by have h_ := (best_cost (by rw [← hq_ba]; exact eq_of_bne_false ‹(ba.2.2 != 0) = false›)); rw [← hq_ba] at h_; exact h_.2.1) (best_cost (by rw [← hq_ba]; exact eq_of_bne_false ‹(ba.2.2 != 0) = false›)).2.2 (by show ba.1.D.length ≤ 1000000; have := firstC_len l; have := of_decide_eq_false h1; have := eq_of_bne_false h2; have := beq_iff_eq.1 h5; have := beq_iff_eq.1 h6; have := of_decide_eq_true h7; have := beq_iff_eq.1 h8; have := of_decide_eq_true h9; omega)) ?_)
        refine rvO C (.pv (.lit (.int .i64 ba.2.1))) ?_
        refine rvO C (.pv (.lit (.bool ((cost ba.1 w from_) == ba.2.1)))) ?_
        refine rvP C (.pv (.lit (.bool ((cost ba.1 w from_) == ba.2.1)))) ?_
        refine rvP C (.pv (.lit (.bool ((cost ba.1 w from_) == ba.2.1)))) ?_
        refine rvc_case 81 ((cost ba.1 w from_) == ba.2.1) rfl (fun h10 => ?_) (fun h10 => ?_)
        ·
         replace hR := of_true h10 hR
         obtain ⟨aw2, hq_aw2⟩ : ∃ q_, q_ = (awake ) := ⟨_, rfl⟩
         have hc_aw2 := (awake_calls )
         first | rw [← hq_aw2] at hR hc_aw2 | (unfold lawLeast at hR; rw [← hq_aw2] at hR hc_aw2)
         refine rvc_open rfl rfl rfl (rexec_call hP C rfl rfl rfl hc_aw2 ?_)
         refine rvP C (.pv (.lit (.bool aw2))) ?_
         refine rvP C (.pv (.lit (.bool aw2))) ?_
         refine rvc_nil ?_
         refine Awp.ret ?_
         subst hR
         exact ⟨.inl rfl, rfl⟩
        ·
         replace hR := of_false h10 hR
         refine rvS ?_
         refine rvP C (.pv (.lit (.bool false))) ?_
         refine rvP C (.pv (.lit (.bool false))) ?_
         refine rvc_nil ?_
         refine Awp.ret ?_
         subst hR
         exact ⟨.inl rfl, rfl⟩
       ·
        replace hR := of_false h9 hR
        refine rvS ?_
        refine rvS ?_
        refine rvS ?_
        refine rvS ?_
        refine rvS ?_
        refine rvS ?_
        refine rvP C (.pv (.lit (.bool false))) ?_
        refine rvP C (.pv (.lit (.bool false))) ?_
        refine rvS ?_
        refine rvP C (.pv (.lit (.bool false))) ?_
        refine rvP C (.pv (.lit (.bool false))) ?_
        refine rvc_nil ?_
        refine Awp.ret ?_
        subst hR
        exact ⟨.inl rfl, rfl⟩
      ·
       replace hR := of_false h8 hR
       refine rvS ?_
       refine rvS ?_
       refine rvS ?_
       refine rvP C (.pv (.lit (.bool false))) ?_
       refine rvP C (.pv (.lit (.bool false))) ?_
       refine rvS ?_
       refine rvS ?_
       refine rvS ?_
       refine rvS ?_
       refine rvS ?_
       refine rvS ?_
       refine rvP C (.pv (.lit (.bool false))) ?_
       refine rvP C (.pv (.lit (.bool false))) ?_
       refine rvS ?_
       refine rvP C (.pv (.lit (.bool false))) ?_
       refine rvP C (.pv (.lit (.bool false))) ?_
       refine rvc_nil ?_
       refine Awp.ret ?_
       subst hR
       exact ⟨.inl rfl, rfl⟩
     ·
      replace hR := of_false h7 hR
      refine rvS ?_
      refine rvS ?_
      refine rvS ?_
      refine rvS ?_
      refine rvS ?_
      refine rvP C (.pv (.lit (.bool false))) ?_
      refine rvP C (.pv (.lit (.bool false))) ?_
      refine rvS ?_
      refine rvS ?_
      refine rvS ?_
      refine rvP C (.pv (.lit (.bool false))) ?_
      refine rvP C (.pv (.lit (.bool false))) ?_
      refine rvS ?_
      refine rvS ?_
      refine rvS ?_
      refine rvS ?_
      refine rvS ?_
      refine rvS ?_
      refine rvP C (.pv (.lit (.bool false))) ?_
      refine rvP C (.pv (.lit (.bool false))) ?_
      refine rvS ?_
      refine rvP C (.pv (.lit (.bool false))) ?_
      refine rvP C (.pv (.lit (.bool false))) ?_
      refine rvc_nil ?_
      refine Awp.ret ?_
      subst hR
      exact ⟨.inl rfl, rfl⟩
    ·
     replace hR := of_false h6 hR
     refine rvS ?_
     refine rvS ?_
     refine rvS ?_
     refine rvP C (.pv (.lit (.bool false))) ?_
     refine rvP C (.pv (.lit (.bool false))) ?_
     refine rvS ?_
     refine rvS ?_
     refine rvS ?_
     refine rvS ?_
     refine rvS ?_
     refine rvP C (.pv (.lit (.bool false))) ?_
     refine rvP C (.pv (.lit (.bool false))) ?_
     refine rvS ?_
     refine rvS ?_
     refine rvS ?_
     refine rvP C (.pv (.lit (.bool false))) ?_
     refine rvP C (.pv (.lit (.bool false))) ?_
     refine rvS ?_
     refine rvS ?_
     refine rvS ?_
     refine rvS ?_
     refine rvS ?_
     refine rvS ?_
     refine rvP C (.pv (.lit (.bool false))) ?_
     refine rvP C (.pv (.lit (.bool false))) ?_
     refine rvS ?_
     refine rvP C (.pv (.lit (.bool false))) ?_
     refine rvP C (.pv (.lit (.bool false))) ?_
     refine rvc_nil ?_
     refine Awp.ret ?_
     subst hR
     exact ⟨.inl rfl, rfl⟩
   ·
    replace hR := of_false h5 hR
    refine rvS ?_
    refine rvS ?_
    refine rvP C (.pv (.lit (.bool false))) ?_
    refine rvP C (.pv (.lit (.bool false))) ?_
    refine rvS ?_
    refine rvS ?_
    refine rvS ?_
    refine rvP C (.pv (.lit (.bool false))) ?_
    refine rvP C (.pv (.lit (.bool false))) ?_
    refine rvS ?_
    refine rvS ?_
    refine rvS ?_
    refine rvS ?_
    refine rvS ?_
    refine rvP C (.pv (.lit (.bool false))) ?_
    refine rvP C (.pv (.lit (.bool false))) ?_
    refine rvS ?_
    refine rvS ?_
    refine rvS ?_
    refine rvP C (.pv (.lit (.bool false))) ?_
    refine rvP C (.pv (.lit (.bool false))) ?_
    refine rvS ?_
    refine rvS ?_
    refine rvS ?_
    refine rvS ?_
    refine rvS ?_
    refine rvS ?_
    refine rvP C (.pv (.lit (.bool false))) ?_
    refine rvP C (.pv (.lit (.bool false))) ?_
    refine rvS ?_
    refine rvP C (.pv (.lit (.bool false))) ?_
    refine rvP C (.pv (.lit (.bool false))) ?_
    refine rvc_nil ?_
    refine Awp.ret ?_
    subst hR
    exact ⟨.inl rfl, rfl⟩
end Go.Proofs.Ytihccnkegkkikaa
/- The laws RouteBest and RouteLeast in plain Lean: their models answer true. No conditions. -/
namespace Go.Proofs.Ytihccnkegkkikaa
open Go.Am
/-- The first chain has its members site by site. -/
theorem first_ok {l : Sl Member} (h : (firstC l).2 = 0) : (firstC l).1.members.D = bySite l.D 0 ++ bySite l.D 1 ++ bySite l.D 2 ∧ (firstC l).1.members.D.length = l.D.length := by
  rw [firstC_eq] at h ⊢
  revert h
  generalize bySite l.D 0 ++ bySite l.D 1 ++ bySite l.D 2 = vc
  unfold finF
  cases h1 : (vc.length : Int) != (l.D.length : Int)
  · cases h2 : check (Chain.mk 1 (Sl.mk vc.isEmpty vc)) != 0
    · intro _
      have := eq_of_bne_false h1
      exact ⟨rfl, by show vc.length = _; omega⟩
    · intro h; cases h
  · intro h; cases h
theorem bySite_filter (D : List Member) (i j : Nat) : (bySite D i).filter (fun y => y.site == (j : Int)) = if i = j then bySite D i else [] := by
  unfold bySite
  rw [List.filter_map, List.filter_filter]
  by_cases h : i = j
  · subst h
    rw [if_pos rfl]
    congr 1
    refine List.filter_congr fun x _ => ?_
    show (x.site == (i : Int) && (x.site == (i : Int))) = _
    cases x.site == (i : Int) <;> rfl
  · rw [if_neg h, List.map_eq_nil_iff, List.filter_eq_nil_iff]
    intro x _ hx
    have hx : (x.site == (j : Int) && (x.site == (i : Int))) = true := hx
    rw [Bool.and_eq_true] at hx
    have h1 : x.site = (j : Int) := by simpa using hx.1
    have h2 : x.site = (i : Int) := by simpa using hx.2
    omega
theorem first_order {l : Sl Member} (h : (firstC l).2 = 0) : inList (firstC l).1.members.D [0, 1, 2] = (firstC l).1.members.D := by
  rw [(first_ok h).1]
  unfold inList
  have e := fun (i j : Nat) => bySite_filter l.D i j
  have f0 : ∀ i : Nat, (bySite l.D i).filter (fun y => y.site == 0) = if i = 0 then bySite l.D i else [] := fun i => e i 0
  have f1 : ∀ i : Nat, (bySite l.D i).filter (fun y => y.site == 1) = if i = 1 then bySite l.D i else [] := fun i => e i 1
  have f2 : ∀ i : Nat, (bySite l.D i).filter (fun y => y.site == 2) = if i = 2 then bySite l.D i else [] := fun i => e i 2
  simp only [List.flatMap_cons, List.flatMap_nil, List.filter_append, f0, f1, f2]
  simp
theorem lawLeast_true (l : Sl Member) (w : Nat → Nat → Int) (f : Int) : lawLeast l w f = true := by
  unfold lawLeast
  rw [awake_true]
  cases decide ((l.D.length : Int) > 60)
  case true => rfl
  rw [cond_false]
  by_cases h : (best l w f).2.2 = 0
  · obtain ⟨h1, ha, m, hm, e1, e2, hle⟩ := best_ok h
    obtain ⟨hc, hw, hf⟩ := able_ok ha
    have hW := (wayCheck_iff w).1.1 hw
    have hs := sites_ok hc
    have hl := check_len hc
    have h6 := check_le6 hc
    obtain ⟨g1, g2⟩ := cands_fine hl h6 hs m hm
    have hlen := (first_ok h1).2
    have hD := hle _ (show inList (firstC l).1.members.D [0, 1, 2] ∈ cands (firstC l).1.members.D by unfold cands; exact List.mem_cons_self ..)
    rw [first_order h1, cost_eq (s := ⟨(firstC l).1.members.D.isEmpty, (firstC l).1.members.D⟩) hW hf hs h6 hl] at hD
    have hu : writeW (firstC l).1 w f = (cost (firstC l).1.members w f, 0) := by
      rw [write_eq]; unfold rWrite
      rw [← able_eq, ha]; rfl
    rw [cost_eq (s := (firstC l).1.members) hW hf hs h6 hl] at hu
    rw [h, show ((0 : Int) != 0) = false from rfl, cond_false, h1, hu]
    have hD : (best l w f).2.1 ≤ (2 : Int) * w f.toNat ((firstC l).1.members.D[0]!).site.toNat + (2 : Int) * pathS w (firstC l).1.members.D := hD
    have hm1 : (best l w f).1.D = m := by rw [e1]
    show (bif (0 : Int) == 0 then bif (0 : Int) == 0 then bif decide ((best l w f).2.1 ≤ (2 : Int) * w f.toNat ((firstC l).1.members.D[0]!).site.toNat + (2 : Int) * pathS w (firstC l).1.members.D) then bif ((best l w f).1.D.length : Int) == (l.D.length : Int) then bif decide (((best l w f).1.D.length : Int) > 0) then bif cost (best l w f).1 w f == (best l w f).2.1 then true else false else false else false else false else false else false) = true
    have hpos := g1.1
    rw [decide_eq_true hD, hm1, decide_eq_true (show ((m.length : Nat) : Int) > 0 by omega), e1, ← e2, show ((m.length : Int) == (l.D.length : Int)) = true by simp; omega]
    simp
  · rw [best_bad h]
    show (bif (best l w f).2.2 != 0 then _ else _) = true
    rw [show ((best l w f).2.2 != 0) = true by simpa using h, cond_true]
    rfl
end Go.Proofs.Ytihccnkegkkikaa
/- Laws of chapter 13 at chains that are too long. No conditions. -/
namespace Go.Proofs.Ytihccnkegkkikaa
open Go.Am
def biglawLeast (_l : (Sl Member)) (_w : (Nat → (Nat → Int))) (_from_ : Int) : Bool :=
  (awake )
theorem biglawLeast_calls (l : (Sl Member)) (w : (Nat → (Nat → Int))) (from_ : Int) (hbig : (decide ((l.D.length : Int) > 60)) = true) : PCalls Try.prog 9 [sS (some l.nil) eMember l.D, .agg [.pv (.lit (.int .i64 ((w 0) 0))), .pv (.lit (.int .i64 ((w 0) 1))), .pv (.lit (.int .i64 ((w 0) 2))), .pv (.lit (.int .i64 ((w 1) 0))), .pv (.lit (.int .i64 ((w 1) 1))), .pv (.lit (.int .i64 ((w 1) 2))), .pv (.lit (.int .i64 ((w 2) 0))), .pv (.lit (.int .i64 ((w 2) 1))), .pv (.lit (.int .i64 ((w 2) 2)))], .pv (.lit (.int .i64 from_))] (.pv (.lit (.bool (biglawLeast l w from_)))) := by
 generalize hR : biglawLeast l w from_ = R
 refine PCalls.of_body tabOk Try.func9 rfl rfl rfl rfl rfl mixed fun E hP C hI => ?_
 refine Awp.consP C ?_
 refine rvc_un (rexec_prim C (δ := { v := .ptr 4 0, new := [(4, .cells [.pv (.lit (.int .i64 ((w 0) 0))), .pv (.lit (.int .i64 ((w 0) 1))), .pv (.lit (.int .i64 ((w 0) 2))), .pv (.lit (.int .i64 ((w 1) 0))), .pv (.lit (.int .i64 ((w 1) 1))), .pv (.lit (.int .i64 ((w 1) 2))), .pv (.lit (.int .i64 ((w 2) 0))), .pv (.lit (.int .i64 ((w 2) 1))), .pv (.lit (.int .i64 ((w 2) 2)))])] }) rfl rfl rfl rfl trivial rfl ?_)
 refine rvP C (.pv (.lit (.bool false))) ?_
 refine rvc_nil ?_
 refine Awp.seq ?_
 refine Awp.consP C ?_
 refine rvP C (sS (some l.nil) eMember l.D) ?_
 refine rvP C (.pv (.lit (.int .i64 (l.D.length : Int)))) ?_
 refine rvP C (.pv (.lit (.bool (decide ((l.D.length : Int) > 60))))) ?_
 refine rvc_nil ?_
 refine Awp.condT (b := (decide ((l.D.length : Int) > 60))) rfl hbig ?_
 refine Awp.consP C ?_
 obtain ⟨aw, hq_aw⟩ : ∃ q_, q_ = (awake ) := ⟨_, rfl⟩
 have hc_aw := (awake_calls )
 first | rw [← hq_aw] at hR hc_aw | (unfold biglawLeast at hR; rw [← hq_aw] at hR hc_aw)
 refine rvc_un (rexec_call hP C rfl rfl rfl hc_aw ?_)
 refine rvP C (.pv (.lit (.bool aw))) ?_
 refine rvc_nil ?_
 refine Awp.ret ?_
 subst hR
 exact ⟨.inl rfl, rfl⟩
end Go.Proofs.Ytihccnkegkkikaa
/- Inputs of chapter 13, as plain values. No conditions. -/
namespace Go.Proofs.Ytihccnkegkkikaa
open Go.Am
set_option maxRecDepth 100000 in
theorem flat3 {m : Nat} {ps : List PV} (h : Flat Try.prog (m + 1) 3 ps) : ∃ n, ps = [.lit (.int .i64 n)] ∧ (Lit.int .i64 n).wf = true := by
  unfold Flat at h
  rw [Try.underlying3] at h
  exact h
set_option maxRecDepth 100000 in
theorem flat4 {m : Nat} {ps : List PV} (h : Flat Try.prog (m + 1) 4 ps) : ∃ b, ps = [.lit (.bool b)] ∧ True := by
  unfold Flat at h
  rw [Try.underlying4] at h
  obtain ⟨b, h⟩ := h
  exact ⟨b, h, trivial⟩
def WT35 (x : Member) : Prop := (Lit.int .i64 x.node).wf = true ∧ (Lit.int .i64 x.site).wf = true ∧ True
set_option maxRecDepth 100000 in
theorem flat35 {m : Nat} {ps : List PV} (h : Flat Try.prog (m + 2) 35 ps) : ∃ x : Member, ps = eMember.enc x ∧ WT35 x := by
  unfold Flat at h
  rw [Try.underlying35] at h
  obtain ⟨a0, b0, e0, h0, a1, b1, e1, h1, a2, b2, e2, h2, el⟩ := h
  obtain ⟨x0, rfl, w0⟩ := flat3 (m := m + 0) h0
  obtain ⟨x1, rfl, w1⟩ := flat3 (m := m + 0) h1
  obtain ⟨x2, rfl, w2⟩ := flat4 (m := m + 0) h2
  subst el
  subst e2
  subst e1
  subst e0
  exact ⟨⟨x0, x1, x2⟩, rfl, w0, w1, w2⟩
def WT22 (s : Sl Member) : Prop := s.D.length ≤ maxLen ∧ (s.nil = true → s.D = []) ∧ ∀ x ∈ s.D, WT35 x
set_option maxRecDepth 100000 in
theorem flat22 {m : Nat} {ps : List PV} (h : Flat Try.prog (m + 3) 22 ps) : ∃ s : Sl Member, ps = [.sl (some s.nil) s.D.length (encL eMember s.D)] ∧ WT22 s := by
  unfold Flat at h
  rw [Try.underlying22] at h
  obtain ⟨b, D, rfl, h1, h2, h3⟩ := h
  obtain ⟨D2, e1, e2, e3⟩ := enc_list (e := eMember) (W := fun x => WT35 x) D fun y hy => flat35 (h3 y hy)
  rw [e2, ← e1]
  exact ⟨⟨b, D2⟩, rfl, (by show D2.length ≤ _; rw [e1]; exact h1), (fun hb => by have := h2 hb; rw [this] at e1; exact List.eq_nil_of_length_eq_zero e1), e3⟩
end Go.Proofs.Ytihccnkegkkikaa
/- The contracts of the laws RouteBest and RouteLeast: each is true, whatever the input. No conditions. -/
namespace Go.Proofs.Ytihccnkegkkikaa
open Go.Am
theorem routeLeast_calls (l : Sl Member) (_ : WT22 l) (w : Nat → Nat → Int) (f : Int) (_ : (Lit.int .i64 f).wf = true) : PCalls Try.prog 9 [sS (some l.nil) eMember l.D, .agg (rows3 fun p q => .pv (.lit (.int .i64 (w p q)))), .pv (.lit (.int .i64 f))] (.pv (.bool true)) := by
  cases hb : (decide ((l.D.length : Int) > 60))
  · have := of_decide_eq_false hb
    have r := lawLeast_calls l w f (by omega)
    rw [lawLeast_true] at r
    exact r
  · have r := biglawLeast_calls l w f hb
    rw [show biglawLeast l w f = true from awake_true] at r
    exact r
end Go.Proofs.Ytihccnkegkkikaa
/- An abstract machine over the kit's calls, part 34: three rows of three numbers that are handed in. No conditions. -/
namespace Go.Am
section
variable {H : Type} {enc : TypeId × Value → H} {P : Program} {w : World} {base : Nat} {spare : Nat → Bool} {held : Bool}
theorem lits_VHs {k : IntKind} {ι : Nat → Option (Nat × Nat)} {imm : Nat → Prop} {w' : World} : ∀ (l : List Value) (A : List Int), l.length = A.length → (∀ i, i < A.length → l[i]? = some (.int k (A.getD i 0))) → VHs ι imm w' (A.map fun z => .pv (.lit (.int k z))) l := by
  intro l
  induction l with
  | nil => intro A hA _; cases A with
    | nil => rfl
    | cons a A => simp at hA
  | cons v l ih => intro A hA hA2; cases A with
    | nil => simp at hA
    | cons a A =>
      have h0 := hA2 0 (by simp)
      simp only [List.getElem?_cons_zero, List.getD_cons_zero, Option.some.injEq] at h0
      subst h0
      exact ⟨_, l, rfl, ⟨rfl, rfl⟩, ih A (by simpa using hA) fun i hi => by simpa using hA2 (i + 1) (by simpa using hi)⟩
theorem open_arr33 {r : Reach} {b0 : Nat} {t e e2 : Nat} {k : IntKind} {v : Value} {d : DataW H} {ps : List MemPlace} (ht : P.underlying t = some (.array 3 e)) (he : P.underlying e = some (.array 3 e2)) (he2 : P.underlying e2 = some (.int k)) (hc2 : P.cellsOf e2 = 1) (hc : P.cellsOf e = 3) (hct : P.cellsOf t = 9) (hval : Value.okWide P w r b0 t v) (hd : DataW.Trod enc P w base spare held t v d ps) :
    ∃ f : Nat → Nat → Int, ∀ ι imm w', VH ι imm w' (.agg (rows3 fun p q => .pv (.lit (.int k (f p q))))) v := by
  simp only [Value.okWide, ht] at hval
  obtain ⟨cs, rfl, hsz, _⟩ := hval
  obtain ⟨fuel, hf⟩ := hd
  obtain ⟨xs, m, rfl, _, hl, hlx, hx⟩ := DataW.trod_array ht hf
  simp only [Value.cells] at hl hx
  have hn : cs.toList.length = 9 := by rw [hl, hct]
  have key : ∀ i j, i < 3 → j < 3 → ∃ z, cs.toList[i * 3 + j]? = some (.int k z) := fun i j hi hj => by
    have h1 := hx i hi
    obtain ⟨y, hy⟩ : ∃ y, xs[i]? = some y := ⟨xs[i], by simp [hlx, hi]⟩
    rw [hy] at h1
    obtain ⟨ys, m2, _, _, _, hly, hx2⟩ := DataW.trod_array he h1
    have h2 := hx2 j hj
    obtain ⟨y2, hy2⟩ : ∃ y, ys[j]? = some y := ⟨ys[j], by simp [hly, hj]⟩
    rw [hy2] at h2
    obtain ⟨z, h3, _, _⟩ := DataW.trod_int he2 h2
    rw [hc2, hc, Nat.mul_one] at h3
    refine ⟨z, ?_⟩
    have h5 := congrArg (fun l => l[0]?) h3
    simp only [List.getElem?_cons_zero] at h5
    rw [List.getElem?_take_of_lt (by omega), List.getElem?_drop, List.getElem?_take_of_lt (by omega), List.getElem?_drop] at h5
    simpa using h5
  refine ⟨fun i j => match cs.toList[i * 3 + j]? with | some (.int _ z) => z | _ => 0, fun ι imm w' => ⟨cs.toList, by simp, ?_⟩⟩
  generalize hf : (fun i j : Nat => match cs.toList[i * 3 + j]? with | some (.int _ z) => z | _ => 0) = f
  have hval : ∀ i j, i < 3 → j < 3 → cs.toList[i * 3 + j]? = some (.int k (f i j)) := fun i j hi hj => by
    obtain ⟨z, hz⟩ := key i j hi hj
    have : f i j = z := by rw [← hf]; simp only [hz]
    rw [hz, this]
  exact lits_VHs cs.toList (rows3 f) (by rw [hn]; rfl) fun n hn9 => by
    have hn9 : n < 9 := hn9
    have h := hval (n / 3) (n % 3) (by omega) (by omega)
    rw [show n / 3 * 3 + n % 3 = n by omega] at h
    rw [h]
    congr 2
    rcases (by omega : n = 0 ∨ n = 1 ∨ n = 2 ∨ n = 3 ∨ n = 4 ∨ n = 5 ∨ n = 6 ∨ n = 7 ∨ n = 8) with rfl | rfl | rfl | rfl | rfl | rfl | rfl | rfl | rfl <;> rfl
end
end Go.Am
/- What all rows of this seat need: no knob is turned, the types are laid out. No conditions. -/
namespace Go.Proofs.Ytihccnkegkkikaa
open Go.Am
theorem own : ownKnob Try.prog.godebug = none := by kernel_rfl
theorem laidOut : laidOutB Try.prog = true := by kernel_rfl
end Go.Proofs.Ytihccnkegkkikaa
