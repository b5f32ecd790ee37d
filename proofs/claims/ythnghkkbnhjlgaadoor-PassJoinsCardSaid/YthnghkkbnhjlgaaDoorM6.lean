import Derived.Test.YthnghkkbnhjlgaaDoorM1
import Derived.Test.YthnghkkbnhjlgaaDoorM2
import Derived.Test.YthnghkkbnhjlgaaDoorM3
import Derived.Test.YthnghkkbnhjlgaaDoorM5
import Derived.KernelRfl
import Derived.Test.YthnghkkbnhjlgaaDoorM4
/- The reference: one version more. No conditions. -/
namespace Go.Proofs.YthnghkkbnhjlgaaDoor
open Go.Am
def rpSee_l0 (l : (Sl Seen)) (k : (Nat → Int)) (ver : Int) : List Seen → Nat → (List Seen) → Bool → (Sl Seen) × Int
  | [], _, out, put => (bif (!put) then (bif (decide ((((out ++ [(Seen.mk k (bif (decide (ver < (rpFloor l k))) then (rpFloor l k) else ver))]).length) : Int) > 6)) then ((Sl.mk true []), 7) else ((Sl.mk false (out ++ [(Seen.mk k (bif (decide (ver < (rpFloor l k))) then (rpFloor l k) else ver))])), 0)) else (bif (decide ((out.length : Int) > 6)) then ((Sl.mk true []), 7) else ((Sl.mk out.isEmpty out), 0)))
  | x :: xs, i, out, put => (bif (!put) then (bif (!(rLess x.key k)) then (bif (!(((x.key 0) == (k 0)) && (((x.key 1) == (k 1)) && (((x.key 2) == (k 2)) && (((x.key 3) == (k 3)) && (((x.key 4) == (k 4)) && (((x.key 5) == (k 5)) && (((x.key 6) == (k 6)) && (((x.key 7) == (k 7)) && true))))))))) then rpSee_l0 l k ver xs (i + 1) ((out ++ [(Seen.mk k (bif (decide (ver < (rpFloor l k))) then (rpFloor l k) else ver))]) ++ [x]) true else rpSee_l0 l k ver xs (i + 1) (out ++ [(Seen.mk k (bif (decide (ver < (rpFloor l k))) then (rpFloor l k) else ver))]) true) else (bif (!(((x.key 0) == (k 0)) && (((x.key 1) == (k 1)) && (((x.key 2) == (k 2)) && (((x.key 3) == (k 3)) && (((x.key 4) == (k 4)) && (((x.key 5) == (k 5)) && (((x.key 6) == (k 6)) && (((x.key 7) == (k 7)) && true))))))))) then rpSee_l0 l k ver xs (i + 1) (out ++ [x]) put else rpSee_l0 l k ver xs (i + 1) out put)) else (bif (!(((x.key 0) == (k 0)) && (((x.key 1) == (k 1)) && (((x.key 2) == (k 2)) && (((x.key 3) == (k 3)) && (((x.key 4) == (k 4)) && (((x.key 5) == (k 5)) && (((x.key 6) == (k 6)) && (((x.key 7) == (k 7)) && true))))))))) then rpSee_l0 l k ver xs (i + 1) (out ++ [x]) put else rpSee_l0 l k ver xs (i + 1) out put))
def rpSee (l : (Sl Seen)) (k : (Nat → Int)) (ver : Int) : (Sl Seen) × Int :=
  (bif ((rpRight l) != 0) then ((Sl.mk true []), (rpRight l)) else (bif (!(rKey k)) then ((Sl.mk true []), 100) else (bif (decide (ver < 0)) then ((Sl.mk true []), 100) else (bif (decide (ver > 1099511627776)) then ((Sl.mk true []), 100) else rpSee_l0 l k ver l.D 0 [] ((bif (decide (ver < (rpFloor l k))) then (rpFloor l k) else ver) == 0)))))
theorem rpSee_calls (l : (Sl Seen)) (k : (Nat → Int)) (ver : Int) (hl : ∀ x ∈ l.D, KeyB x.key) (hk : KeyB k) (hl1 : l.D.length ≤ 1000) : PCalls Tryd.prog 23 [sS (some l.nil) eSeen l.D, .agg [.pv (.lit (.int .u8 (k 0))), .pv (.lit (.int .u8 (k 1))), .pv (.lit (.int .u8 (k 2))), .pv (.lit (.int .u8 (k 3))), .pv (.lit (.int .u8 (k 4))), .pv (.lit (.int .u8 (k 5))), .pv (.lit (.int .u8 (k 6))), .pv (.lit (.int .u8 (k 7)))], .pv (.lit (.int .i64 ver))] (.tup [sS (some (rpSee l k ver).1.nil) eSeen ((rpSee l k ver).1.D), .pv (.lit (.int .i64 ((rpSee l k ver).2)))]) := by
 generalize hR : rpSee l k ver = R
 refine PCalls.of_body tabOk Tryd.func23 rfl rfl rfl rfl rfl mixed fun E hP C hI => ?_
 refine Awp.consP C ?_
 refine rvc_un (rexec_prim C (δ := { v := .ptr 4 0, new := [(4, .cells [.pv (.lit (.int .u8 (k 0))), .pv (.lit (.int .u8 (k 1))), .pv (.lit (.int .u8 (k 2))), .pv (.lit (.int .u8 (k 3))), .pv (.lit (.int .u8 (k 4))), .pv (.lit (.int .u8 (k 5))), .pv (.lit (.int .u8 (k 6))), .pv (.lit (.int .u8 (k 7)))])] }) rfl rfl rfl rfl trivial rfl ?_)
 refine rvP C (sS (some true) eSeen []) ?_
 refine rvP C (.pv (.lit (.int .i64 0))) ?_
 refine rvc_nil ?_
 refine Awp.seq ?_
 refine Awp.consP C ?_
 refine rvP C (sS (some l.nil) eSeen l.D) ?_
 refine rvc_un (rexec_call hP C rfl rfl rfl (rpRight_calls l hl (Nat.le_trans hl1 (by decide))) ?_)
 refine rvP C (.pv (.lit (.int .i64 (rpRight l)))) ?_
 refine rvc_nil ?_
 refine Awp.consP C ?_
 refine rvP C (.pv (.lit (.int .i64 (rpRight l)))) ?_
 refine rvP C (.pv (.lit (.bool ((rpRight l) != 0)))) ?_
 refine rvc_nil ?_
 refine Awp.cond (b := ((rpRight l) != 0)) rfl (fun h1 => ?_) (fun h1 => ?_)
 ·
  replace hR := of_true h1 hR
  refine Awp.consP C ?_
  refine rvP C (.pv (.lit (.int .i64 (rpRight l)))) ?_
  refine rvP C (sS (some true) eSeen []) ?_
  refine rvP C (.pv (.lit (.int .i64 (rpRight l)))) ?_
  refine rvc_nil ?_
  refine Awp.ret ?_
  subst hR
  exact ⟨.inl rfl, rfl⟩
 ·
  replace hR := of_false h1 hR
  refine Awp.skip ?_
  refine Awp.seq ?_
  refine Awp.consP C ?_
  refine rvP C (.agg [.pv (.lit (.int .u8 (k 0))), .pv (.lit (.int .u8 (k 1))), .pv (.lit (.int .u8 (k 2))), .pv (.lit (.int .u8 (k 3))), .pv (.lit (.int .u8 (k 4))), .pv (.lit (.int .u8 (k 5))), .pv (.lit (.int .u8 (k 6))), .pv (.lit (.int .u8 (k 7)))]) ?_
  refine rvc_un (rexec_call hP C rfl rfl rfl (rKey_calls k hk) ?_)
  refine rvP C (.pv (.lit (.bool (!(rKey k))))) ?_
  refine rvP C (.pv (.lit (.bool (!(rKey k))))) ?_
  refine rvc_case 21 (!(rKey k)) rfl (fun h2 => ?_) (fun h2 => ?_)
  ·
   replace hR := of_true h2 hR
   refine rvS ?_
   refine rvS ?_
   refine rvP C (.pv (.lit (.bool true))) ?_
   refine rvP C (.pv (.lit (.bool true))) ?_
   refine rvS ?_
   refine rvS ?_
   refine rvP C (.pv (.lit (.bool true))) ?_
   refine rvc_nil ?_
   refine Awp.condT (b := true) rfl rfl ?_
   refine Awp.consP C ?_
   refine rvP C (sS (some true) eSeen []) ?_
   refine rvP C (.pv (.lit (.int .i64 100))) ?_
   refine rvc_nil ?_
   refine Awp.ret ?_
   subst hR
   exact ⟨.inl rfl, rfl⟩
  ·
   replace hR := of_false h2 hR
   refine rvO C (.pv (.lit (.int .i64 ver))) ?_
   refine rvO C (.pv (.lit (.bool (decide (ver < 0))))) ?_
   refine rvP C (.pv (.lit (.bool (decide (ver < 0))))) ?_
   refine rvP C (.pv (.lit (.bool (decide (ver < 0))))) ?_
   refine rvc_case 25 (decide (ver < 0)) rfl (fun h3 => ?_) (fun h3 => ?_)
   ·
    replace hR := of_true h3 hR
    refine rvS ?_
    refine rvS ?_
    refine rvP C (.pv (.lit (.bool true))) ?_
    refine rvc_nil ?_
    refine Awp.condT (b := true) rfl rfl ?_
    refine Awp.consP C ?_
    refine rvP C (sS (some true) eSeen []) ?_
    refine rvP C (.pv (.lit (.int .i64 100))) ?_
    refine rvc_nil ?_
    refine Awp.ret ?_
    subst hR
    exact ⟨.inl rfl, rfl⟩
   ·
    replace hR := of_false h3 hR
    refine rvO C (.pv (.lit (.int .i64 ver))) ?_
    refine rvO C (.pv (.lit (.bool (decide (ver > 1099511627776))))) ?_
    refine rvP C (.pv (.lit (.bool (decide (ver > 1099511627776))))) ?_
    refine rvc_nil ?_
    refine Awp.cond (b := (decide (ver > 1099511627776))) rfl (fun h4 => ?_) (fun h4 => ?_)
    ·
     replace hR := of_true h4 hR
     refine Awp.consP C ?_
     refine rvP C (sS (some true) eSeen []) ?_
     refine rvP C (.pv (.lit (.int .i64 100))) ?_
     refine rvc_nil ?_
     refine Awp.ret ?_
     subst hR
     exact ⟨.inl rfl, rfl⟩
    ·
     replace hR := of_false h4 hR
     refine Awp.skip ?_
     refine Awp.consP C ?_
     refine rvP C (.pv (.lit (.int .i64 ver))) ?_
     refine rvP C (sS (some l.nil) eSeen l.D) ?_
     refine rvP C (.agg [.pv (.lit (.int .u8 (k 0))), .pv (.lit (.int .u8 (k 1))), .pv (.lit (.int .u8 (k 2))), .pv (.lit (.int .u8 (k 3))), .pv (.lit (.int .u8 (k 4))), .pv (.lit (.int .u8 (k 5))), .pv (.lit (.int .u8 (k 6))), .pv (.lit (.int .u8 (k 7)))]) ?_
     refine rvc_un (rexec_call hP C rfl rfl rfl (rpFloor_calls l k hl (Nat.le_trans hl1 (by decide))) ?_)
     refine rvc_un (rexec_max C rfl rfl rfl ?_)
     refine rvP C (.pv (.lit (.int .i64 (bif (decide (ver < (rpFloor l k))) then (rpFloor l k) else ver)))) ?_
     refine rvc_nil ?_
     refine Awp.consP C ?_
     refine rvP C (sS (some true) eSeen []) ?_
     refine rvc_nil ?_
     refine Awp.consP C ?_
     refine rvP C (.pv (.lit (.int .i64 (bif (decide (ver < (rpFloor l k))) then (rpFloor l k) else ver)))) ?_
     refine rvP C (.pv (.lit (.bool ((bif (decide (ver < (rpFloor l k))) then (rpFloor l k) else ver) == 0)))) ?_
     refine rvP C (.pv (.lit (.bool ((bif (decide (ver < (rpFloor l k))) then (rpFloor l k) else ver) == 0)))) ?_
     refine rvc_nil ?_
     refine Awp.seq ?_
     refine Awp.consP C ?_
     refine rvP C (sS (some l.nil) eSeen l.D) ?_
     refine rvP C (.pv (.lit (.int .i64 (l.D.length : Int)))) ?_
     refine rvP C (.pv (.lit (.int .i64 0))) ?_
     refine rvc_nil ?_
     refine Awp.block ?_
     refine Awp.forR (σ := ((List Seen)) × Bool) (l.D.length) (fun i v => [(2, .pv (.lit (.int .i64 (bif (decide (ver < (rpFloor l k))) then (rpFloor l k) else ver)))), (4, .ptr 4 0), (9, grow 900 eSeen v.1), (10, .pv (.lit (.bool v.2))), (36, sS (some l.nil) eSeen l.D), (37, .pv (.lit (.int .i64 (l.D.length : Int)))), (38, .pv (.lit (.int .i64 (i : Int))))]) (fun i v => (growH 900 eSeen v.1 ++ ([(4, .cells [.pv (.lit (.int .u8 (k 0))), .pv (.lit (.int .u8 (k 1))), .pv (.lit (.int .u8 (k 2))), .pv (.lit (.int .u8 (k 3))), .pv (.lit (.int .u8 (k 4))), .pv (.lit (.int .u8 (k 5))), .pv (.lit (.int .u8 (k 6))), .pv (.lit (.int .u8 (k 7)))])]))) [4, 900] (fun i v => (rpSee_l0 l k ver (l.D.drop i) i v.1 v.2 = R) ∧ (v.1.length ≤ i * 2)) ([], ((bif (decide (ver < (rpFloor l k))) then (rpFloor l k) else ver) == 0)) ?_ ?_ (fun i v h5 hR => ?_)
     · exact ⟨hR, (by first | omega | (simp <;> omega))⟩
     · exact ⟨fun b => b, WeakerR.ofL (Ks := [4, 900]) hI ⟨⟨rfl, rfl⟩, ⟨rfl, rfl⟩, ⟨rfl, rfl⟩, ⟨rfl, rfl⟩, ⟨rfl, rfl⟩, ⟨rfl, rfl⟩, ⟨rfl, rfl⟩, trivial⟩ (okH_grow (fun hne => absurd rfl hne) rfl rfl (okH_cons rfl rfl rfl rfl (okH_nil))) rfl⟩
     obtain ⟨out, put⟩ := v
     obtain ⟨hR, hi_out⟩ := hR
     replace hi_out : out.length ≤ i * 2 := hi_out
     by_cases h6 : out = []
     ·
      refine Awp.wordsR [(2, .pv (.lit (.int .i64 (bif (decide (ver < (rpFloor l k))) then (rpFloor l k) else ver)))), (4, .ptr 4 0), (9, sS (some out.isEmpty) eSeen out), (10, .pv (.lit (.bool put))), (36, sS (some l.nil) eSeen l.D), (37, .pv (.lit (.int .i64 (l.D.length : Int)))), (38, .pv (.lit (.int .i64 (i : Int))))] [(4, .cells [.pv (.lit (.int .u8 (k 0))), .pv (.lit (.int .u8 (k 1))), .pv (.lit (.int .u8 (k 2))), .pv (.lit (.int .u8 (k 3))), .pv (.lit (.int .u8 (k 4))), .pv (.lit (.int .u8 (k 5))), .pv (.lit (.int .u8 (k 6))), .pv (.lit (.int .u8 (k 7)))])] [4] (WeakerR.ofL (Ks := [4]) hI ⟨⟨rfl, rfl⟩, ⟨rfl, rfl⟩, ⟨(by exact grow_at_nil (b := 900) (e := eSeen) (l := out) rfl h6), rfl⟩, ⟨rfl, rfl⟩, ⟨rfl, rfl⟩, ⟨rfl, rfl⟩, ⟨rfl, rfl⟩, trivial⟩ (okH_cons (look_nil h6 rfl) rfl rfl rfl (okH_nil)) rfl) ?_
      refine Awp.consP C ?_
      refine rvP C (.pv (.lit (.bool (decide ((i : Int) < (l.D.length : Int)))))) ?_
      refine rvc_nil ?_
      refine Awp.seq ?_
      refine Awp.cond (b := (decide ((i : Int) < (l.D.length : Int)))) rfl (fun h7 => ?_) (fun h7 => ?_)
      ·
       have h8 : i < l.D.length := by have := of_decide_eq_true h7; omega
       obtain ⟨x, h9⟩ := getX h8
       rw [drop_at h9] at hR
       refine Awp.skip ?_
       refine Awp.seq ?_
       refine Awp.block ?_
       refine Awp.consP C ?_
       refine rvc_un (rexec_idxS C rfl rfl rfl rfl rfl rfl x (Int.natCast_nonneg _) h9 ?_)
       refine rvP C (.agg [.pv (.lit (.int .u8 (x.key 0))), .pv (.lit (.int .u8 (x.key 1))), .pv (.lit (.int .u8 (x.key 2))), .pv (.lit (.int .u8 (x.key 3))), .pv (.lit (.int .u8 (x.key 4))), .pv (.lit (.int .u8 (x.key 5))), .pv (.lit (.int .u8 (x.key 6))), .pv (.lit (.int .u8 (x.key 7))), .pv (.lit (.int .i64 x.ver))]) ?_
       refine rvc_un (rexec_prim C (δ := { v := .ptr 12 0, new := [(12, .cells [.pv (.lit (.int .u8 0)), .pv (.lit (.int .u8 0)), .pv (.lit (.int .u8 0)), .pv (.lit (.int .u8 0)), .pv (.lit (.int .u8 0)), .pv (.lit (.int .u8 0)), .pv (.lit (.int .u8 0)), .pv (.lit (.int .u8 0)), .pv (.lit (.int .i64 0))])] }) rfl rfl rfl rfl trivial rfl ?_)
       refine rvc_un (rexec_prim C (δ := { v := .undef, wr := [(12, some (.cells [.pv (.lit (.int .u8 (x.key 0))), .pv (.lit (.int .u8 (x.key 1))), .pv (.lit (.int .u8 (x.key 2))), .pv (.lit (.int .u8 (x.key 3))), .pv (.lit (.int .u8 (x.key 4))), .pv (.lit (.int .u8 (x.key 5))), .pv (.lit (.int .u8 (x.key 6))), .pv (.lit (.int .u8 (x.key 7))), .pv (.lit (.int .i64 x.ver))]))] }) rfl rfl rfl rfl trivial rfl ?_)
       refine rvc_nil ?_
       refine Awp.seq ?_
       refine Awp.consP C ?_
       refine rvP C (.pv (.lit (.bool put))) ?_
       refine rvP C (.pv (.lit (.bool (!put)))) ?_
       refine rvP C (.pv (.lit (.bool (!put)))) ?_
       refine rvc_case 44 (!put) rfl (fun h10 => ?_) (fun h10 => ?_)
       ·
        replace hR := of_true h10 hR
        refine rvO C (.ptr 12 0) ?_
        refine rvO C (.agg [.pv (.lit (.int .u8 (x.key 0))), .pv (.lit (.int .u8 (x.key 1))), .pv (.lit (.int .u8 (x.key 2))), .pv (.lit (.int .u8 (x.key 3))), .pv (.lit (.int .u8 (x.key 4))), .pv (.lit (.int .u8 (x.key 5))), .pv (.lit (.int .u8 (x.key 6))), .pv (.lit (.int .u8 (x.key 7)))]) ?_
        refine rvO C (.agg [.pv (.lit (.int .u8 (k 0))), .pv (.lit (.int .u8 (k 1))), .pv (.lit (.int .u8 (k 2))), .pv (.lit (.int .u8 (k 3))), .pv (.lit (.int .u8 (k 4))), .pv (.lit (.int .u8 (k 5))), .pv (.lit (.int .u8 (k 6))), .pv (.lit (.int .u8 (k 7)))]) ?_
        refine rvc_open rfl rfl rfl (rexec_call hP C rfl rfl rfl (rLess_calls x.key k) ?_)
        refine rvO C (.pv (.lit (.bool (!(rLess x.key k))))) ?_
        refine rvP C (.pv (.lit (.bool (!(rLess x.key k))))) ?_
        refine rvc_nil ?_
        refine Awp.cond (b := (!(rLess x.key k))) rfl (fun h11 => ?_) (fun h11 => ?_)
        ·
         replace hR := of_true h11 hR
         refine Awp.consP C ?_
         refine rvP C (sS (some out.isEmpty) eSeen out) ?_
         refine rvP C (.agg [.pv (.lit (.int .u8 (k 0))), .pv (.lit (.int .u8 (k 1))), .pv (.lit (.int .u8 (k 2))), .pv (.lit (.int .u8 (k 3))), .pv (.lit (.int .u8 (k 4))), .pv (.lit (.int .u8 (k 5))), .pv (.lit (.int .u8 (k 6))), .pv (.lit (.int .u8 (k 7)))]) ?_
         refine rvP C (.pv (.lit (.int .i64 (bif (decide (ver < (rpFloor l k))) then (rpFloor l k) else ver)))) ?_
         refine rvP C (.agg [.pv (.lit (.int .u8 (k 0))), .pv (.lit (.int .u8 (k 1))), .pv (.lit (.int .u8 (k 2))), .pv (.lit (.int .u8 (k 3))), .pv (.lit (.int .u8 (k 4))), .pv (.lit (.int .u8 (k 5))), .pv (.lit (.int .u8 (k 6))), .pv (.lit (.int .u8 (k 7))), .pv (.lit (.int .i64 (bif (decide (ver < (rpFloor l k))) then (rpFloor l k) else ver)))]) ?_
         refine rvc_un (rexec_buildSliceF C eSeen [(Seen.mk k (bif (decide (ver < (rpFloor l k))) then (rpFloor l k) else ver))] rfl rfl rfl rfl rfl rfl rfl (by decide) rfl ?_)
         refine rvc_un (rexec_appendG C rfl rfl rfl rfl rfl rfl rfl rfl (fun _ h => by cases h) rfl (en := eSeen) (l := out) (D := [(Seen.mk k (bif (decide (ver < (rpFloor l k))) then (rpFloor l k) else ver))]) rfl rfl h6 (by rw [h6]; rfl) (by simp) (by have := eq_of_bne_false h1; have := of_decide_eq_false h3; have := of_decide_eq_false h4; have := of_decide_eq_true h7; first | omega | (simp <;> omega)) (by decide) (nn := (out ++ [(Seen.mk k (bif (decide (ver < (rpFloor l k))) then (rpFloor l k) else ver))]).length) (by simp) ?_)
         refine rvP C (.sl 56 0 ((out ++ [(Seen.mk k (bif (decide (ver < (rpFloor l k))) then (rpFloor l k) else ver))]).length) 9 false) ?_
         refine rvc_nil ?_
         refine Awp.regionP C ?_
         refine rvP C (.pv (.lit (.bool true))) ?_
         refine rvc_nil ?_
         refine Awp.consP C ?_
         refine rvP C (.ptr 12 0) ?_
         refine rvP C (.agg [.pv (.lit (.int .u8 (x.key 0))), .pv (.lit (.int .u8 (x.key 1))), .pv (.lit (.int .u8 (x.key 2))), .pv (.lit (.int .u8 (x.key 3))), .pv (.lit (.int .u8 (x.key 4))), .pv (.lit (.int .u8 (x.key 5))), .pv (.lit (.int .u8 (x.key 6))), .pv (.lit (.int .u8 (x.key 7)))]) ?_
         refine rvP C (.agg [.pv (.lit (.int .u8 (k 0))), .pv (.lit (.int .u8 (k 1))), .pv (.lit (.int .u8 (k 2))), .pv (.lit (.int .u8 (k 3))), .pv (.lit (.int .u8 (k 4))), .pv (.lit (.int .u8 (k 5))), .pv (.lit (.int .u8 (k 6))), .pv (.lit (.int .u8 (k 7)))]) ?_
         refine rvP C (.pv (.lit (.bool (!(((x.key 0) == (k 0)) && (((x.key 1) == (k 1)) && (((x.key 2) == (k 2)) && (((x.key 3) == (k 3)) && (((x.key 4) == (k 4)) && (((x.key 5) == (k 5)) && (((x.key 6) == (k 6)) && (((x.key 7) == (k 7)) && true)))))))))))) ?_
         refine rvc_nil ?_
         refine Awp.cond (b := (!(((x.key 0) == (k 0)) && (((x.key 1) == (k 1)) && (((x.key 2) == (k 2)) && (((x.key 3) == (k 3)) && (((x.key 4) == (k 4)) && (((x.key 5) == (k 5)) && (((x.key 6) == (k 6)) && (((x.key 7) == (k 7)) && true)))))))))) rfl (fun h12 => ?_) (fun h12 => ?_)
         ·
          replace hR := of_true h12 hR
          refine Awp.regionP C ?_
          refine rvP C (.sl 56 0 ((out ++ [(Seen.mk k (bif (decide (ver < (rpFloor l k))) then (rpFloor l k) else ver))]).length) 9 false) ?_
          refine rvP C (.agg [.pv (.lit (.int .u8 (x.key 0))), .pv (.lit (.int .u8 (x.key 1))), .pv (.lit (.int .u8 (x.key 2))), .pv (.lit (.int .u8 (x.key 3))), .pv (.lit (.int .u8 (x.key 4))), .pv (.lit (.int .u8 (x.key 5))), .pv (.lit (.int .u8 (x.key 6))), .pv (.lit (.int .u8 (x.key 7))), .pv (.lit (.int .i64 x.ver))]) ?_
          refine rvc_un (rexec_buildSliceF C eSeen [x] rfl rfl rfl rfl rfl rfl rfl (by decide) rfl ?_)
          refine rvc_un (rexec_append C rfl rfl rfl rfl rfl rfl rfl rfl (fun _ h => by cases h) rfl (en := eSeen) (D0 := (out ++ [(Seen.mk k (bif (decide (ver < (rpFloor l k))) then (rpFloor l k) else ver))])) (D := [x]) rfl rfl rfl rfl (by have := eq_of_bne_false h1; have := of_decide_eq_false h3; have := of_decide_eq_false h4; have := of_decide_eq_true h7; first | omega | (simp <;> omega)) (by decide) (nn := ((out ++ [(Seen.mk k (bif (decide (ver < (rpFloor l k))) then (rpFloor l k) else ver))]) ++ [x]).length) (by simp) ?_)
          refine rvP C (.sl 64 0 (((out ++ [(Seen.mk k (bif (decide (ver < (rpFloor l k))) then (rpFloor l k) else ver))]) ++ [x]).length) 9 false) ?_
          refine rvc_nil ?_
          refine Awp.regionP C ?_
          refine rvP C (.pv (.lit (.int .i64 (IntKind.i64.wrap ((i : Int) + 1))))) ?_
          refine rvP C (.pv (.lit (.int .i64 (IntKind.i64.wrap ((i : Int) + 1))))) ?_
          refine rvc_nil ?_
          refine ⟨h8, (((out ++ [(Seen.mk k (bif (decide (ver < (rpFloor l k))) then (rpFloor l k) else ver))]) ++ [x]), true), ?_, ?_⟩
          · exact ⟨hR, (by first | omega | (simp <;> omega))⟩
          · exact ⟨fun b => bif b == 900 then 64 else (fun b => b) b, WeakerR.ofL (Ks := [4, 900]) hI ⟨⟨rfl, rfl⟩, ⟨rfl, rfl⟩, ⟨grow_to rfl rfl app_ne rfl rfl, grow_within rfl⟩, ⟨rfl, rfl⟩, ⟨rfl, rfl⟩, ⟨rfl, rfl⟩, ⟨lit_cast (wrap_i64 (by omega) (by omega)), rfl⟩, trivial⟩ (okH_grow (fun _ => rfl) rfl rfl (okH_cons rfl rfl rfl rfl (okH_nil))) rfl⟩
         ·
          replace hR := of_false h12 hR
          refine Awp.skip ?_
          refine Awp.regionP C ?_
          refine rvP C (.pv (.lit (.int .i64 (IntKind.i64.wrap ((i : Int) + 1))))) ?_
          refine rvP C (.pv (.lit (.int .i64 (IntKind.i64.wrap ((i : Int) + 1))))) ?_
          refine rvc_nil ?_
          refine ⟨h8, ((out ++ [(Seen.mk k (bif (decide (ver < (rpFloor l k))) then (rpFloor l k) else ver))]), true), ?_, ?_⟩
          · exact ⟨hR, (by first | omega | (simp <;> omega))⟩
          · exact ⟨fun b => bif b == 900 then 56 else (fun b => b) b, WeakerR.ofL (Ks := [4, 900]) hI ⟨⟨rfl, rfl⟩, ⟨rfl, rfl⟩, ⟨grow_to rfl rfl app_ne rfl rfl, grow_within rfl⟩, ⟨rfl, rfl⟩, ⟨rfl, rfl⟩, ⟨rfl, rfl⟩, ⟨lit_cast (wrap_i64 (by omega) (by omega)), rfl⟩, trivial⟩ (okH_grow (fun _ => rfl) rfl rfl (okH_cons rfl rfl rfl rfl (okH_nil))) rfl⟩
        ·
         replace hR := of_false h11 hR
         refine Awp.skip ?_
         refine Awp.consP C ?_
         refine rvP C (.ptr 12 0) ?_
         refine rvP C (.agg [.pv (.lit (.int .u8 (x.key 0))), .pv (.lit (.int .u8 (x.key 1))), .pv (.lit (.int .u8 (x.key 2))), .pv (.lit (.int .u8 (x.key 3))), .pv (.lit (.int .u8 (x.key 4))), .pv (.lit (.int .u8 (x.key 5))), .pv (.lit (.int .u8 (x.key 6))), .pv (.lit (.int .u8 (x.key 7)))]) ?_
         refine rvP C (.agg [.pv (.lit (.int .u8 (k 0))), .pv (.lit (.int .u8 (k 1))), .pv (.lit (.int .u8 (k 2))), .pv (.lit (.int .u8 (k 3))), .pv (.lit (.int .u8 (k 4))), .pv (.lit (.int .u8 (k 5))), .pv (.lit (.int .u8 (k 6))), .pv (.lit (.int .u8 (k 7)))]) ?_
         refine rvP C (.pv (.lit (.bool (!(((x.key 0) == (k 0)) && (((x.key 1) == (k 1)) && (((x.key 2) == (k 2)) && (((x.key 3) == (k 3)) && (((x.key 4) == (k 4)) && (((x.key 5) == (k 5)) && (((x.key 6) == (k 6)) && (((x.key 7) == (k 7)) && true)))))))))))) ?_
         refine rvc_nil ?_
         refine Awp.cond (b := (!(((x.key 0) == (k 0)) && (((x.key 1) == (k 1)) && (((x.key 2) == (k 2)) && (((x.key 3) == (k 3)) && (((x.key 4) == (k 4)) && (((x.key 5) == (k 5)) && (((x.key 6) == (k 6)) && (((x.key 7) == (k 7)) && true)))))))))) rfl (fun h13 => ?_) (fun h13 => ?_)
         ·
          replace hR := of_true h13 hR
          refine Awp.regionP C ?_
          refine rvP C (sS (some out.isEmpty) eSeen out) ?_
          refine rvP C (.agg [.pv (.lit (.int .u8 (x.key 0))), .pv (.lit (.int .u8 (x.key 1))), .pv (.lit (.int .u8 (x.key 2))), .pv (.lit (.int .u8 (x.key 3))), .pv (.lit (.int .u8 (x.key 4))), .pv (.lit (.int .u8 (x.key 5))), .pv (.lit (.int .u8 (x.key 6))), .pv (.lit (.int .u8 (x.key 7))), .pv (.lit (.int .i64 x.ver))]) ?_
          refine rvc_un (rexec_buildSliceF C eSeen [x] rfl rfl rfl rfl rfl rfl rfl (by decide) rfl ?_)
          refine rvc_un (rexec_appendG C rfl rfl rfl rfl rfl rfl rfl rfl (fun _ h => by cases h) rfl (en := eSeen) (l := out) (D := [x]) rfl rfl h6 (by rw [h6]; rfl) (by simp) (by have := eq_of_bne_false h1; have := of_decide_eq_false h3; have := of_decide_eq_false h4; have := of_decide_eq_true h7; first | omega | (simp <;> omega)) (by decide) (nn := (out ++ [x]).length) (by simp) ?_)
          refine rvP C (.sl 64 0 ((out ++ [x]).length) 9 false) ?_
          refine rvc_nil ?_
          refine Awp.regionP C ?_
          refine rvP C (.pv (.lit (.int .i64 (IntKind.i64.wrap ((i : Int) + 1))))) ?_
          refine rvP C (.pv (.lit (.int .i64 (IntKind.i64.wrap ((i : Int) + 1))))) ?_
          refine rvc_nil ?_
          refine ⟨h8, ((out ++ [x]), put), ?_, ?_⟩
          · exact ⟨hR, (by first | omega | (simp <;> omega))⟩
          · exact ⟨fun b => bif b == 900 then 64 else (fun b => b) b, WeakerR.ofL (Ks := [4, 900]) hI ⟨⟨rfl, rfl⟩, ⟨rfl, rfl⟩, ⟨grow_to rfl rfl app_ne rfl rfl, grow_within rfl⟩, ⟨rfl, rfl⟩, ⟨rfl, rfl⟩, ⟨rfl, rfl⟩, ⟨lit_cast (wrap_i64 (by omega) (by omega)), rfl⟩, trivial⟩ (okH_grow (fun _ => rfl) rfl rfl (okH_cons rfl rfl rfl rfl (okH_nil))) rfl⟩
         ·
          replace hR := of_false h13 hR
          refine Awp.skip ?_
          refine Awp.regionP C ?_
          refine rvP C (.pv (.lit (.int .i64 (IntKind.i64.wrap ((i : Int) + 1))))) ?_
          refine rvP C (.pv (.lit (.int .i64 (IntKind.i64.wrap ((i : Int) + 1))))) ?_
          refine rvc_nil ?_
          refine ⟨h8, (out, put), ?_, ?_⟩
          · exact ⟨hR, (by first | omega | (simp <;> omega))⟩
          · exact ⟨fun b => b, WeakerR.ofL (Ks := [4, 900]) hI ⟨⟨rfl, rfl⟩, ⟨rfl, rfl⟩, ⟨grow_to_nil rfl h6 (.inr rfl), grow_within rfl⟩, ⟨rfl, rfl⟩, ⟨rfl, rfl⟩, ⟨rfl, rfl⟩, ⟨lit_cast (wrap_i64 (by omega) (by omega)), rfl⟩, trivial⟩ (okH_grow (fun hne => absurd h6 hne) rfl rfl (okH_cons rfl rfl rfl rfl (okH_nil))) rfl⟩
       ·
        replace hR := of_false h10 hR
        refine rvS ?_
        refine rvS ?_
        refine rvS ?_
        refine rvS ?_
        refine rvS ?_
        refine rvP C (.pv (.lit (.bool false))) ?_
        refine rvc_nil ?_
        refine Awp.condF (b := false) rfl rfl ?_
        refine Awp.skip ?_
        refine Awp.consP C ?_
        refine rvP C (.ptr 12 0) ?_
        refine rvP C (.agg [.pv (.lit (.int .u8 (x.key 0))), .pv (.lit (.int .u8 (x.key 1))), .pv (.lit (.int .u8 (x.key 2))), .pv (.lit (.int .u8 (x.key 3))), .pv (.lit (.int .u8 (x.key 4))), .pv (.lit (.int .u8 (x.key 5))), .pv (.lit (.int .u8 (x.key 6))), .pv (.lit (.int .u8 (x.key 7)))]) ?_
        refine rvP C (.agg [.pv (.lit (.int .u8 (k 0))), .pv (.lit (.int .u8 (k 1))), .pv (.lit (.int .u8 (k 2))), .pv (.lit (.int .u8 (k 3))), .pv (.lit (.int .u8 (k 4))), .pv (.lit (.int .u8 (k 5))), .pv (.lit (.int .u8 (k 6))), .pv (.lit (.int .u8 (k 7)))]) ?_
        refine rvP C (.pv (.lit (.bool (!(((x.key 0) == (k 0)) && (((x.key 1) == (k 1)) && (((x.key 2) == (k 2)) && (((x.key 3) == (k 3)) && (((x.key 4) == (k 4)) && (((x.key 5) == (k 5)) && (((x.key 6) == (k 6)) && (((x.key 7) == (k 7)) && true)))))))))))) ?_
        refine rvc_nil ?_
        refine Awp.cond (b := (!(((x.key 0) == (k 0)) && (((x.key 1) == (k 1)) && (((x.key 2) == (k 2)) && (((x.key 3) == (k 3)) && (((x.key 4) == (k 4)) && (((x.key 5) == (k 5)) && (((x.key 6) == (k 6)) && (((x.key 7) == (k 7)) && true)))))))))) rfl (fun h14 => ?_) (fun h14 => ?_)
        ·
         replace hR := of_true h14 hR
         refine Awp.regionP C ?_
         refine rvP C (sS (some out.isEmpty) eSeen out) ?_
         refine rvP C (.agg [.pv (.lit (.int .u8 (x.key 0))), .pv (.lit (.int .u8 (x.key 1))), .pv (.lit (.int .u8 (x.key 2))), .pv (.lit (.int .u8 (x.key 3))), .pv (.lit (.int .u8 (x.key 4))), .pv (.lit (.int .u8 (x.key 5))), .pv (.lit (.int .u8 (x.key 6))), .pv (.lit (.int .u8 (x.key 7))), .pv (.lit (.int .i64 x.ver))]) ?_
         refine rvc_un (rexec_buildSliceF C eSeen [x] rfl rfl rfl rfl rfl rfl rfl (by decide) rfl ?_)
         refine rvc_un (rexec_appendG C rfl rfl rfl rfl rfl rfl rfl rfl (fun _ h => by cases h) rfl (en := eSeen) (l := out) (D := [x]) rfl rfl h6 (by rw [h6]; rfl) (by simp) (by have := eq_of_bne_false h1; have := of_decide_eq_false h3; have := of_decide_eq_false h4; have := of_decide_eq_true h7; first | omega | (simp <;> omega)) (by decide) (nn := (out ++ [x]).length) (by simp) ?_)
         refine rvP C (.sl 64 0 ((out ++ [x]).length) 9 false) ?_
         refine rvc_nil ?_
         refine Awp.regionP C ?_
         refine rvP C (.pv (.lit (.int .i64 (IntKind.i64.wrap ((i : Int) + 1))))) ?_
         refine rvP C (.pv (.lit (.int .i64 (IntKind.i64.wrap ((i : Int) + 1))))) ?_
         refine rvc_nil ?_
         refine ⟨h8, ((out ++ [x]), put), ?_, ?_⟩
         · exact ⟨hR, (by first | omega | (simp <;> omega))⟩
         · exact ⟨fun b => bif b == 900 then 64 else (fun b => b) b, WeakerR.ofL (Ks := [4, 900]) hI ⟨⟨rfl, rfl⟩, ⟨rfl, rfl⟩, ⟨grow_to rfl rfl app_ne rfl rfl, grow_within rfl⟩, ⟨rfl, rfl⟩, ⟨rfl, rfl⟩, ⟨rfl, rfl⟩, ⟨lit_cast (wrap_i64 (by omega) (by omega)), rfl⟩, trivial⟩ (okH_grow (fun _ => rfl) rfl rfl (okH_cons rfl rfl rfl rfl (okH_nil))) rfl⟩
        ·
         replace hR := of_false h14 hR
         refine Awp.skip ?_
         refine Awp.regionP C ?_
         refine rvP C (.pv (.lit (.int .i64 (IntKind.i64.wrap ((i : Int) + 1))))) ?_
         refine rvP C (.pv (.lit (.int .i64 (IntKind.i64.wrap ((i : Int) + 1))))) ?_
         refine rvc_nil ?_
         refine ⟨h8, (out, put), ?_, ?_⟩
         · exact ⟨hR, (by first | omega | (simp <;> omega))⟩
         · exact ⟨fun b => b, WeakerR.ofL (Ks := [4, 900]) hI ⟨⟨rfl, rfl⟩, ⟨rfl, rfl⟩, ⟨grow_to_nil rfl h6 (.inr rfl), grow_within rfl⟩, ⟨rfl, rfl⟩, ⟨rfl, rfl⟩, ⟨rfl, rfl⟩, ⟨lit_cast (wrap_i64 (by omega) (by omega)), rfl⟩, trivial⟩ (okH_grow (fun hne => absurd h6 hne) rfl rfl (okH_cons rfl rfl rfl rfl (okH_nil))) rfl⟩
      ·
       have h8 : ¬ i < l.D.length := by have := of_decide_eq_false h7; omega
       rw [drop_end h8] at hR
       refine Awp.exit ?_
       refine Awp.seq ?_
       refine Awp.consP C ?_
       refine rvP C (.pv (.lit (.bool put))) ?_
       refine rvP C (.pv (.lit (.bool (!put)))) ?_
       refine rvc_nil ?_
       refine Awp.cond (b := (!put)) rfl (fun h15 => ?_) (fun h15 => ?_)
       ·
        replace hR := of_true h15 hR
        refine Awp.regionP C ?_
        refine rvP C (sS (some out.isEmpty) eSeen out) ?_
        refine rvP C (.agg [.pv (.lit (.int .u8 (k 0))), .pv (.lit (.int .u8 (k 1))), .pv (.lit (.int .u8 (k 2))), .pv (.lit (.int .u8 (k 3))), .pv (.lit (.int .u8 (k 4))), .pv (.lit (.int .u8 (k 5))), .pv (.lit (.int .u8 (k 6))), .pv (.lit (.int .u8 (k 7)))]) ?_
        refine rvP C (.pv (.lit (.int .i64 (bif (decide (ver < (rpFloor l k))) then (rpFloor l k) else ver)))) ?_
        refine rvP C (.agg [.pv (.lit (.int .u8 (k 0))), .pv (.lit (.int .u8 (k 1))), .pv (.lit (.int .u8 (k 2))), .pv (.lit (.int .u8 (k 3))), .pv (.lit (.int .u8 (k 4))), .pv (.lit (.int .u8 (k 5))), .pv (.lit (.int .u8 (k 6))), .pv (.lit (.int .u8 (k 7))), .pv (.lit (.int .i64 (bif (decide (ver < (rpFloor l k))) then (rpFloor l k) else ver)))]) ?_
        refine rvc_un (rexec_buildSliceF C eSeen [(Seen.mk k (bif (decide (ver < (rpFloor l k))) then (rpFloor l k) else ver))] rfl rfl rfl rfl rfl rfl rfl (by decide) rfl ?_)
        refine rvc_un (rexec_appendG C rfl rfl rfl rfl rfl rfl rfl rfl (fun _ h => by cases h) rfl (en := eSeen) (l := out) (D := [(Seen.mk k (bif (decide (ver < (rpFloor l k))) then (rpFloor l k) else ver))]) rfl rfl h6 (by rw [h6]; rfl) (by simp) (by have := eq_of_bne_false h1; have := of_decide_eq_false h3; have := of_decide_eq_false h4; have := of_decide_eq_false h7; first | omega | (simp <;> omega)) (by decide) (nn := (out ++ [(Seen.mk k (bif (decide (ver < (rpFloor l k))) then (rpFloor l k) else ver))]).length) (by simp) ?_)
        refine rvP C (.sl 73 0 ((out ++ [(Seen.mk k (bif (decide (ver < (rpFloor l k))) then (rpFloor l k) else ver))]).length) 9 false) ?_
        refine rvc_nil ?_
        refine Awp.seq ?_
        refine Awp.consP C ?_
        refine rvP C (.sl 73 0 ((out ++ [(Seen.mk k (bif (decide (ver < (rpFloor l k))) then (rpFloor l k) else ver))]).length) 9 false) ?_
        refine rvP C (.pv (.lit (.int .i64 (((out ++ [(Seen.mk k (bif (decide (ver < (rpFloor l k))) then (rpFloor l k) else ver))]).length) : Int)))) ?_
        refine rvP C (.pv (.lit (.bool (decide ((((out ++ [(Seen.mk k (bif (decide (ver < (rpFloor l k))) then (rpFloor l k) else ver))]).length) : Int) > 6))))) ?_
        refine rvc_nil ?_
        refine Awp.cond (b := (decide ((((out ++ [(Seen.mk k (bif (decide (ver < (rpFloor l k))) then (rpFloor l k) else ver))]).length) : Int) > 6))) rfl (fun h16 => ?_) (fun h16 => ?_)
        ·
         replace hR := of_true h16 hR
         refine Awp.consP C ?_
         refine rvP C (sS (some true) eSeen []) ?_
         refine rvP C (.pv (.lit (.int .i64 7))) ?_
         refine rvc_nil ?_
         refine Awp.ret ?_
         subst hR
         exact ⟨.inl rfl, rfl⟩
        ·
         replace hR := of_false h16 hR
         refine Awp.skip ?_
         refine Awp.consP C ?_
         refine rvP C (.sl 73 0 ((out ++ [(Seen.mk k (bif (decide (ver < (rpFloor l k))) then (rpFloor l k) else ver))]).length) 9 false) ?_
         refine rvP C (.sl 73 0 ((out ++ [(Seen.mk k (bif (decide (ver < (rpFloor l k))) then (rpFloor l k) else ver))]).length) 9 false) ?_
         refine rvP C (.pv (.lit (.int .i64 0))) ?_
         refine rvc_nil ?_
         refine Awp.freezeW 73 (encL eSeen (out ++ [(Seen.mk k (bif (decide (ver < (rpFloor l k))) then (rpFloor l k) else ver))])) ?_ [(6, sS (some false) eSeen (out ++ [(Seen.mk k (bif (decide (ver < (rpFloor l k))) then (rpFloor l k) else ver))])), (7, .pv (.lit (.int .i64 0)))] [(4, .cells [.pv (.lit (.int .u8 (k 0))), .pv (.lit (.int .u8 (k 1))), .pv (.lit (.int .u8 (k 2))), .pv (.lit (.int .u8 (k 3))), .pv (.lit (.int .u8 (k 4))), .pv (.lit (.int .u8 (k 5))), .pv (.lit (.int .u8 (k 6))), .pv (.lit (.int .u8 (k 7)))])] ?_ ?_ ?_
         · rfl
         · exact ⟨⟨_, rfl, .inl (.inr ⟨_, _, _, rfl, rfl⟩)⟩, ⟨_, rfl, .inl (.inl rfl)⟩, trivial⟩
         · exact ⟨⟨(by show (4 : Nat) ≠ 73; decide), .inl rfl⟩, trivial⟩
         refine Awp.ret ?_
         subst hR
         exact ⟨.inl rfl, rfl⟩
       ·
        replace hR := of_false h15 hR
        refine Awp.skip ?_
        refine Awp.seq ?_
        refine Awp.consP C ?_
        refine rvP C (sS (some out.isEmpty) eSeen out) ?_
        refine rvP C (.pv (.lit (.int .i64 (out.length : Int)))) ?_
        refine rvP C (.pv (.lit (.bool (decide ((out.length : Int) > 6))))) ?_
        refine rvc_nil ?_
        refine Awp.cond (b := (decide ((out.length : Int) > 6))) rfl (fun h17 => ?_) (fun h17 => ?_)
        ·
         replace hR := of_true h17 hR
         refine Awp.consP C ?_
         refine rvP C (sS (some true) eSeen []) ?_
         refine rvP C (.pv (.lit (.int .i64 7))) ?_
         refine rvc_nil ?_
         refine Awp.ret ?_
         subst hR
         exact ⟨.inl rfl, rfl⟩
        ·
         replace hR := of_false h17 hR
         refine Awp.skip ?_
         refine Awp.consP C ?_
         refine rvP C (sS (some out.isEmpty) eSeen out) ?_
         refine rvP C (sS (some out.isEmpty) eSeen out) ?_
         refine rvP C (.pv (.lit (.int .i64 0))) ?_
         refine rvc_nil ?_
         refine Awp.ret ?_
         subst hR
         exact ⟨.inl rfl, rfl⟩
     ·
      refine Awp.wordsR [(2, .pv (.lit (.int .i64 (bif (decide (ver < (rpFloor l k))) then (rpFloor l k) else ver)))), (4, .ptr 4 0), (9, .sl 900 0 out.length 9 false), (10, .pv (.lit (.bool put))), (36, sS (some l.nil) eSeen l.D), (37, .pv (.lit (.int .i64 (l.D.length : Int)))), (38, .pv (.lit (.int .i64 (i : Int))))] [(900, .cells (encC eSeen out)), (4, .cells [.pv (.lit (.int .u8 (k 0))), .pv (.lit (.int .u8 (k 1))), .pv (.lit (.int .u8 (k 2))), .pv (.lit (.int .u8 (k 3))), .pv (.lit (.int .u8 (k 4))), .pv (.lit (.int .u8 (k 5))), .pv (.lit (.int .u8 (k 6))), .pv (.lit (.int .u8 (k 7)))])] [4, 900] (WeakerR.ofL (Ks := [4, 900]) hI ⟨⟨rfl, rfl⟩, ⟨rfl, rfl⟩, ⟨(by exact grow_at_cons (b := 900) (b' := 900) (e := eSeen) (l := out) rfl h6 rfl rfl rfl), rfl⟩, ⟨rfl, rfl⟩, ⟨rfl, rfl⟩, ⟨rfl, rfl⟩, ⟨rfl, rfl⟩, trivial⟩ (okH_list (look_cons h6 rfl) rfl rfl (okH_cons (look_cons h6 rfl) rfl rfl rfl (okH_nil))) rfl) ?_
      refine Awp.consP C ?_
      refine rvP C (.pv (.lit (.bool (decide ((i : Int) < (l.D.length : Int)))))) ?_
      refine rvc_nil ?_
      refine Awp.seq ?_
      refine Awp.cond (b := (decide ((i : Int) < (l.D.length : Int)))) rfl (fun h18 => ?_) (fun h18 => ?_)
      ·
       have h19 : i < l.D.length := by have := of_decide_eq_true h18; omega
       obtain ⟨x, h20⟩ := getX h19
       rw [drop_at h20] at hR
       refine Awp.skip ?_
       refine Awp.seq ?_
       refine Awp.block ?_
       refine Awp.consP C ?_
       refine rvc_un (rexec_idxS C rfl rfl rfl rfl rfl rfl x (Int.natCast_nonneg _) h20 ?_)
       refine rvP C (.agg [.pv (.lit (.int .u8 (x.key 0))), .pv (.lit (.int .u8 (x.key 1))), .pv (.lit (.int .u8 (x.key 2))), .pv (.lit (.int .u8 (x.key 3))), .pv (.lit (.int .u8 (x.key 4))), .pv (.lit (.int .u8 (x.key 5))), .pv (.lit (.int .u8 (x.key 6))), .pv (.lit (.int .u8 (x.key 7))), .pv (.lit (.int .i64 x.ver))]) ?_
       refine rvc_un (rexec_prim C (δ := { v := .ptr 12 0, new := [(12, .cells [.pv (.lit (.int .u8 0)), .pv (.lit (.int .u8 0)), .pv (.lit (.int .u8 0)), .pv (.lit (.int .u8 0)), .pv (.lit (.int .u8 0)), .pv (.lit (.int .u8 0)), .pv (.lit (.int .u8 0)), .pv (.lit (.int .u8 0)), .pv (.lit (.int .i64 0))])] }) rfl rfl rfl rfl trivial rfl ?_)
       refine rvc_un (rexec_prim C (δ := { v := .undef, wr := [(12, some (.cells [.pv (.lit (.int .u8 (x.key 0))), .pv (.lit (.int .u8 (x.key 1))), .pv (.lit (.int .u8 (x.key 2))), .pv (.lit (.int .u8 (x.key 3))), .pv (.lit (.int .u8 (x.key 4))), .pv (.lit (.int .u8 (x.key 5))), .pv (.lit (.int .u8 (x.key 6))), .pv (.lit (.int .u8 (x.key 7))), .pv (.lit (.int .i64 x.ver))]))] }) rfl rfl rfl rfl trivial rfl ?_)
       refine rvc_nil ?_
       refine Awp.seq ?_
       refine Awp.consP C ?_
       refine rvP C (.pv (.lit (.bool put))) ?_
       refine rvP C (.pv (.lit (.bool (!put)))) ?_
       refine rvP C (.pv (.lit (.bool (!put)))) ?_
       refine rvc_case 44 (!put) rfl (fun h21 => ?_) (fun h21 => ?_)
       ·
        replace hR := of_true h21 hR
        refine rvO C (.ptr 12 0) ?_
        refine rvO C (.agg [.pv (.lit (.int .u8 (x.key 0))), .pv (.lit (.int .u8 (x.key 1))), .pv (.lit (.int .u8 (x.key 2))), .pv (.lit (.int .u8 (x.key 3))), .pv (.lit (.int .u8 (x.key 4))), .pv (.lit (.int .u8 (x.key 5))), .pv (.lit (.int .u8 (x.key 6))), .pv (.lit (.int .u8 (x.key 7)))]) ?_
        refine rvO C (.agg [.pv (.lit (.int .u8 (k 0))), .pv (.lit (.int .u8 (k 1))), .pv (.lit (.int .u8 (k 2))), .pv (.lit (.int .u8 (k 3))), .pv (.lit (.int .u8 (k 4))), .pv (.lit (.int .u8 (k 5))), .pv (.lit (.int .u8 (k 6))), .pv (.lit (.int .u8 (k 7)))]) ?_
        refine rvc_open rfl rfl rfl (rexec_call hP C rfl rfl rfl (rLess_calls x.key k) ?_)
        refine rvO C (.pv (.lit (.bool (!(rLess x.key k))))) ?_
        refine rvP C (.pv (.lit (.bool (!(rLess x.key k))))) ?_
        refine rvc_nil ?_
        refine Awp.cond (b := (!(rLess x.key k))) rfl (fun h22 => ?_) (fun h22 => ?_)
        ·
         replace hR := of_true h22 hR
         refine Awp.consP C ?_
         refine rvP C (.sl 900 0 out.length 9 false) ?_
         refine rvP C (.agg [.pv (.lit (.int .u8 (k 0))), .pv (.lit (.int .u8 (k 1))), .pv (.lit (.int .u8 (k 2))), .pv (.lit (.int .u8 (k 3))), .pv (.lit (.int .u8 (k 4))), .pv (.lit (.int .u8 (k 5))), .pv (.lit (.int .u8 (k 6))), .pv (.lit (.int .u8 (k 7)))]) ?_
         refine rvP C (.pv (.lit (.int .i64 (bif (decide (ver < (rpFloor l k))) then (rpFloor l k) else ver)))) ?_
         refine rvP C (.agg [.pv (.lit (.int .u8 (k 0))), .pv (.lit (.int .u8 (k 1))), .pv (.lit (.int .u8 (k 2))), .pv (.lit (.int .u8 (k 3))), .pv (.lit (.int .u8 (k 4))), .pv (.lit (.int .u8 (k 5))), .pv (.lit (.int .u8 (k 6))), .pv (.lit (.int .u8 (k 7))), .pv (.lit (.int .i64 (bif (decide (ver < (rpFloor l k))) then (rpFloor l k) else ver)))]) ?_
         refine rvc_un (rexec_buildSliceF C eSeen [(Seen.mk k (bif (decide (ver < (rpFloor l k))) then (rpFloor l k) else ver))] rfl rfl rfl rfl rfl rfl rfl (by decide) rfl ?_)
         refine rvc_un (rexec_append C rfl rfl rfl rfl rfl rfl rfl rfl (fun _ h => by cases h) rfl (en := eSeen) (D0 := out) (D := [(Seen.mk k (bif (decide (ver < (rpFloor l k))) then (rpFloor l k) else ver))]) rfl rfl rfl rfl (by have := eq_of_bne_false h1; have := of_decide_eq_false h3; have := of_decide_eq_false h4; have := of_decide_eq_true h18; first | omega | (simp <;> omega)) (by decide) (nn := (out ++ [(Seen.mk k (bif (decide (ver < (rpFloor l k))) then (rpFloor l k) else ver))]).length) (by simp) ?_)
         refine rvP C (.sl 56 0 ((out ++ [(Seen.mk k (bif (decide (ver < (rpFloor l k))) then (rpFloor l k) else ver))]).length) 9 false) ?_
         refine rvc_nil ?_
         refine Awp.regionP C ?_
         refine rvP C (.pv (.lit (.bool true))) ?_
         refine rvc_nil ?_
         refine Awp.consP C ?_
         refine rvP C (.ptr 12 0) ?_
         refine rvP C (.agg [.pv (.lit (.int .u8 (x.key 0))), .pv (.lit (.int .u8 (x.key 1))), .pv (.lit (.int .u8 (x.key 2))), .pv (.lit (.int .u8 (x.key 3))), .pv (.lit (.int .u8 (x.key 4))), .pv (.lit (.int .u8 (x.key 5))), .pv (.lit (.int .u8 (x.key 6))), .pv (.lit (.int .u8 (x.key 7)))]) ?_
         refine rvP C (.agg [.pv (.lit (.int .u8 (k 0))), .pv (.lit (.int .u8 (k 1))), .pv (.lit (.int .u8 (k 2))), .pv (.lit (.int .u8 (k 3))), .pv (.lit (.int .u8 (k 4))), .pv (.lit (.int .u8 (k 5))), .pv (.lit (.int .u8 (k 6))), .pv (.lit (.int .u8 (k 7)))]) ?_
         refine rvP C (.pv (.lit (.bool (!(((x.key 0) == (k 0)) && (((x.key 1) == (k 1)) && (((x.key 2) == (k 2)) && (((x.key 3) == (k 3)) && (((x.key 4) == (k 4)) && (((x.key 5) == (k 5)) && (((x.key 6) == (k 6)) && (((x.key 7) == (k 7)) && true)))))))))))) ?_
         refine rvc_nil ?_
         refine Awp.cond (b := (!(((x.key 0) == (k 0)) && (((x.key 1) == (k 1)) && (((x.key 2) == (k 2)) && (((x.key 3) == (k 3)) && (((x.key 4) == (k 4)) && (((x.key 5) == (k 5)) && (((x.key 6) == (k 6)) && (((x.key 7) == (k 7)) && true)))))))))) rfl (fun h23 => ?_) (fun h23 => ?_)
         ·
          replace hR := of_true h23 hR
          refine Awp.regionP C ?_
          refine rvP C (.sl 56 0 ((out ++ [(Seen.mk k (bif (decide (ver < (rpFloor l k))) then (rpFloor l k) else ver))]).length) 9 false) ?_
          refine rvP C (.agg [.pv (.lit (.int .u8 (x.key 0))), .pv (.lit (.int .u8 (x.key 1))), .pv (.lit (.int .u8 (x.key 2))), .pv (.lit (.int .u8 (x.key 3))), .pv (.lit (.int .u8 (x.key 4))), .pv (.lit (.int .u8 (x.key 5))), .pv (.lit (.int .u8 (x.key 6))), .pv (.lit (.int .u8 (x.key 7))), .pv (.lit (.int .i64 x.ver))]) ?_
          refine rvc_un (rexec_buildSliceF C eSeen [x] rfl rfl rfl rfl rfl rfl rfl (by decide) rfl ?_)
          refine rvc_un (rexec_append C rfl rfl rfl rfl rfl rfl rfl rfl (fun _ h => by cases h) rfl (en := eSeen) (D0 := (out ++ [(Seen.mk k (bif (decide (ver < (rpFloor l k))) then (rpFloor l k) else ver))])) (D := [x]) rfl rfl rfl rfl (by have := eq_of_bne_false h1; have := of_decide_eq_false h3; have := of_decide_eq_false h4; have := of_decide_eq_true h18; first | omega | (simp <;> omega)) (by decide) (nn := ((out ++ [(Seen.mk k (bif (decide (ver < (rpFloor l k))) then (rpFloor l k) else ver))]) ++ [x]).length) (by simp) ?_)
          refine rvP C (.sl 64 0 (((out ++ [(Seen.mk k (bif (decide (ver < (rpFloor l k))) then (rpFloor l k) else ver))]) ++ [x]).length) 9 false) ?_
          refine rvc_nil ?_
          refine Awp.regionP C ?_
          refine rvP C (.pv (.lit (.int .i64 (IntKind.i64.wrap ((i : Int) + 1))))) ?_
          refine rvP C (.pv (.lit (.int .i64 (IntKind.i64.wrap ((i : Int) + 1))))) ?_
          refine rvc_nil ?_
          refine ⟨h19, (((out ++ [(Seen.mk k (bif (decide (ver < (rpFloor l k))) then (rpFloor l k) else ver))]) ++ [x]), true), ?_, ?_⟩
          · exact ⟨hR, (by first | omega | (simp <;> omega))⟩
          · exact ⟨fun b => bif b == 900 then 64 else (fun b => b) b, WeakerR.ofL (Ks := [4, 900]) hI ⟨⟨rfl, rfl⟩, ⟨rfl, rfl⟩, ⟨grow_to rfl rfl app_ne rfl rfl, grow_within rfl⟩, ⟨rfl, rfl⟩, ⟨rfl, rfl⟩, ⟨rfl, rfl⟩, ⟨lit_cast (wrap_i64 (by omega) (by omega)), rfl⟩, trivial⟩ (okH_grow (fun _ => rfl) rfl rfl (okH_cons rfl rfl rfl rfl (okH_nil))) rfl⟩
         ·
          replace hR := of_false h23 hR
          refine Awp.skip ?_
          refine Awp.regionP C ?_
          refine rvP C (.pv (.lit (.int .i64 (IntKind.i64.wrap ((i : Int) + 1))))) ?_
          refine rvP C (.pv (.lit (.int .i64 (IntKind.i64.wrap ((i : Int) + 1))))) ?_
          refine rvc_nil ?_
          refine ⟨h19, ((out ++ [(Seen.mk k (bif (decide (ver < (rpFloor l k))) then (rpFloor l k) else ver))]), true), ?_, ?_⟩
          · exact ⟨hR, (by first | omega | (simp <;> omega))⟩
          · exact ⟨fun b => bif b == 900 then 56 else (fun b => b) b, WeakerR.ofL (Ks := [4, 900]) hI ⟨⟨rfl, rfl⟩, ⟨rfl, rfl⟩, ⟨grow_to rfl rfl app_ne rfl rfl, grow_within rfl⟩, ⟨rfl, rfl⟩, ⟨rfl, rfl⟩, ⟨rfl, rfl⟩, ⟨lit_cast (wrap_i64 (by omega) (by omega)), rfl⟩, trivial⟩ (okH_grow (fun _ => rfl) rfl rfl (okH_cons rfl rfl rfl rfl (okH_nil))) rfl⟩
        ·
         replace hR := of_false h22 hR
         refine Awp.skip ?_
         refine Awp.consP C ?_
         refine rvP C (.ptr 12 0) ?_
         refine rvP C (.agg [.pv (.lit (.int .u8 (x.key 0))), .pv (.lit (.int .u8 (x.key 1))), .pv (.lit (.int .u8 (x.key 2))), .pv (.lit (.int .u8 (x.key 3))), .pv (.lit (.int .u8 (x.key 4))), .pv (.lit (.int .u8 (x.key 5))), .pv (.lit (.int .u8 (x.key 6))), .pv (.lit (.int .u8 (x.key 7)))]) ?_
         refine rvP C (.agg [.pv (.lit (.int .u8 (k 0))), .pv (.lit (.int .u8 (k 1))), .pv (.lit (.int .u8 (k 2))), .pv (.lit (.int .u8 (k 3))), .pv (.lit (.int .u8 (k 4))), .pv (.lit (.int .u8 (k 5))), .pv (.lit (.int .u8 (k 6))), .pv (.lit (.int .u8 (k 7)))]) ?_
         refine rvP C (.pv (.lit (.bool (!(((x.key 0) == (k 0)) && (((x.key 1) == (k 1)) && (((x.key 2) == (k 2)) && (((x.key 3) == (k 3)) && (((x.key 4) == (k 4)) && (((x.key 5) == (k 5)) && (((x.key 6) == (k 6)) && (((x.key 7) == (k 7)) && true)))))))))))) ?_
         refine rvc_nil ?_
         refine Awp.cond (b := (!(((x.key 0) == (k 0)) && (((x.key 1) == (k 1)) && (((x.key 2) == (k 2)) && (((x.key 3) == (k 3)) && (((x.key 4) == (k 4)) && (((x.key 5) == (k 5)) && (((x.key 6) == (k 6)) && (((x.key 7) == (k 7)) && true)))))))))) rfl (fun h24 => ?_) (fun h24 => ?_)
         ·
          replace hR := of_true h24 hR
          refine Awp.regionP C ?_
          refine rvP C (.sl 900 0 out.length 9 false) ?_
          refine rvP C (.agg [.pv (.lit (.int .u8 (x.key 0))), .pv (.lit (.int .u8 (x.key 1))), .pv (.lit (.int .u8 (x.key 2))), .pv (.lit (.int .u8 (x.key 3))), .pv (.lit (.int .u8 (x.key 4))), .pv (.lit (.int .u8 (x.key 5))), .pv (.lit (.int .u8 (x.key 6))), .pv (.lit (.int .u8 (x.key 7))), .pv (.lit (.int .i64 x.ver))]) ?_
          refine rvc_un (rexec_buildSliceF C eSeen [x] rfl rfl rfl rfl rfl rfl rfl (by decide) rfl ?_)
          refine rvc_un (rexec_append C rfl rfl rfl rfl rfl rfl rfl rfl (fun _ h => by cases h) rfl (en := eSeen) (D0 := out) (D := [x]) rfl rfl rfl rfl (by have := eq_of_bne_false h1; have := of_decide_eq_false h3; have := of_decide_eq_false h4; have := of_decide_eq_true h18; first | omega | (simp <;> omega)) (by decide) (nn := (out ++ [x]).length) (by simp) ?_)
          refine rvP C (.sl 64 0 ((out ++ [x]).length) 9 false) ?_
          refine rvc_nil ?_
          refine Awp.regionP C ?_
          refine rvP C (.pv (.lit (.int .i64 (IntKind.i64.wrap ((i : Int) + 1))))) ?_
          refine rvP C (.pv (.lit (.int .i64 (IntKind.i64.wrap ((i : Int) + 1))))) ?_
          refine rvc_nil ?_
          refine ⟨h19, ((out ++ [x]), put), ?_, ?_⟩
          · exact ⟨hR, (by first | omega | (simp <;> omega))⟩
          · exact ⟨fun b => bif b == 900 then 64 else (fun b => b) b, WeakerR.ofL (Ks := [4, 900]) hI ⟨⟨rfl, rfl⟩, ⟨rfl, rfl⟩, ⟨grow_to rfl rfl app_ne rfl rfl, grow_within rfl⟩, ⟨rfl, rfl⟩, ⟨rfl, rfl⟩, ⟨rfl, rfl⟩, ⟨lit_cast (wrap_i64 (by omega) (by omega)), rfl⟩, trivial⟩ (okH_grow (fun _ => rfl) rfl rfl (okH_cons rfl rfl rfl rfl (okH_nil))) rfl⟩
         ·
          replace hR := of_false h24 hR
          refine Awp.skip ?_
          refine Awp.regionP C ?_
          refine rvP C (.pv (.lit (.int .i64 (IntKind.i64.wrap ((i : Int) + 1))))) ?_
          refine rvP C (.pv (.lit (.int .i64 (IntKind.i64.wrap ((i : Int) + 1))))) ?_
          refine rvc_nil ?_
          refine ⟨h19, (out, put), ?_, ?_⟩
          · exact ⟨hR, (by first | omega | (simp <;> omega))⟩
          · exact ⟨fun b => b, WeakerR.ofL (Ks := [4, 900]) hI ⟨⟨rfl, rfl⟩, ⟨rfl, rfl⟩, ⟨grow_to rfl rfl h6 rfl rfl, grow_within rfl⟩, ⟨rfl, rfl⟩, ⟨rfl, rfl⟩, ⟨rfl, rfl⟩, ⟨lit_cast (wrap_i64 (by omega) (by omega)), rfl⟩, trivial⟩ (okH_grow (fun _ => rfl) rfl rfl (okH_cons rfl rfl rfl rfl (okH_nil))) rfl⟩
       ·
        replace hR := of_false h21 hR
        refine rvS ?_
        refine rvS ?_
        refine rvS ?_
        refine rvS ?_
        refine rvS ?_
        refine rvP C (.pv (.lit (.bool false))) ?_
        refine rvc_nil ?_
        refine Awp.condF (b := false) rfl rfl ?_
        refine Awp.skip ?_
        refine Awp.consP C ?_
        refine rvP C (.ptr 12 0) ?_
        refine rvP C (.agg [.pv (.lit (.int .u8 (x.key 0))), .pv (.lit (.int .u8 (x.key 1))), .pv (.lit (.int .u8 (x.key 2))), .pv (.lit (.int .u8 (x.key 3))), .pv (.lit (.int .u8 (x.key 4))), .pv (.lit (.int .u8 (x.key 5))), .pv (.lit (.int .u8 (x.key 6))), .pv (.lit (.int .u8 (x.key 7)))]) ?_
        refine rvP C (.agg [.pv (.lit (.int .u8 (k 0))), .pv (.lit (.int .u8 (k 1))), .pv (.lit (.int .u8 (k 2))), .pv (.lit (.int .u8 (k 3))), .pv (.lit (.int .u8 (k 4))), .pv (.lit (.int .u8 (k 5))), .pv (.lit (.int .u8 (k 6))), .pv (.lit (.int .u8 (k 7)))]) ?_
        refine rvP C (.pv (.lit (.bool (!(((x.key 0) == (k 0)) && (((x.key 1) == (k 1)) && (((x.key 2) == (k 2)) && (((x.key 3) == (k 3)) && (((x.key 4) == (k 4)) && (((x.key 5) == (k 5)) && (((x.key 6) == (k 6)) && (((x.key 7) == (k 7)) && true)))))))))))) ?_
        refine rvc_nil ?_
        refine Awp.cond (b := (!(((x.key 0) == (k 0)) && (((x.key 1) == (k 1)) && (((x.key 2) == (k 2)) && (((x.key 3) == (k 3)) && (((x.key 4) == (k 4)) && (((x.key 5) == (k 5)) && (((x.key 6) == (k 6)) && (((x.key 7) == (k 7)) && true)))))))))) rfl (fun h25 => ?_) (fun h25 => ?_)
        ·
         replace hR := of_true h25 hR
         refine Awp.regionP C ?_
         refine rvP C (.sl 900 0 out.length 9 false) ?_
         refine rvP C (.agg [.pv (.lit (.int .u8 (x.key 0))), .pv (.lit (.int .u8 (x.key 1))), .pv (.lit (.int .u8 (x.key 2))), .pv (.lit (.int .u8 (x.key 3))), .pv (.lit (.int .u8 (x.key 4))), .pv (.lit (.int .u8 (x.key 5))), .pv (.lit (.int .u8 (x.key 6))), .pv (.lit (.int .u8 (x.key 7))), .pv (.lit (.int .i64 x.ver))]) ?_
         refine rvc_un (rexec_buildSliceF C eSeen [x] rfl rfl rfl rfl rfl rfl rfl (by decide) rfl ?_)
         refine rvc_un (rexec_append C rfl rfl rfl rfl rfl rfl rfl rfl (fun _ h => by cases h) rfl (en := eSeen) (D0 := out) (D := [x]) rfl rfl rfl rfl (by have := eq_of_bne_false h1; have := of_decide_eq_false h3; have := of_decide_eq_false h4; have := of_decide_eq_true h18; first | omega | (simp <;> omega)) (by decide) (nn := (out ++ [x]).length) (by simp) ?_)
         refine rvP C (.sl 64 0 ((out ++ [x]).length) 9 false) ?_
         refine rvc_nil ?_
         refine Awp.regionP C ?_
         refine rvP C (.pv (.lit (.int .i64 (IntKind.i64.wrap ((i : Int) + 1))))) ?_
         refine rvP C (.pv (.lit (.int .i64 (IntKind.i64.wrap ((i : Int) + 1))))) ?_
         refine rvc_nil ?_
         refine ⟨h19, ((out ++ [x]), put), ?_, ?_⟩
         · exact ⟨hR, (by first | omega | (simp <;> omega))⟩
         · exact ⟨fun b => bif b == 900 then 64 else (fun b => b) b, WeakerR.ofL (Ks := [4, 900]) hI ⟨⟨rfl, rfl⟩, ⟨rfl, rfl⟩, ⟨grow_to rfl rfl app_ne rfl rfl, grow_within rfl⟩, ⟨rfl, rfl⟩, ⟨rfl, rfl⟩, ⟨rfl, rfl⟩, ⟨lit_cast (wrap_i64 (by omega) (by omega)), rfl⟩, trivial⟩ (okH_grow (fun _ => rfl) rfl rfl (okH_cons rfl rfl rfl rfl (okH_nil))) rfl⟩
        ·
         replace hR := of_false h25 hR
         refine Awp.skip ?_
         refine Awp.regionP C ?_
         refine rvP C (.pv (.lit (.int .i64 (IntKind.i64.wrap ((i : Int) + 1))))) ?_
         refine rvP C (.pv (.lit (.int .i64 (IntKind.i64.wrap ((i : Int) + 1))))) ?_
         refine rvc_nil ?_
         refine ⟨h19, (out, put), ?_, ?_⟩
         · exact ⟨hR, (by first | omega | (simp <;> omega))⟩
         · exact ⟨fun b => b, WeakerR.ofL (Ks := [4, 900]) hI ⟨⟨rfl, rfl⟩, ⟨rfl, rfl⟩, ⟨grow_to rfl rfl h6 rfl rfl, grow_within rfl⟩, ⟨rfl, rfl⟩, ⟨rfl, rfl⟩, ⟨rfl, rfl⟩, ⟨lit_cast (wrap_i64 (by omega) (by omega)), rfl⟩, trivial⟩ (okH_grow (fun _ => rfl) rfl rfl (okH_cons rfl rfl rfl rfl (okH_nil))) rfl⟩
      ·
       have h19 : ¬ i < l.D.length := by have := of_decide_eq_false h18; omega
       rw [drop_end h19] at hR
       refine Awp.exit ?_
       refine Awp.seq ?_
       refine Awp.consP C ?_
       refine rvP C (.pv (.lit (.bool put))) ?_
       refine rvP C (.pv (.lit (.bool (!put)))) ?_
       refine rvc_nil ?_
       refine Awp.cond (b := (!put)) rfl (fun h26 => ?_) (fun h26 => ?_)
       ·
        replace hR := of_true h26 hR
        refine Awp.regionP C ?_
        refine rvP C (.sl 900 0 out.length 9 false) ?_
        refine rvP C (.agg [.pv (.lit (.int .u8 (k 0))), .pv (.lit (.int .u8 (k 1))), .pv (.lit (.int .u8 (k 2))), .pv (.lit (.int .u8 (k 3))), .pv (.lit (.int .u8 (k 4))), .pv (.lit (.int .u8 (k 5))), .pv (.lit (.int .u8 (k 6))), .pv (.lit (.int .u8 (k 7)))]) ?_
        refine rvP C (.pv (.lit (.int .i64 (bif (decide (ver < (rpFloor l k))) then (rpFloor l k) else ver)))) ?_
        refine rvP C (.agg [.pv (.lit (.int .u8 (k 0))), .pv (.lit (.int .u8 (k 1))), .pv (.lit (.int .u8 (k 2))), .pv (.lit (.int .u8 (k 3))), .pv (.lit (.int .u8 (k 4))), .pv (.lit (.int .u8 (k 5))), .pv (.lit (.int .u8 (k 6))), .pv (.lit (.int .u8 (k 7))), .pv (.lit (.int .i64 (bif (decide (ver < (rpFloor l k))) then (rpFloor l k) else ver)))]) ?_
        refine rvc_un (rexec_buildSliceF C eSeen [(Seen.mk k (bif (decide (ver < (rpFloor l k))) then (rpFloor l k) else ver))] rfl rfl rfl rfl rfl rfl rfl (by decide) rfl ?_)
        refine rvc_un (rexec_append C rfl rfl rfl rfl rfl rfl rfl rfl (fun _ h => by cases h) rfl (en := eSeen) (D0 := out) (D := [(Seen.mk k (bif (decide (ver < (rpFloor l k))) then (rpFloor l k) else ver))]) rfl rfl rfl rfl (by have := eq_of_bne_false h1; have := of_decide_eq_false h3; have := of_decide_eq_false h4; have := of_decide_eq_false h18; first | omega | (simp <;> omega)) (by decide) (nn := (out ++ [(Seen.mk k (bif (decide (ver < (rpFloor l k))) then (rpFloor l k) else ver))]).length) (by simp) ?_)
        refine rvP C (.sl 73 0 ((out ++ [(Seen.mk k (bif (decide (ver < (rpFloor l k))) then (rpFloor l k) else ver))]).length) 9 false) ?_
        refine rvc_nil ?_
        refine Awp.seq ?_
        refine Awp.consP C ?_
        refine rvP C (.sl 73 0 ((out ++ [(Seen.mk k (bif (decide (ver < (rpFloor l k))) then (rpFloor l k) else ver))]).length) 9 false) ?_
        refine rvP C (.pv (.lit (.int .i64 (((out ++ [(Seen.mk k (bif (decide (ver < (rpFloor l k))) then (rpFloor l k) else ver))]).length) : Int)))) ?_
        refine rvP C (.pv (.lit (.bool (decide ((((out ++ [(Seen.mk k (bif (decide (ver < (rpFloor l k))) then (rpFloor l k) else ver))]).length) : Int) > 6))))) ?_
        refine rvc_nil ?_
        refine Awp.cond (b := (decide ((((out ++ [(Seen.mk k (bif (decide (ver < (rpFloor l k))) then (rpFloor l k) else ver))]).length) : Int) > 6))) rfl (fun h27 => ?_) (fun h27 => ?_)
        ·
         replace hR := of_true h27 hR
         refine Awp.consP C ?_
         refine rvP C (sS (some true) eSeen []) ?_
         refine rvP C (.pv (.lit (.int .i64 7))) ?_
         refine rvc_nil ?_
         refine Awp.ret ?_
         subst hR
         exact ⟨.inl rfl, rfl⟩
        ·
         replace hR := of_false h27 hR
         refine Awp.skip ?_
         refine Awp.consP C ?_
         refine rvP C (.sl 73 0 ((out ++ [(Seen.mk k (bif (decide (ver < (rpFloor l k))) then (rpFloor l k) else ver))]).length) 9 false) ?_
         refine rvP C (.sl 73 0 ((out ++ [(Seen.mk k (bif (decide (ver < (rpFloor l k))) then (rpFloor l k) else ver))]).length) 9 false) ?_
         refine rvP C (.pv (.lit (.int .i64 0))) ?_
         refine rvc_nil ?_
         refine Awp.freezeW 73 (encL eSeen (out ++ [(Seen.mk k (bif (decide (ver < (rpFloor l k))) then (rpFloor l k) else ver))])) ?_ [(6, sS (some false) eSeen (out ++ [(Seen.mk k (bif (decide (ver < (rpFloor l k))) then (rpFloor l k) else ver))])), (7, .pv (.lit (.int .i64 0)))] [(4, .cells [.pv (.lit (.int .u8 (k 0))), .pv (.lit (.int .u8 (k 1))), .pv (.lit (.int .u8 (k 2))), .pv (.lit (.int .u8 (k 3))), .pv (.lit (.int .u8 (k 4))), .pv (.lit (.int .u8 (k 5))), .pv (.lit (.int .u8 (k 6))), .pv (.lit (.int .u8 (k 7)))])] ?_ ?_ ?_
         · rfl
         · exact ⟨⟨_, rfl, .inl (.inr ⟨_, _, _, rfl, rfl⟩)⟩, ⟨_, rfl, .inl (.inl rfl)⟩, trivial⟩
         · exact ⟨⟨(by show (4 : Nat) ≠ 73; decide), .inl rfl⟩, trivial⟩
         refine Awp.ret ?_
         subst hR
         exact ⟨.inl rfl, rfl⟩
       ·
        replace hR := of_false h26 hR
        refine Awp.skip ?_
        refine Awp.seq ?_
        refine Awp.consP C ?_
        refine rvP C (.sl 900 0 out.length 9 false) ?_
        refine rvP C (.pv (.lit (.int .i64 (out.length : Int)))) ?_
        refine rvP C (.pv (.lit (.bool (decide ((out.length : Int) > 6))))) ?_
        refine rvc_nil ?_
        refine Awp.cond (b := (decide ((out.length : Int) > 6))) rfl (fun h28 => ?_) (fun h28 => ?_)
        ·
         replace hR := of_true h28 hR
         refine Awp.consP C ?_
         refine rvP C (sS (some true) eSeen []) ?_
         refine rvP C (.pv (.lit (.int .i64 7))) ?_
         refine rvc_nil ?_
         refine Awp.ret ?_
         subst hR
         exact ⟨.inl rfl, rfl⟩
        ·
         replace hR := of_false h28 hR
         refine Awp.skip ?_
         refine Awp.consP C ?_
         refine rvP C (.sl 900 0 out.length 9 false) ?_
         refine rvP C (.sl 900 0 out.length 9 false) ?_
         refine rvP C (.pv (.lit (.int .i64 0))) ?_
         refine rvc_nil ?_
         refine Awp.freezeW 900 (encL eSeen out) ?_ [(6, sS (some out.isEmpty) eSeen out), (7, .pv (.lit (.int .i64 0)))] [(4, .cells [.pv (.lit (.int .u8 (k 0))), .pv (.lit (.int .u8 (k 1))), .pv (.lit (.int .u8 (k 2))), .pv (.lit (.int .u8 (k 3))), .pv (.lit (.int .u8 (k 4))), .pv (.lit (.int .u8 (k 5))), .pv (.lit (.int .u8 (k 6))), .pv (.lit (.int .u8 (k 7)))])] ?_ ?_ ?_
         · rfl
         · exact ⟨⟨_, rfl, .inl (.inr ⟨_, _, _, rfl, by rw [ne_isEmpty h6]; rfl⟩)⟩, ⟨_, rfl, .inl (.inl rfl)⟩, trivial⟩
         · exact ⟨⟨(by show (4 : Nat) ≠ 900; decide), .inl rfl⟩, trivial⟩
         refine Awp.ret ?_
         subst hR
         exact ⟨.inl rfl, rfl⟩
end Go.Proofs.YthnghkkbnhjlgaaDoor
/- One version more, in plain words: the library's and the document's. No conditions. -/
namespace Go.Proofs.YthnghkkbnhjlgaaDoor
open Go.Am
theorem sOk_rd {x y : Seen} (h : rd x = rd y) : sOk x = sOk y := by
  have h2 : x.ver = y.ver := congrArg Prod.snd h
  unfold sOk
  rw [sOk_congr h, h2]
theorem rt_rd : ∀ {a b : List Seen} (o : Option (List Int)), a.map rd = b.map rd → rt o a = rt o b
  | [], [], _, _ => rfl
  | [], _ :: _, _, h => by simp at h
  | _ :: _, [], _, h => by simp at h
  | x :: xs, y :: ys, o, h => by
    simp only [List.map_cons, List.cons.injEq] at h
    have h1 : kL x.key = kL y.key := congrArg Prod.fst h.1
    cases o with
    | none => rw [rt_c0, rt_c0, sOk_rd h.1, h1, rt_rd _ h.2]
    | some q => rw [rt_c1, rt_c1, sOk_rd h.1, h1, rt_rd _ h.2]
theorem len_rd {a b : List Seen} (h : a.map rd = b.map rd) : a.length = b.length := by
  have := congrArg List.length h
  simpa using this
theorem pRight_rd {X Y : Sl Seen} (hX : KB X.D) (hY : KB Y.D) (hn : X.D.length ≤ 1000000) (h : X.D.map rd = Y.D.map rd) : pRight X = pRight Y := by
  rw [pRight_eq hX hn, pRight_eq hY (by rw [← len_rd h]; exact hn), len_rd h, rt_rd none h]
theorem insS_rd {k : Nat → Int} {v : Int} : ∀ {a b : List Seen}, a.map rd = b.map rd → (insS k v a).map rd = (insS k v b).map rd
  | [], [], _ => rfl
  | [], _ :: _, h => by simp at h
  | _ :: _, [], h => by simp at h
  | x :: xs, y :: ys, h => by
    have h' := h
    simp only [List.map_cons, List.cons.injEq] at h
    have h1 : kL x.key = kL y.key := congrArg Prod.fst h.1
    have h2 : x.ver = y.ver := congrArg Prod.snd h.1
    rw [insS, insS, h1]
    split
    · rw [List.map_cons, List.map_cons, h.1, insS_rd h.2]
    · split
      · rw [List.map_cons, List.map_cons, h.2]
        congr 1
        show (kL x.key, max x.ver v) = (kL y.key, max y.ver v)
        rw [h1, h2]
      · rw [List.map_cons, List.map_cons (f := rd) (a := Seen.mk k v), h']
/-- What is handed back, if it may be. -/
def chk (X : Sl Seen) : Sl Seen × Int := bif (pRight X) != 0 then (Sl.mk true [], pRight X) else (X, 0)
def Good (r : Sl Seen × Int) : Prop := KB r.1.D ∧ (r.1.nil = true → r.1.D = []) ∧ r.1.D.length ≤ 6
theorem good_nil (e : Int) : Good (Sl.mk true [], e) := ⟨(fun _ h => nomatch h), fun _ => rfl, Nat.zero_le _⟩
theorem chk_good {X : Sl Seen} (hX : KB X.D) (hn : X.nil = true → X.D = []) (hl : X.D.length ≤ 1000000) : Good (chk X) := by
  unfold chk
  cases e : (pRight X != 0)
  · have e0 : pRight X = 0 := by simpa using e
    exact ⟨hX, hn, ((pRight_zero hX hl).1 e0).1⟩
  · exact good_nil _
/-- The list that See makes. -/
def seeX (l : Sl Seen) (k : Nat → Int) (v : Int) : Sl Seen :=
  bif l.nil then (bif v == 0 then Sl.mk true [] else Sl.mk false [Seen.mk k v])
  else bif (place l k).2 then Sl.mk false (l.D.set ((place l k).1).toNat (Seen.mk (ofL [(l.D[((place l k).1).toNat]!.key 0), (l.D[((place l k).1).toNat]!.key 1), (l.D[((place l k).1).toNat]!.key 2), (l.D[((place l k).1).toNat]!.key 3), (l.D[((place l k).1).toNat]!.key 4), (l.D[((place l k).1).toNat]!.key 5), (l.D[((place l k).1).toNat]!.key 6), (l.D[((place l k).1).toNat]!.key 7)]) (bif (decide ((l.D[((place l k).1).toNat]!.ver) < v)) then v else (l.D[((place l k).1).toNat]!.ver))))
  else bif v == 0 then Sl.mk false l.D else Sl.mk false (insertL l.D ((place l k).1).toNat [Seen.mk k v])
def badKV (k : Nat → Int) (v : Int) : Bool := (shRight k != 0) || (decide (v < 0) || decide (v > 1099511627776))
theorem pSee_eq (l : Sl Seen) (k : Nat → Int) (v : Int) : pSee l k v = bif (pRight l) != 0 then (Sl.mk true [], pRight l) else bif badKV k v then (Sl.mk true [], 100) else chk (seeX l k v) := by
  unfold pSee badKV
  cases (pRight l != 0)
  · cases (shRight k != 0)
    · cases decide (v < 0)
      · cases decide (v > 1099511627776)
        · unfold seeX
          cases l.nil
          · cases (place l k).2
            · cases (v == 0) <;> rfl
            · rfl
          · cases (v == 0) <;> rfl
        · rfl
      · rfl
    · rfl
  · rfl
theorem seeX_ok {l : Sl Seen} {k : Nat → Int} (v : Int) (hl : KB l.D) (hk : KeyB k) (hl1 : l.D.length ≤ 1000) : KB (seeX l k v).D ∧ ((seeX l k v).nil = true → (seeX l k v).D = []) ∧ (seeX l k v).D.length ≤ 1001 := by
  have h6 : l.D.length ≤ 1000000 := by omega
  unfold seeX
  cases l.nil
  · rw [cond_false]
    cases e : (place l k).2
    · rw [cond_false]
      cases (v == 0)
      · exact ⟨KB_ins hl hk, (fun h => nomatch h), by show (insertL _ _ _).length ≤ _; rw [insertL_len (place_toNat h6)]; simp; omega⟩
      · exact ⟨hl, (fun h => nomatch h), by show l.D.length ≤ _; omega⟩
    · have := place_lt h6 e
      exact ⟨KB_setk hl (K8 (KB.at hl (by omega))), (fun h => nomatch h), by show (l.D.set _ _).length ≤ _; rw [List.length_set]; omega⟩
  · rw [cond_true]
    cases (v == 0)
    · exact ⟨KB_one hk, (fun h => nomatch h), by show ([_] : List Seen).length ≤ _; simp⟩
    · exact ⟨KB_nil, (fun _ => rfl), Nat.zero_le _⟩
theorem pSee_good {l : Sl Seen} {k : Nat → Int} {v : Int} (hl : KB l.D) (hk : KeyB k) (hl1 : l.D.length ≤ 1000) : Good (pSee l k v) := by
  rw [pSee_eq]
  cases (pRight l != 0)
  · cases badKV k v
    · obtain ⟨h1, h2, h3⟩ := seeX_ok v hl hk hl1
      exact chk_good h1 h2 (by omega)
    · exact good_nil _
  · exact good_nil _
theorem pSee_ok {l : Sl Seen} {k : Nat → Int} {v : Int} (hl : KB l.D) (hk : KeyB k) (_hn : l.nil = true → l.D = []) (hl1 : l.D.length ≤ 1000) : KB (pSee l k v).1.D ∧ ((pSee l k v).1.nil = true → (pSee l k v).1.D = []) ∧ (pSee l k v).1.D.length ≤ 1000 := by
  obtain ⟨h1, h2, h3⟩ := pSee_good (v := v) hl hk hl1
  exact ⟨h1, h2, by omega⟩
theorem clone_ok {a : Sl Seen} (ha : KB a.D) (_hn : a.nil = true → a.D = []) (hl : a.D.length ≤ 1000) : KB (cloneSeen a).D ∧ ((cloneSeen a).nil = true → (cloneSeen a).D = []) ∧ (cloneSeen a).D.length ≤ 1000 := by
  unfold cloneSeen
  cases a.nil
  · exact ⟨ha, (fun h => nomatch h), hl⟩
  · exact ⟨KB_nil, (fun _ => rfl), Nat.zero_le _⟩
/-- What it comes to. -/
def seeL (k : Nat → Int) (v : Int) (l : List Seen) : List Seen := if v = 0 then l else insS k v l
theorem seeX_rd {l : Sl Seen} {k : Nat → Int} {v : Int} (hl : KB l.D) (hk : KeyB k) (hn : l.nil = true → l.D = []) (h6 : l.D.length ≤ 1000000) (hr : rt none l.D = true) : (seeX l k v).D.map rd = (seeL k v l.D).map rd := by
  unfold seeX seeL
  cases en : l.nil
  · rw [cond_false]
    obtain ⟨A, B, e, hp, hA, hB⟩ := place_split h6 hl hk hr
    have hpn : ((place l k).1).toNat = A.length := by omega
    rcases hB with ⟨y, ys, rfl, hy, h2⟩ | ⟨h2, hB⟩
    · rw [h2, cond_true, hpn]
      have hget : l.D[A.length]! = y := by rw [e]; simp
      rw [hget]
      have hset : ∀ Y : Seen, l.D.set A.length Y = A ++ Y :: ys := fun Y => by
        rw [e, List.set_append_right _ _ (Nat.le_refl _), Nat.sub_self]; rfl
      dsimp only
      rw [hset, List.map_append, List.map_cons]
      have hY : rd (Seen.mk (ofL [y.key 0, y.key 1, y.key 2, y.key 3, y.key 4, y.key 5, y.key 6, y.key 7]) (bif decide (y.ver < v) then v else y.ver)) = (kL y.key, max y.ver v) := by
        show (kL y.key, (bif decide (y.ver < v) then v else y.ver)) = _
        congr 1
        cases ed : decide (y.ver < v)
        · have := of_decide_eq_false ed
          rw [cond_false]; omega
        · have := of_decide_eq_true ed
          rw [cond_true]; omega
      rw [hY]
      by_cases hv0 : v = 0
      · rw [if_pos hv0, e, List.map_append, List.map_cons]
        have hvy : 1 ≤ y.ver := (ver_ok (rt_mem hr y (by rw [e]; simp))).1
        congr 2
        show (kL y.key, max y.ver v) = (kL y.key, y.ver)
        congr 1; omega
      · rw [if_neg hv0, e, insS_split hA]
        have : insS k v (y :: ys) = Seen.mk y.key (max y.ver v) :: ys := by
          rw [insS, if_neg (by rw [hy, ll_irrefl]; decide), if_pos hy]
        rw [this, List.map_append, List.map_cons]; rfl
    · rw [h2, cond_false]
      by_cases hv0 : v = 0
      · rw [if_pos hv0, hv0]; rfl
      · rw [if_neg hv0, show (v == 0) = false by simpa using hv0, cond_false, hpn]
        dsimp only
        rw [e, insS_split hA]
        have : insS k v B = Seen.mk k v :: B := by
          cases B with
          | nil => rfl
          | cons y ys =>
            have h := hB y (by simp)
            rw [insS, if_neg (by rw [ll_asym h]; decide), if_neg (fun q => ll_ne h q.symm)]
        rw [this]
        unfold insertL
        rw [List.take_left, List.drop_left, List.append_assoc]; rfl
  · rw [cond_true, hn en]
    by_cases hv0 : v = 0
    · rw [if_pos hv0, hv0]; rfl
    · rw [if_neg hv0, show (v == 0) = false by simpa using hv0, cond_false]; rfl
theorem badKV_false {k : Nat → Int} {v : Int} (h : badKV k v = false) : shRight k = 0 ∧ 0 ≤ v ∧ v ≤ 1099511627776 := by
  unfold badKV at h
  simp only [Bool.or_eq_false_iff, decide_eq_false_iff_not] at h
  have h1 : shRight k = 0 := by simpa using h.1
  omega
theorem seeL_rt {k : Nat → Int} {v : Int} {l : List Seen} (hb : badKV k v = false) (hr : rt none l = true) : rt none (seeL k v l) = true := by
  obtain ⟨h1, h2, h3⟩ := badKV_false hb
  unfold seeL
  split
  · exact hr
  · exact insS_rt (by omega) h3 h1 hr
theorem seeL_KB {k : Nat → Int} {v : Int} {l : List Seen} (hk : KeyB k) (hl : KB l) : KB (seeL k v l) := by
  unfold seeL
  split
  · exact hl
  · exact insS_KB hk hl
/-- What See answers. -/
structure SeeSpec (r : Sl Seen × Int) (l : Sl Seen) (k : Nat → Int) (v : Int) : Prop where
  bad : pRight l ≠ 0 → r = (Sl.mk true [], pRight l)
  arg : pRight l = 0 → badKV k v = true → r = (Sl.mk true [], 100)
  full : pRight l = 0 → badKV k v = false → 6 < (seeL k v l.D).length → r = (Sl.mk true [], 7)
  good : pRight l = 0 → badKV k v = false → (seeL k v l.D).length ≤ 6 → r.2 = 0 ∧ r.1.D.map rd = (seeL k v l.D).map rd
theorem pSee_spec {l : Sl Seen} {k : Nat → Int} (v : Int) (hl : KB l.D) (hk : KeyB k) (hn : l.nil = true → l.D = []) (hl1 : l.D.length ≤ 1000) : SeeSpec (pSee l k v) l k v := by
  have h6 : l.D.length ≤ 1000000 := by omega
  obtain ⟨x1, x2, x3⟩ := seeX_ok v hl hk hl1
  have key : pRight l = 0 → badKV k v = false → rt none l.D = true ∧ (seeX l k v).D.map rd = (seeL k v l.D).map rd ∧ pRight (seeX l k v) = bif decide ((seeL k v l.D).length ≤ 6) then 0 else 7 := fun h0 hb => by
    have hr := ((pRight_zero hl h6).1 h0).2
    have hrd := seeX_rd (v := v) hl hk hn h6 hr
    refine ⟨hr, hrd, ?_⟩
    rw [pRight_eq x1 (by omega), len_rd hrd, rt_rd none hrd, seeL_rt hb hr]; rfl
  refine ⟨fun h => ?_, fun h hb => ?_, fun h hb hlen => ?_, fun h hb hlen => ?_⟩
  · rw [pSee_eq, show (pRight l != 0) = true by simpa using h]; rfl
  · rw [pSee_eq, show (pRight l != 0) = false by simpa using h, hb]; rfl
  · rw [pSee_eq, show (pRight l != 0) = false by simpa using h, hb, cond_false, cond_false]
    unfold chk
    rw [(key h hb).2.2, decide_eq_false (by omega)]; rfl
  · rw [pSee_eq, show (pRight l != 0) = false by simpa using h, hb, cond_false, cond_false]
    unfold chk
    rw [(key h hb).2.2, decide_eq_true hlen]
    exact ⟨rfl, (key h hb).2.1⟩
end Go.Proofs.YthnghkkbnhjlgaaDoor
/- The document's See, and floors, in plain words. No conditions. -/
namespace Go.Proofs.YthnghkkbnhjlgaaDoor
open Go.Am
/-- The document's list. -/
def refL (w : Int) (k : Nat → Int) : List Seen → Bool → List Seen
  | [], put => if put = true then [] else [Seen.mk k w]
  | x :: xs, put => (if put = false ∧ ll (kL x.key) (kL k) = false then [Seen.mk k w] else []) ++ ((if kL x.key = kL k then [] else [x]) ++ refL w k xs (put || !ll (kL x.key) (kL k)))
def fin7 (D : List Seen) (r : Sl Seen × Int) : Prop := (D.length ≤ 6 → r.2 = 0 ∧ r.1.D = D) ∧ (6 < D.length → r = (Sl.mk true [], 7))
theorem fin7_of {D : List Seen} {b : Bool} : fin7 D (bif decide ((D.length : Int) > 6) then (Sl.mk true [], 7) else (Sl.mk b D, 0)) := by
  refine ⟨fun h => ?_, fun h => ?_⟩
  · rw [decide_eq_false (by omega)]; exact ⟨rfl, rfl⟩
  · rw [decide_eq_true (by omega)]; rfl
theorem rpSee_l0_eq {l : Sl Seen} {k : Nat → Int} {ver w : Int} (hk : KeyB k) (hw : (bif decide (ver < rpFloor l k) then rpFloor l k else ver) = w) : ∀ (xs : List Seen) (i : Nat) (out : List Seen) (put : Bool), KB xs → fin7 (out ++ refL w k xs put) (rpSee_l0 l k ver xs i out put)
  | [], i, out, put, _ => by
    unfold rpSee_l0 refL
    rw [hw]
    cases put
    · rw [if_neg (by decide)]; exact fin7_of
    · rw [if_pos rfl, List.append_nil]; exact fin7_of
  | x :: xs, i, out, put, hx => by
    obtain ⟨hx1, hx2⟩ := hx.cons
    have ih := fun out put => rpSee_l0_eq hk hw xs (i + 1) out put hx2
    unfold rpSee_l0
    rw [eq8, rLess_eq hx1 hk, hw]
    unfold refL
    cases put
    · rw [show (!false) = true from rfl, cond_true]
      cases h1 : ll (kL x.key) (kL k)
      · rw [show (!false) = true from rfl, cond_true, if_pos ⟨rfl, rfl⟩]
        by_cases h2 : kL x.key = kL k
        · rw [decide_eq_true h2, if_pos h2]
          have := ih (out ++ [Seen.mk k w]) true
          rw [List.append_assoc] at this
          exact this
        · rw [decide_eq_false h2, if_neg h2]
          have := ih ((out ++ [Seen.mk k w]) ++ [x]) true
          rw [List.append_assoc, List.append_assoc] at this
          exact this
      · rw [show (!true) = false from rfl, cond_false, if_neg (fun q => nomatch q.2)]
        by_cases h2 : kL x.key = kL k
        · rw [decide_eq_true h2, if_pos h2]
          exact ih out false
        · rw [decide_eq_false h2, if_neg h2]
          have := ih (out ++ [x]) false
          rw [List.append_assoc] at this
          exact this
    · rw [show (!true) = false from rfl, cond_false, if_neg (fun q => nomatch q.1)]
      by_cases h2 : kL x.key = kL k
      · rw [decide_eq_true h2, if_pos h2]
        exact ih out true
      · rw [decide_eq_false h2, if_neg h2]
        have := ih (out ++ [x]) true
        rw [List.append_assoc] at this
        exact this
theorem refL_true {w : Int} {k : Nat → Int} : ∀ {xs : List Seen}, (∀ x ∈ xs, kL x.key ≠ kL k) → refL w k xs true = xs
  | [], _ => rfl
  | x :: xs, h => by
    unfold refL
    rw [if_neg (fun q => nomatch q.1), if_neg (h x (by simp))]
    show x :: refL w k xs true = _
    rw [refL_true fun y hy => h y (by simp [hy])]
theorem flr_zero {q : List Int} : ∀ {xs : List Seen}, rt none xs = true → flr q xs = 0 → ∀ x ∈ xs, kL x.key ≠ q
  | [], _, _, _, h => nomatch h
  | y :: ys, hr, h0, x, hx => by
    obtain ⟨h1, h2, _⟩ := rt_cons.1 hr
    rw [flr_cons] at h0
    by_cases e : kL y.key = q
    · rw [if_pos e] at h0
      have := ver_ok h1
      omega
    · rw [if_neg e] at h0
      rcases List.mem_cons.1 hx with rfl | hx
      · exact e
      · exact flr_zero h2 h0 x hx
theorem refL_eq {k : Nat → Int} {v w : Int} (hv : 0 ≤ v) : ∀ {xs : List Seen}, rt none xs = true → w = max v (flr (kL k) xs) → 1 ≤ w → (refL w k xs false).map rd = (seeL k v xs).map rd
  | [], _, hw, h1 => by
    have hwv : w = v := by
      rw [hw]; show max v 0 = v; omega
    unfold seeL
    rw [if_neg (by omega), hwv]; rfl
  | x :: xs, hr, hw, h1 => by
    obtain ⟨r1, r2, r3⟩ := rt_cons.1 hr
    rw [flr_cons] at hw
    unfold refL
    cases hl : ll (kL x.key) (kL k)
    · rw [if_pos ⟨rfl, rfl⟩]
      by_cases he : kL x.key = kL k
      · rw [if_pos he] at hw
        rw [if_pos he]
        show (Seen.mk k w :: refL w k xs true).map rd = _
        rw [refL_true fun y hy => by rw [← he]; exact fun q => ll_ne (r3 y hy) q.symm]
        have hxv := ver_ok r1
        unfold seeL
        by_cases hv0 : v = 0
        · rw [if_pos hv0, List.map_cons, List.map_cons]
          congr 1
          show (kL k, w) = (kL x.key, x.ver)
          rw [he, hw, hv0]
          congr 1; omega
        · rw [if_neg hv0, insS, if_neg (by rw [hl]; decide), if_pos he, List.map_cons, List.map_cons]
          congr 1
          show (kL k, w) = (kL x.key, max x.ver v)
          rw [he, hw]
          congr 1; omega
      · rw [if_neg he] at hw
        have hgt : ll (kL k) (kL x.key) = true := ll_tri hl he
        have h0 : flr (kL k) xs = 0 := flr_none fun y hy => ll_trans hgt (r3 y hy)
        rw [if_neg he]
        show (Seen.mk k w :: x :: refL w k xs true).map rd = _
        rw [refL_true fun y hy => fun q => ll_ne (ll_trans hgt (r3 y hy)) q.symm]
        have hwv : w = v := by rw [hw, h0]; omega
        unfold seeL
        rw [if_neg (by omega), insS, if_neg (by rw [hl]; decide), if_neg he, hwv]
    · have he : kL x.key ≠ kL k := ll_ne hl
      rw [if_neg he] at hw
      rw [if_neg (fun q => nomatch q.2), if_neg he]
      show (x :: refL w k xs false).map rd = _
      rw [List.map_cons, refL_eq hv r2 hw h1]
      unfold seeL
      by_cases hv0 : v = 0
      · rw [if_pos hv0, if_pos hv0]; rfl
      · rw [if_neg hv0, if_neg hv0, insS, if_pos hl]; rfl
theorem rpFloor_l0_eq (k : Nat → Int) : ∀ (xs : List Seen) (i : Nat), rpFloor_l0 k xs i = flr (kL k) xs
  | [], _ => rfl
  | x :: xs, i => by
    unfold rpFloor_l0
    rw [eq8, rpFloor_l0_eq k xs (i + 1), flr_cons]
    by_cases h : kL x.key = kL k
    · rw [decide_eq_true h, if_pos h]; rfl
    · rw [decide_eq_false h, if_neg h]; rfl
theorem rpFloor_eq {l : Sl Seen} {k : Nat → Int} (hl : KB l.D) (h6 : l.D.length ≤ 1000000) : rpFloor l k = if pRight l = 0 then flr (kL k) l.D else 0 := by
  unfold rpFloor
  rw [rpRight_eq hl h6, rpFloor_l0_eq]
  by_cases h : pRight l = 0
  · rw [if_pos h, h]; rfl
  · rw [if_neg h, show (pRight l != 0) = true by simpa using h]; rfl
theorem rpSee_spec {l : Sl Seen} {k : Nat → Int} (v : Int) (hl : KB l.D) (hk : KeyB k) (hl1 : l.D.length ≤ 1000) : SeeSpec (rpSee l k v) l k v := by
  have h6 : l.D.length ≤ 1000000 := by omega
  have e : rpSee l k v = bif (pRight l) != 0 then (Sl.mk true [], pRight l) else bif badKV k v then (Sl.mk true [], 100) else rpSee_l0 l k v l.D 0 [] ((bif (decide (v < (rpFloor l k))) then (rpFloor l k) else v) == 0) := by
    unfold rpSee badKV
    rw [rpRight_eq hl h6, rKey_eq hk, show (!(shRight k == 0)) = (shRight k != 0) from rfl]
    cases (pRight l != 0) <;> cases (shRight k != 0) <;> cases decide (v < 0) <;> cases decide (v > 1099511627776) <;> rfl
  have key : pRight l = 0 → badKV k v = false → ∃ D, D.map rd = (seeL k v l.D).map rd ∧ fin7 D (rpSee_l0 l k v l.D 0 [] ((bif (decide (v < (rpFloor l k))) then (rpFloor l k) else v) == 0)) := fun h0 hb => by
    have hr := ((pRight_zero hl h6).1 h0).2
    have hv := (badKV_false hb).2.1
    have hf : rpFloor l k = flr (kL k) l.D := by rw [rpFloor_eq hl h6, if_pos h0]
    have hnn := flr_nonneg (q := kL k) hr
    obtain ⟨w, hw⟩ : ∃ w, (bif decide (v < rpFloor l k) then rpFloor l k else v) = w := ⟨_, rfl⟩
    have hwm : w = max v (flr (kL k) l.D) := by
      rw [← hw, hf]
      cases ed : decide (v < flr (kL k) l.D)
      · have := of_decide_eq_false ed
        rw [cond_false]; omega
      · have := of_decide_eq_true ed
        rw [cond_true]; omega
    have hs := rpSee_l0_eq hk hw l.D 0 [] (w == 0) hl
    rw [hw]
    rw [List.nil_append] at hs
    refine ⟨_, ?_, hs⟩
    by_cases hw0 : w = 0
    · rw [show (w == 0) = true by simpa using hw0, refL_true (flr_zero hr (by omega))]
      unfold seeL
      rw [if_pos (by omega)]
    · rw [show (w == 0) = false by simpa using hw0]
      exact refL_eq hv hr hwm (by omega)
  rw [e]
  refine ⟨fun h => ?_, fun h hb => ?_, fun h hb hlen => ?_, fun h hb hlen => ?_⟩
  · rw [show (pRight l != 0) = true by simpa using h]; rfl
  · rw [show (pRight l != 0) = false by simpa using h, hb]; rfl
  · rw [show (pRight l != 0) = false by simpa using h, hb, cond_false, cond_false]
    obtain ⟨D, d1, d2, d3⟩ := key h hb
    exact d3 (by rw [len_rd d1]; exact hlen)
  · rw [show (pRight l != 0) = false by simpa using h, hb, cond_false, cond_false]
    obtain ⟨D, d1, d2, d3⟩ := key h hb
    obtain ⟨q1, q2⟩ := d2 (by rw [len_rd d1]; exact hlen)
    exact ⟨q1, by rw [q2]; exact d1⟩
theorem KeyB_congr {j k : Nat → Int} (h : kL j = kL k) (hj : KeyB j) : KeyB k := fun t ht => by
  have hx := hj t ht
  simp only [kL_def, List.cons.injEq, and_true] at h
  rcases (by omega : t = 0 ∨ t = 1 ∨ t = 2 ∨ t = 3 ∨ t = 4 ∨ t = 5 ∨ t = 6 ∨ t = 7) with rfl | rfl | rfl | rfl | rfl | rfl | rfl | rfl
  · rw [← h.1]; exact hx
  · rw [← h.2.1]; exact hx
  · rw [← h.2.2.1]; exact hx
  · rw [← h.2.2.2.1]; exact hx
  · rw [← h.2.2.2.2.1]; exact hx
  · rw [← h.2.2.2.2.2.1]; exact hx
  · rw [← h.2.2.2.2.2.2.1]; exact hx
  · rw [← h.2.2.2.2.2.2.2]; exact hx
theorem rpSee_ok {l : Sl Seen} {k : Nat → Int} {v : Int} (hl : KB l.D) (hk : KeyB k) (hl1 : l.D.length ≤ 1000) : KB (rpSee l k v).1.D ∧ (rpSee l k v).1.D.length ≤ 1000 := by
  have h6 : l.D.length ≤ 1000000 := by omega
  have hs := rpSee_spec v hl hk hl1
  have hnil : ∀ e : Int, KB (Sl.mk true [], e).1.D ∧ ((Sl.mk true [], e) : Sl Seen × Int).1.D.length ≤ 1000 := fun e => ⟨KB_nil, Nat.zero_le _⟩
  by_cases h0 : pRight l = 0
  · cases hb : badKV k v
    · rcases Nat.lt_or_ge 6 (seeL k v l.D).length with h7 | h7
      · rw [hs.full h0 hb h7]; exact hnil 7
      · obtain ⟨q1, q2⟩ := hs.good h0 hb h7
        refine ⟨fun x hx => ?_, by rw [len_rd q2]; omega⟩
        have hm : rd x ∈ (seeL k v l.D).map rd := by rw [← q2]; exact List.mem_map_of_mem hx
        obtain ⟨y, hy, hxy⟩ := List.mem_map.1 hm
        have hyk : KeyB y.key := seeL_KB hk hl y hy
        have hkl : kL y.key = kL x.key := congrArg Prod.fst hxy
        exact KeyB_congr hkl hyk
    · rw [hs.arg h0 hb]; exact hnil 100
  · rw [hs.bad h0]; exact hnil _
end Go.Proofs.YthnghkkbnhjlgaaDoor
/- The reference: both together. No conditions. -/
namespace Go.Proofs.YthnghkkbnhjlgaaDoor
open Go.Am
def rpJoin_l0 : List Seen → Nat → (Sl Seen) → (Sl Seen) × Int
  | [], _, out => (out, 0)
  | x :: xs, i, out => (bif (((rpSee out x.key x.ver).2) != 0) then ((Sl.mk true []), (rpSee out x.key x.ver).2) else rpJoin_l0 xs (i + 1) ((rpSee out x.key x.ver).1))
def rpJoin (a : (Sl Seen)) (b : (Sl Seen)) : (Sl Seen) × Int :=
  (bif ((rpRight b) != 0) then ((Sl.mk true []), (rpRight b)) else (bif ((rpRight a) != 0) then ((Sl.mk true []), (rpRight a)) else rpJoin_l0 b.D 0 (Sl.mk false a.D)))
theorem rpJoin_calls (a : (Sl Seen)) (b : (Sl Seen)) (ha : ∀ x ∈ a.D, KeyB x.key) (hb : ∀ x ∈ b.D, KeyB x.key) (hl1 : b.D.length ≤ 1000) (hl2 : a.D.length ≤ 1000) : PCalls Tryd.prog 27 [sS (some a.nil) eSeen a.D, sS (some b.nil) eSeen b.D] (.tup [sS (some (rpJoin a b).1.nil) eSeen ((rpJoin a b).1.D), .pv (.lit (.int .i64 ((rpJoin a b).2)))]) := by
 generalize hR : rpJoin a b = R
 refine PCalls.of_body tabOk Tryd.func27 rfl rfl rfl rfl rfl mixed fun E hP C hI => ?_
 refine Awp.consP C ?_
 refine rvP C (sS (some true) eSeen []) ?_
 refine rvP C (.pv (.lit (.int .i64 0))) ?_
 refine rvc_nil ?_
 refine Awp.seq ?_
 refine Awp.consP C ?_
 refine rvP C (sS (some b.nil) eSeen b.D) ?_
 refine rvc_un (rexec_call hP C rfl rfl rfl (rpRight_calls b hb (by show b.D.length ≤ 1000000; omega)) ?_)
 refine rvP C (.pv (.lit (.int .i64 (rpRight b)))) ?_
 refine rvc_nil ?_
 refine Awp.consP C ?_
 refine rvP C (.pv (.lit (.int .i64 (rpRight b)))) ?_
 refine rvP C (.pv (.lit (.bool ((rpRight b) != 0)))) ?_
 refine rvc_nil ?_
 refine Awp.cond (b := ((rpRight b) != 0)) rfl (fun h1 => ?_) (fun h1 => ?_)
 ·
  replace hR := of_true h1 hR
  refine Awp.consP C ?_
  refine rvP C (.pv (.lit (.int .i64 (rpRight b)))) ?_
  refine rvP C (sS (some true) eSeen []) ?_
  refine rvP C (.pv (.lit (.int .i64 (rpRight b)))) ?_
  refine rvc_nil ?_
  refine Awp.ret ?_
  subst hR
  exact ⟨.inl rfl, rfl⟩
 ·
  replace hR := of_false h1 hR
  refine Awp.skip ?_
  refine Awp.seq ?_
  refine Awp.consP C ?_
  refine rvP C (sS (some a.nil) eSeen a.D) ?_
  refine rvc_un (rexec_call hP C rfl rfl rfl (rpRight_calls a ha (by show a.D.length ≤ 1000000; omega)) ?_)
  refine rvP C (.pv (.lit (.int .i64 (rpRight a)))) ?_
  refine rvc_nil ?_
  refine Awp.consP C ?_
  refine rvP C (.pv (.lit (.int .i64 (rpRight a)))) ?_
  refine rvP C (.pv (.lit (.bool ((rpRight a) != 0)))) ?_
  refine rvc_nil ?_
  refine Awp.cond (b := ((rpRight a) != 0)) rfl (fun h2 => ?_) (fun h2 => ?_)
  ·
   replace hR := of_true h2 hR
   refine Awp.consP C ?_
   refine rvP C (.pv (.lit (.int .i64 (rpRight a)))) ?_
   refine rvP C (sS (some true) eSeen []) ?_
   refine rvP C (.pv (.lit (.int .i64 (rpRight a)))) ?_
   refine rvc_nil ?_
   refine Awp.ret ?_
   subst hR
   exact ⟨.inl rfl, rfl⟩
  ·
   replace hR := of_false h2 hR
   refine Awp.skip ?_
   refine Awp.consP C ?_
   refine rvc_un (rexec_prim C (δ := { v := .sl 23 0 0 9 true, new := [(23, .cells (encC eSeen []))] }) rfl rfl rfl rfl trivial rfl ?_)
   refine rvP C (sS (some a.nil) eSeen a.D) ?_
   refine rvc_un (rexec_append C rfl rfl rfl rfl rfl rfl rfl rfl (fun _ h => by cases h) rfl (en := eSeen) (D0 := []) (D := a.D) rfl rfl rfl rfl (by have := eq_of_bne_false h1; have := eq_of_bne_false h2; first | omega | (simp <;> omega)) (by decide) (nn := a.D.length) (by simp) ?_)
   refine rvP C (.sl 25 0 a.D.length 9 false) ?_
   refine rvc_nil ?_
   refine Awp.seq ?_
   refine Awp.consP C ?_
   refine rvP C (sS (some b.nil) eSeen b.D) ?_
   refine rvP C (.pv (.lit (.int .i64 (b.D.length : Int)))) ?_
   refine rvP C (.pv (.lit (.int .i64 0))) ?_
   refine rvc_nil ?_
   refine Awp.block ?_
   refine Awp.freezeW 25 (encL eSeen a.D) ?_ [(4, sS (some true) eSeen []), (5, .pv (.lit (.int .i64 0))), (8, sS (some false) eSeen a.D), (26, sS (some b.nil) eSeen b.D), (27, .pv (.lit (.int .i64 (b.D.length : Int)))), (28, .pv (.lit (.int .i64 0)))] [] ?_ ?_ ?_
   · rfl
   · exact ⟨⟨_, rfl, .inl (.inl rfl)⟩, ⟨_, rfl, .inl (.inl rfl)⟩, ⟨_, rfl, .inl (.inr ⟨_, _, _, rfl, rfl⟩)⟩, ⟨_, rfl, .inl (.inl rfl)⟩, ⟨_, rfl, .inl (.inl rfl)⟩, ⟨_, rfl, .inl (.inl rfl)⟩, trivial⟩
   · exact trivial
   refine Awp.forR (σ := ((Sl Seen))) (b.D.length) (fun i v => [(8, sS (some v.nil) eSeen v.D), (26, sS (some b.nil) eSeen b.D), (27, .pv (.lit (.int .i64 (b.D.length : Int)))), (28, .pv (.lit (.int .i64 (i : Int))))]) (fun i v => []) [] (fun i v => (rpJoin_l0 (b.D.drop i) i v = R) ∧ (KB v.D ∧ v.D.length ≤ 1000)) (Sl.mk false a.D) ?_ ?_ (fun i out h3 hR => ?_)
   · exact ⟨hR, ⟨ha, (by show a.D.length ≤ 1000; omega)⟩⟩
   · exact ⟨fun b => b, WeakerR.ofL (Ks := []) hI ⟨⟨rfl, rfl⟩, ⟨rfl, rfl⟩, ⟨rfl, rfl⟩, ⟨rfl, rfl⟩, trivial⟩ (okH_nil) rfl⟩
   obtain ⟨hR, hV⟩ := hR
   refine Awp.consP C ?_
   refine rvP C (.pv (.lit (.bool (decide ((i : Int) < (b.D.length : Int)))))) ?_
   refine rvc_nil ?_
   refine Awp.seq ?_
   refine Awp.cond (b := (decide ((i : Int) < (b.D.length : Int)))) rfl (fun h4 => ?_) (fun h4 => ?_)
   ·
    have h5 : i < b.D.length := by have := of_decide_eq_true h4; omega
    obtain ⟨x, h6⟩ := getX h5
    rw [drop_at h6] at hR
    refine Awp.skip ?_
    refine Awp.seq ?_
    refine Awp.block ?_
    refine Awp.consP C ?_
    refine rvc_un (rexec_idxS C rfl rfl rfl rfl rfl rfl x (Int.natCast_nonneg _) h6 ?_)
    refine rvP C (.agg [.pv (.lit (.int .u8 (x.key 0))), .pv (.lit (.int .u8 (x.key 1))), .pv (.lit (.int .u8 (x.key 2))), .pv (.lit (.int .u8 (x.key 3))), .pv (.lit (.int .u8 (x.key 4))), .pv (.lit (.int .u8 (x.key 5))), .pv (.lit (.int .u8 (x.key 6))), .pv (.lit (.int .u8 (x.key 7))), .pv (.lit (.int .i64 x.ver))]) ?_
    refine rvc_un (rexec_prim C (δ := { v := .ptr 10 0, new := [(10, .cells [.pv (.lit (.int .u8 0)), .pv (.lit (.int .u8 0)), .pv (.lit (.int .u8 0)), .pv (.lit (.int .u8 0)), .pv (.lit (.int .u8 0)), .pv (.lit (.int .u8 0)), .pv (.lit (.int .u8 0)), .pv (.lit (.int .u8 0)), .pv (.lit (.int .i64 0))])] }) rfl rfl rfl rfl trivial rfl ?_)
    refine rvc_un (rexec_prim C (δ := { v := .undef, wr := [(10, some (.cells [.pv (.lit (.int .u8 (x.key 0))), .pv (.lit (.int .u8 (x.key 1))), .pv (.lit (.int .u8 (x.key 2))), .pv (.lit (.int .u8 (x.key 3))), .pv (.lit (.int .u8 (x.key 4))), .pv (.lit (.int .u8 (x.key 5))), .pv (.lit (.int .u8 (x.key 6))), .pv (.lit (.int .u8 (x.key 7))), .pv (.lit (.int .i64 x.ver))]))] }) rfl rfl rfl rfl trivial rfl ?_)
    refine rvc_nil ?_
    refine Awp.consP C ?_
    refine rvP C (sS (some out.nil) eSeen out.D) ?_
    refine rvP C (.ptr 10 0) ?_
    refine rvP C (.agg [.pv (.lit (.int .u8 (x.key 0))), .pv (.lit (.int .u8 (x.key 1))), .pv (.lit (.int .u8 (x.key 2))), .pv (.lit (.int .u8 (x.key 3))), .pv (.lit (.int .u8 (x.key 4))), .pv (.lit (.int .u8 (x.key 5))), .pv (.lit (.int .u8 (x.key 6))), .pv (.lit (.int .u8 (x.key 7)))]) ?_
    refine rvP C (.ptr 10 8) ?_
    refine rvP C (.pv (.lit (.int .i64 x.ver))) ?_
    refine rvc_un (rexec_call hP C rfl rfl rfl (rpSee_calls out x.key x.ver hV.1 (hb _ (List.mem_of_getElem? (by assumption))) (by exact hV.2)) ?_)
    refine rvP C (.tup [sS (some (rpSee out x.key x.ver).1.nil) eSeen ((rpSee out x.key x.ver).1.D), .pv (.lit (.int .i64 ((rpSee out x.key x.ver).2)))]) ?_
    refine rvP C (sS (some (rpSee out x.key x.ver).1.nil) eSeen ((rpSee out x.key x.ver).1.D)) ?_
    refine rvP C (.pv (.lit (.int .i64 ((rpSee out x.key x.ver).2)))) ?_
    refine rvP C (sS (some (rpSee out x.key x.ver).1.nil) eSeen ((rpSee out x.key x.ver).1.D)) ?_
    refine rvP C (.pv (.lit (.int .i64 ((rpSee out x.key x.ver).2)))) ?_
    refine rvc_nil ?_
    refine Awp.seq ?_
    refine Awp.consP C ?_
    refine rvP C (.pv (.lit (.int .i64 ((rpSee out x.key x.ver).2)))) ?_
    refine rvP C (.pv (.lit (.bool (((rpSee out x.key x.ver).2) != 0)))) ?_
    refine rvc_nil ?_
    refine Awp.cond (b := (((rpSee out x.key x.ver).2) != 0)) rfl (fun h7 => ?_) (fun h7 => ?_)
    ·
     replace hR := of_true h7 hR
     refine Awp.consP C ?_
     refine rvP C (.pv (.lit (.int .i64 ((rpSee out x.key x.ver).2)))) ?_
     refine rvP C (sS (some true) eSeen []) ?_
     refine rvP C (.pv (.lit (.int .i64 ((rpSee out x.key x.ver).2)))) ?_
     refine rvc_nil ?_
     refine Awp.ret ?_
     subst hR
     exact ⟨.inl rfl, rfl⟩
    ·
     replace hR := of_false h7 hR
     refine Awp.skip ?_
     refine Awp.regionP C ?_
     refine rvP C (sS (some (rpSee out x.key x.ver).1.nil) eSeen ((rpSee out x.key x.ver).1.D)) ?_
     refine rvP C (sS (some (rpSee out x.key x.ver).1.nil) eSeen ((rpSee out x.key x.ver).1.D)) ?_
     refine rvc_nil ?_
     refine Awp.regionP C ?_
     refine rvP C (.pv (.lit (.int .i64 (IntKind.i64.wrap ((i : Int) + 1))))) ?_
     refine rvP C (.pv (.lit (.int .i64 (IntKind.i64.wrap ((i : Int) + 1))))) ?_
     refine rvc_nil ?_
     refine ⟨h5, (rpSee out x.key x.ver).1, ?_, ?_⟩
     · exact ⟨hR, (rpSee_ok hV.1 (hb _ (List.mem_of_getElem? (by assumption))) hV.2)⟩
     · exact ⟨fun b => b, WeakerR.ofL (Ks := []) hI ⟨⟨rfl, rfl⟩, ⟨rfl, rfl⟩, ⟨rfl, rfl⟩, ⟨lit_cast (wrap_i64 (by omega) (by omega)), rfl⟩, trivial⟩ (okH_nil) rfl⟩
   ·
    have h5 : ¬ i < b.D.length := by have := of_decide_eq_false h4; omega
    rw [drop_end h5] at hR
    refine Awp.exit ?_
    refine Awp.consP C ?_
    refine rvP C (sS (some out.nil) eSeen out.D) ?_
    refine rvP C (sS (some out.nil) eSeen out.D) ?_
    refine rvP C (.pv (.lit (.int .i64 0))) ?_
    refine rvc_nil ?_
    refine Awp.ret ?_
    subst hR
    exact ⟨.inl rfl, rfl⟩
end Go.Proofs.YthnghkkbnhjlgaaDoor
/- Both together. No conditions. -/
namespace Go.Proofs.YthnghkkbnhjlgaaDoor
open Go.Am
def pJoin_l0 : List Seen → Nat → (Sl Seen) → Int → (Sl Seen) × Int
  | [], _, out, e_ => (bif (e_ != 0) then ((Sl.mk true []), e_) else (out, 0))
  | x :: xs, i, out, e_ => (bif (e_ == 0) then pJoin_l0 xs (i + 1) ((pSee out x.key x.ver).1) ((pSee out x.key x.ver).2) else pJoin_l0 xs (i + 1) out e_)
def pJoin (a : (Sl Seen)) (b : (Sl Seen)) : (Sl Seen) × Int :=
  (bif ((pRight b) != 0) then ((Sl.mk true []), (pRight b)) else pJoin_l0 b.D 0 (cloneSeen a) (pRight a))
theorem pJoin_calls (a : (Sl Seen)) (b : (Sl Seen)) (ha : ∀ x ∈ a.D, KeyB x.key) (hb : ∀ x ∈ b.D, KeyB x.key) (hn : a.nil = true → a.D = []) (hl1 : b.D.length ≤ 1000) (hl2 : a.D.length ≤ 1000) : PCalls Tryd.prog 26 [sS (some a.nil) eSeen a.D, sS (some b.nil) eSeen b.D] (.tup [sS (some (pJoin a b).1.nil) eSeen ((pJoin a b).1.D), .pv (.lit (.int .i64 ((pJoin a b).2)))]) := by
 generalize hR : pJoin a b = R
 refine PCalls.of_body tabOk Tryd.func26 rfl rfl rfl rfl rfl mixed fun E hP C hI => ?_
 refine Awp.consP C ?_
 refine rvP C (sS (some true) eSeen []) ?_
 refine rvP C (.pv (.lit (.int .i64 0))) ?_
 refine rvc_nil ?_
 refine Awp.seq ?_
 refine Awp.consP C ?_
 refine rvP C (sS (some b.nil) eSeen b.D) ?_
 refine rvc_un (rexec_call hP C rfl rfl rfl (pRight_calls b hb (by show b.D.length ≤ 1000000; omega)) ?_)
 refine rvP C (.pv (.lit (.int .i64 (pRight b)))) ?_
 refine rvc_nil ?_
 refine Awp.consP C ?_
 refine rvP C (.pv (.lit (.int .i64 (pRight b)))) ?_
 refine rvP C (.pv (.lit (.bool ((pRight b) != 0)))) ?_
 refine rvc_nil ?_
 refine Awp.cond (b := ((pRight b) != 0)) rfl (fun h1 => ?_) (fun h1 => ?_)
 ·
  replace hR := of_true h1 hR
  refine Awp.consP C ?_
  refine rvP C (.pv (.lit (.int .i64 (pRight b)))) ?_
  refine rvP C (sS (some true) eSeen []) ?_
  refine rvP C (.pv (.lit (.int .i64 (pRight b)))) ?_
  refine rvc_nil ?_
  refine Awp.ret ?_
  subst hR
  exact ⟨.inl rfl, rfl⟩
 ·
  replace hR := of_false h1 hR
  refine Awp.skip ?_
  refine Awp.consP C ?_
  refine rvP C (sS (some a.nil) eSeen a.D) ?_
  refine rvc_un (rexec_call hP C rfl rfl rfl (cloneSeen_calls a (Nat.le_trans hl2 (by decide))) ?_)
  refine rvP C (sS (some a.nil) eSeen a.D) ?_
  refine rvc_un (rexec_call hP C rfl rfl rfl (pRight_calls a ha (by show a.D.length ≤ 1000000; omega)) ?_)
  refine rvP C (sS (some (cloneSeen a).nil) eSeen ((cloneSeen a).D)) ?_
  refine rvP C (.pv (.lit (.int .i64 (pRight a)))) ?_
  refine rvc_nil ?_
  refine Awp.seq ?_
  refine Awp.consP C ?_
  refine rvP C (sS (some b.nil) eSeen b.D) ?_
  refine rvP C (.pv (.lit (.int .i64 (b.D.length : Int)))) ?_
  refine rvP C (.pv (.lit (.int .i64 0))) ?_
  refine rvc_nil ?_
  refine Awp.block ?_
  refine Awp.forR (σ := ((Sl Seen)) × Int) (b.D.length) (fun i v => [(7, sS (some v.1.nil) eSeen v.1.D), (8, .pv (.lit (.int .i64 v.2))), (20, sS (some b.nil) eSeen b.D), (21, .pv (.lit (.int .i64 (b.D.length : Int)))), (22, .pv (.lit (.int .i64 (i : Int))))]) (fun i v => []) [] (fun i v => (pJoin_l0 (b.D.drop i) i v.1 v.2 = R) ∧ (KB v.1.D ∧ (v.1.nil = true → v.1.D = []) ∧ v.1.D.length ≤ 1000)) ((cloneSeen a), (pRight a)) ?_ ?_ (fun i v h2 hR => ?_)
  · exact ⟨hR, (clone_ok ha hn (by omega))⟩
  · exact ⟨fun b => b, WeakerR.ofL (Ks := []) hI ⟨⟨rfl, rfl⟩, ⟨rfl, rfl⟩, ⟨rfl, rfl⟩, ⟨rfl, rfl⟩, ⟨rfl, rfl⟩, trivial⟩ (okH_nil) rfl⟩
  obtain ⟨out, e_⟩ := v
  obtain ⟨hR, hV⟩ := hR
  refine Awp.consP C ?_
  refine rvP C (.pv (.lit (.bool (decide ((i : Int) < (b.D.length : Int)))))) ?_
  refine rvc_nil ?_
  refine Awp.seq ?_
  refine Awp.cond (b := (decide ((i : Int) < (b.D.length : Int)))) rfl (fun h3 => ?_) (fun h3 => ?_)
  ·
   have h4 : i < b.D.length := by have := of_decide_eq_true h3; omega
   obtain ⟨x, h5⟩ := getX h4
   rw [drop_at h5] at hR
   refine Awp.skip ?_
   refine Awp.seq ?_
   refine Awp.block ?_
   refine Awp.consP C ?_
   refine rvc_un (rexec_idxS C rfl rfl rfl rfl rfl rfl x (Int.natCast_nonneg _) h5 ?_)
   refine rvP C (.agg [.pv (.lit (.int .u8 (x.key 0))), .pv (.lit (.int .u8 (x.key 1))), .pv (.lit (.int .u8 (x.key 2))), .pv (.lit (.int .u8 (x.key 3))), .pv (.lit (.int .u8 (x.key 4))), .pv (.lit (.int .u8 (x.key 5))), .pv (.lit (.int .u8 (x.key 6))), .pv (.lit (.int .u8 (x.key 7))), .pv (.lit (.int .i64 x.ver))]) ?_
   refine rvc_un (rexec_prim C (δ := { v := .ptr 10 0, new := [(10, .cells [.pv (.lit (.int .u8 0)), .pv (.lit (.int .u8 0)), .pv (.lit (.int .u8 0)), .pv (.lit (.int .u8 0)), .pv (.lit (.int .u8 0)), .pv (.lit (.int .u8 0)), .pv (.lit (.int .u8 0)), .pv (.lit (.int .u8 0)), .pv (.lit (.int .i64 0))])] }) rfl rfl rfl rfl trivial rfl ?_)
   refine rvc_un (rexec_prim C (δ := { v := .undef, wr := [(10, some (.cells [.pv (.lit (.int .u8 (x.key 0))), .pv (.lit (.int .u8 (x.key 1))), .pv (.lit (.int .u8 (x.key 2))), .pv (.lit (.int .u8 (x.key 3))), .pv (.lit (.int .u8 (x.key 4))), .pv (.lit (.int .u8 (x.key 5))), .pv (.lit (.int .u8 (x.key 6))), .pv (.lit (.int .u8 (x.key 7))), .pv (.lit (.int .i64 x.ver))]))] }) rfl rfl rfl rfl trivial rfl ?_)
   refine rvc_nil ?_
   refine Awp.consP C ?_
   refine rvP C (.pv (.lit (.int .i64 e_))) ?_
   refine rvP C (.pv (.lit (.bool (e_ == 0)))) ?_
   refine rvc_nil ?_
   refine Awp.cond (b := (e_ == 0)) rfl (fun h6 => ?_) (fun h6 => ?_)
   ·
    replace hR := of_true h6 hR
    refine Awp.regionP C ?_
    refine rvP C (sS (some out.nil) eSeen out.D) ?_
    refine rvP C (.ptr 10 0) ?_
    refine rvP C (.agg [.pv (.lit (.int .u8 (x.key 0))), .pv (.lit (.int .u8 (x.key 1))), .pv (.lit (.int .u8 (x.key 2))), .pv (.lit (.int .u8 (x.key 3))), .pv (.lit (.int .u8 (x.key 4))), .pv (.lit (.int .u8 (x.key 5))), .pv (.lit (.int .u8 (x.key 6))), .pv (.lit (.int .u8 (x.key 7)))]) ?_
    refine rvP C (.ptr 10 8) ?_
    refine rvP C (.pv (.lit (.int .i64 x.ver))) ?_
    refine rvc_un (rexec_call hP C rfl rfl rfl (pSee_calls out x.key x.ver hV.1 (hb _ (List.mem_of_getElem? (by assumption))) hV.2.1 (by exact hV.2.2)) ?_)
    refine rvP C (.tup [sS (some (pSee out x.key x.ver).1.nil) eSeen ((pSee out x.key x.ver).1.D), .pv (.lit (.int .i64 ((pSee out x.key x.ver).2)))]) ?_
    refine rvP C (sS (some (pSee out x.key x.ver).1.nil) eSeen ((pSee out x.key x.ver).1.D)) ?_
    refine rvP C (.pv (.lit (.int .i64 ((pSee out x.key x.ver).2)))) ?_
    refine rvP C (sS (some (pSee out x.key x.ver).1.nil) eSeen ((pSee out x.key x.ver).1.D)) ?_
    refine rvP C (.pv (.lit (.int .i64 ((pSee out x.key x.ver).2)))) ?_
    refine rvc_nil ?_
    refine Awp.regionP C ?_
    refine rvP C (.pv (.lit (.int .i64 (IntKind.i64.wrap ((i : Int) + 1))))) ?_
    refine rvP C (.pv (.lit (.int .i64 (IntKind.i64.wrap ((i : Int) + 1))))) ?_
    refine rvc_nil ?_
    refine ⟨h4, ((pSee out x.key x.ver).1, (pSee out x.key x.ver).2), ?_, ?_⟩
    · exact ⟨hR, (by first | exact hV | exact pSee_ok hV.1 (hb _ (List.mem_of_getElem? (by assumption))) hV.2.1 hV.2.2)⟩
    · exact ⟨fun b => b, WeakerR.ofL (Ks := []) hI ⟨⟨rfl, rfl⟩, ⟨rfl, rfl⟩, ⟨rfl, rfl⟩, ⟨rfl, rfl⟩, ⟨lit_cast (wrap_i64 (by omega) (by omega)), rfl⟩, trivial⟩ (okH_nil) rfl⟩
   ·
    replace hR := of_false h6 hR
    refine Awp.skip ?_
    refine Awp.regionP C ?_
    refine rvP C (.pv (.lit (.int .i64 (IntKind.i64.wrap ((i : Int) + 1))))) ?_
    refine rvP C (.pv (.lit (.int .i64 (IntKind.i64.wrap ((i : Int) + 1))))) ?_
    refine rvc_nil ?_
    refine ⟨h4, (out, e_), ?_, ?_⟩
    · exact ⟨hR, (by first | exact hV | exact pSee_ok hV.1 (hb _ (List.mem_of_getElem? (by assumption))) hV.2.1 hV.2.2)⟩
    · exact ⟨fun b => b, WeakerR.ofL (Ks := []) hI ⟨⟨rfl, rfl⟩, ⟨rfl, rfl⟩, ⟨rfl, rfl⟩, ⟨rfl, rfl⟩, ⟨lit_cast (wrap_i64 (by omega) (by omega)), rfl⟩, trivial⟩ (okH_nil) rfl⟩
  ·
   have h4 : ¬ i < b.D.length := by have := of_decide_eq_false h3; omega
   rw [drop_end h4] at hR
   refine Awp.exit ?_
   refine Awp.seq ?_
   refine Awp.consP C ?_
   refine rvP C (.pv (.lit (.int .i64 e_))) ?_
   refine rvP C (.pv (.lit (.bool (e_ != 0)))) ?_
   refine rvc_nil ?_
   refine Awp.cond (b := (e_ != 0)) rfl (fun h7 => ?_) (fun h7 => ?_)
   ·
    replace hR := of_true h7 hR
    refine Awp.consP C ?_
    refine rvP C (.pv (.lit (.int .i64 e_))) ?_
    refine rvP C (sS (some true) eSeen []) ?_
    refine rvP C (.pv (.lit (.int .i64 e_))) ?_
    refine rvc_nil ?_
    refine Awp.ret ?_
    subst hR
    exact ⟨.inl rfl, rfl⟩
   ·
    replace hR := of_false h7 hR
    refine Awp.skip ?_
    refine Awp.consP C ?_
    refine rvP C (sS (some out.nil) eSeen out.D) ?_
    refine rvP C (sS (some out.nil) eSeen out.D) ?_
    refine rvP C (.pv (.lit (.int .i64 0))) ?_
    refine rvc_nil ?_
    refine Awp.ret ?_
    subst hR
    exact ⟨.inl rfl, rfl⟩
end Go.Proofs.YthnghkkbnhjlgaaDoor
/- What both have seen, in plain words: the library's and the document's. No conditions. -/
namespace Go.Proofs.YthnghkkbnhjlgaaDoor
open Go.Am
/-- What Join answers. -/
structure JoinSpec (r : Sl Seen × Int) (a b : Sl Seen) : Prop where
  badB : pRight b ≠ 0 → r = (Sl.mk true [], pRight b)
  badA : pRight b = 0 → pRight a ≠ 0 → r = (Sl.mk true [], pRight a)
  full : pRight b = 0 → pRight a = 0 → 6 < (joinS a.D b.D).length → r = (Sl.mk true [], 7)
  good : pRight b = 0 → pRight a = 0 → (joinS a.D b.D).length ≤ 6 → r.2 = 0 ∧ r.1.D.map rd = (joinS a.D b.D).map rd
theorem joinS_rd : ∀ {b : List Seen} {a a' : List Seen}, a.map rd = a'.map rd → (joinS a b).map rd = (joinS a' b).map rd
  | [], _, _, h => h
  | _ :: xs, _, _, h => joinS_rd (b := xs) (insS_rd h)
theorem insS_seeL {k : Nat → Int} {v : Int} {l : List Seen} (h : 1 ≤ v) : seeL k v l = insS k v l := by
  unfold seeL
  rw [if_neg (by omega)]
theorem badKV_of {x : Seen} (h : sOk x = true) : badKV x.key x.ver = false := by
  obtain ⟨h1, h2, h3⟩ := ver_ok h
  unfold badKV
  rw [h3, decide_eq_false (show ¬ x.ver < 0 by omega), decide_eq_false (show ¬ x.ver > 1099511627776 by omega)]; rfl
theorem pJoin_l0_err {e : Int} (he : e ≠ 0) : ∀ (xs : List Seen) (i : Nat) (out : Sl Seen), pJoin_l0 xs i out e = (Sl.mk true [], e)
  | [], i, out => by
    unfold pJoin_l0
    rw [show (e != 0) = true by simpa using he]; rfl
  | x :: xs, i, out => by
    unfold pJoin_l0
    rw [show (e == 0) = false by simpa using he]
    exact pJoin_l0_err he xs (i + 1) out
theorem pJoin_l0_eq : ∀ (xs : List Seen) (i : Nat) (out : Sl Seen), KB xs → rt none xs = true → KB out.D → (out.nil = true → out.D = []) → out.D.length ≤ 1000 → pRight out = 0 →
    ((joinS out.D xs).length ≤ 6 → (pJoin_l0 xs i out 0).2 = 0 ∧ (pJoin_l0 xs i out 0).1.D.map rd = (joinS out.D xs).map rd) ∧ (6 < (joinS out.D xs).length → pJoin_l0 xs i out 0 = (Sl.mk true [], 7))
  | [], i, out, _, _, ho, _, hl, h0 => by
    unfold pJoin_l0
    have h6 := ((pRight_zero ho (by omega)).1 h0).1
    exact ⟨fun _ => ⟨rfl, rfl⟩, fun h => by
      have : 6 < out.D.length := h
      omega⟩
  | x :: xs, i, out, hx, hr, ho, hn, hl, h0 => by
    obtain ⟨hx1, hx2⟩ := hx.cons
    obtain ⟨r1, r2, _⟩ := rt_cons.1 hr
    obtain ⟨v1, v2, v3⟩ := ver_ok r1
    have hs := pSee_spec x.ver ho hx1 hn hl
    have hb := badKV_of r1
    have hok := pSee_ok (v := x.ver) ho hx1 hn hl
    unfold pJoin_l0
    rw [show ((0 : Int) == 0) = true from rfl, cond_true]
    show ((joinS (insS x.key x.ver out.D) xs).length ≤ 6 → _) ∧ (6 < (joinS (insS x.key x.ver out.D) xs).length → _)
    rcases Nat.lt_or_ge 6 (insS x.key x.ver out.D).length with h7 | h7
    · have hf := hs.full h0 hb (by rw [insS_seeL v1]; exact h7)
      have hlen := joinS_len (b := xs) (a := insS x.key x.ver out.D)
      rw [hf]
      dsimp only
      rw [pJoin_l0_err (by decide)]
      exact ⟨fun h => by omega, fun _ => rfl⟩
    · obtain ⟨g1, g2⟩ := hs.good h0 hb (by rw [insS_seeL v1]; exact h7)
      rw [insS_seeL v1] at g2
      rw [g1]
      have hr0 := ((pRight_zero ho (by omega)).1 h0).2
      have hp : pRight (pSee out x.key x.ver).1 = 0 := by
        refine (pRight_zero hok.1 (by omega)).2 ⟨by rw [len_rd g2]; exact h7, ?_⟩
        rw [rt_rd none g2]; exact insS_rt v1 v2 v3 hr0
      have ih := pJoin_l0_eq xs (i + 1) (pSee out x.key x.ver).1 hx2 r2 hok.1 hok.2.1 hok.2.2 hp
      have hj := joinS_rd (b := xs) g2
      rw [len_rd hj, hj] at ih
      exact ih
theorem pJoin_spec {a b : Sl Seen} (ha : KB a.D) (hb : KB b.D) (hn : a.nil = true → a.D = []) (hl1 : a.D.length ≤ 1000) (hl2 : b.D.length ≤ 1000) : JoinSpec (pJoin a b) a b := by
  have hc : (cloneSeen a).D = a.D := by
    unfold cloneSeen
    cases e : a.nil
    · rfl
    · exact (hn e).symm
  have hcn : (cloneSeen a).nil = true → (cloneSeen a).D = [] := by
    unfold cloneSeen
    cases e : a.nil
    · exact fun h => nomatch h
    · exact fun _ => rfl
  have hpc : pRight (cloneSeen a) = pRight a := pRight_rd (by rw [hc]; exact ha) ha (by rw [hc]; omega) (by rw [hc])
  have e : pJoin a b = bif (pRight b != 0) then (Sl.mk true [], pRight b) else pJoin_l0 b.D 0 (cloneSeen a) (pRight a) := rfl
  have hmain : pRight b = 0 → pRight a = 0 → ((joinS a.D b.D).length ≤ 6 → (pJoin a b).2 = 0 ∧ (pJoin a b).1.D.map rd = (joinS a.D b.D).map rd) ∧ (6 < (joinS a.D b.D).length → pJoin a b = (Sl.mk true [], 7)) := fun h1 h2 => by
    have hr := ((pRight_zero hb (by omega)).1 h1).2
    have := pJoin_l0_eq b.D 0 (cloneSeen a) hb hr (by rw [hc]; exact ha) hcn (by rw [hc]; exact hl1) (by rw [hpc]; exact h2)
    rw [hc] at this
    rw [e, h1, h2]
    exact this
  refine ⟨fun h => ?_, fun h1 h2 => ?_, fun h1 h2 h => (hmain h1 h2).2 h, fun h1 h2 h => (hmain h1 h2).1 h⟩
  · rw [e, show (pRight b != 0) = true by simpa using h]; rfl
  · rw [e, h1]
    exact pJoin_l0_err h2 b.D 0 (cloneSeen a)
theorem rpJoin_l0_eq : ∀ (xs : List Seen) (i : Nat) (out : Sl Seen), KB xs → rt none xs = true → KB out.D → out.D.length ≤ 1000 → pRight out = 0 →
    ((joinS out.D xs).length ≤ 6 → (rpJoin_l0 xs i out).2 = 0 ∧ (rpJoin_l0 xs i out).1.D.map rd = (joinS out.D xs).map rd) ∧ (6 < (joinS out.D xs).length → rpJoin_l0 xs i out = (Sl.mk true [], 7))
  | [], i, out, _, _, ho, hl, h0 => by
    unfold rpJoin_l0
    have h6 := ((pRight_zero ho (by omega)).1 h0).1
    exact ⟨fun _ => ⟨rfl, rfl⟩, fun h => by
      have : 6 < out.D.length := h
      omega⟩
  | x :: xs, i, out, hx, hr, ho, hl, h0 => by
    obtain ⟨hx1, hx2⟩ := hx.cons
    obtain ⟨r1, r2, _⟩ := rt_cons.1 hr
    obtain ⟨v1, v2, v3⟩ := ver_ok r1
    have hs := rpSee_spec x.ver ho hx1 hl
    have hb := badKV_of r1
    have hok := rpSee_ok (v := x.ver) ho hx1 hl
    unfold rpJoin_l0
    show ((joinS (insS x.key x.ver out.D) xs).length ≤ 6 → _) ∧ (6 < (joinS (insS x.key x.ver out.D) xs).length → _)
    rcases Nat.lt_or_ge 6 (insS x.key x.ver out.D).length with h7 | h7
    · have hf := hs.full h0 hb (by rw [insS_seeL v1]; exact h7)
      have hlen := joinS_len (b := xs) (a := insS x.key x.ver out.D)
      rw [hf]
      exact ⟨fun h => by omega, fun _ => rfl⟩
    · obtain ⟨g1, g2⟩ := hs.good h0 hb (by rw [insS_seeL v1]; exact h7)
      rw [insS_seeL v1] at g2
      rw [g1]
      have hr0 := ((pRight_zero ho (by omega)).1 h0).2
      have hp : pRight (rpSee out x.key x.ver).1 = 0 := by
        refine (pRight_zero hok.1 (by omega)).2 ⟨by rw [len_rd g2]; exact h7, ?_⟩
        rw [rt_rd none g2]; exact insS_rt v1 v2 v3 hr0
      have ih := rpJoin_l0_eq xs (i + 1) (rpSee out x.key x.ver).1 hx2 r2 hok.1 hok.2 hp
      have hj := joinS_rd (b := xs) g2
      rw [len_rd hj, hj] at ih
      exact ih
theorem rpJoin_spec {a b : Sl Seen} (ha : KB a.D) (hb : KB b.D) (hl1 : a.D.length ≤ 1000) (hl2 : b.D.length ≤ 1000) : JoinSpec (rpJoin a b) a b := by
  have hpc : pRight (Sl.mk false a.D) = pRight a := pRight_rd ha ha (by show a.D.length ≤ _; omega) rfl
  have e : rpJoin a b = bif (pRight b != 0) then (Sl.mk true [], pRight b) else bif (pRight a != 0) then (Sl.mk true [], pRight a) else rpJoin_l0 b.D 0 (Sl.mk false a.D) := by
    unfold rpJoin
    rw [rpRight_eq hb (by omega), rpRight_eq ha (by omega)]
  have hmain : pRight b = 0 → pRight a = 0 → ((joinS a.D b.D).length ≤ 6 → (rpJoin a b).2 = 0 ∧ (rpJoin a b).1.D.map rd = (joinS a.D b.D).map rd) ∧ (6 < (joinS a.D b.D).length → rpJoin a b = (Sl.mk true [], 7)) := fun h1 h2 => by
    have hr := ((pRight_zero hb (by omega)).1 h1).2
    have := rpJoin_l0_eq b.D 0 (Sl.mk false a.D) hb hr ha hl1 (by rw [hpc]; exact h2)
    rw [e, h1, h2]
    exact this
  refine ⟨fun h => ?_, fun h1 h2 => ?_, fun h1 h2 h => (hmain h1 h2).2 h, fun h1 h2 h => (hmain h1 h2).1 h⟩
  · rw [e, show (pRight b != 0) = true by simpa using h]; rfl
  · rw [e, h1, show (pRight a != 0) = true by simpa using h2]; rfl
theorem JoinSpec.same {r r' : Sl Seen × Int} {a b : Sl Seen} (h : JoinSpec r a b) (h' : JoinSpec r' a b) : r.2 = r'.2 ∧ r.1.D.map rd = r'.1.D.map rd := by
  by_cases hb : pRight b = 0
  · by_cases ha : pRight a = 0
    · rcases Nat.lt_or_ge 6 (joinS a.D b.D).length with h7 | h7
      · rw [h.full hb ha h7, h'.full hb ha h7]; exact ⟨rfl, rfl⟩
      · obtain ⟨q1, q2⟩ := h.good hb ha h7
        obtain ⟨q3, q4⟩ := h'.good hb ha h7
        exact ⟨q1.trans q3.symm, q2.trans q4.symm⟩
    · rw [h.badA hb ha, h'.badA hb ha]; exact ⟨rfl, rfl⟩
  · rw [h.badB hb, h'.badB hb]; exact ⟨rfl, rfl⟩
theorem SeeSpec.same {r r' : Sl Seen × Int} {l : Sl Seen} {k : Nat → Int} {v : Int} (h : SeeSpec r l k v) (h' : SeeSpec r' l k v) : r.2 = r'.2 ∧ r.1.D.map rd = r'.1.D.map rd := by
  by_cases hb : pRight l = 0
  · cases ha : badKV k v
    · rcases Nat.lt_or_ge 6 (seeL k v l.D).length with h7 | h7
      · rw [h.full hb ha h7, h'.full hb ha h7]; exact ⟨rfl, rfl⟩
      · obtain ⟨q1, q2⟩ := h.good hb ha h7
        obtain ⟨q3, q4⟩ := h'.good hb ha h7
        exact ⟨q1.trans q3.symm, q2.trans q4.symm⟩
    · rw [h.arg hb ha, h'.arg hb ha]; exact ⟨rfl, rfl⟩
  · rw [h.bad hb, h'.bad hb]; exact ⟨rfl, rfl⟩
end Go.Proofs.YthnghkkbnhjlgaaDoor
/- Names; lists told apart. No conditions. -/
namespace Go.Proofs.YthnghkkbnhjlgaaDoor
open Go.Am
def nameK (D : List Int) : (Nat → Int) :=
  (cpF D 8 (ofL [(0 : Int), 0, 0, 0, 0, 0, 0, 0]))
theorem nameK_calls (D : List Int) (hD : ∀ x ∈ D, 0 ≤ x ∧ x < 256) : PCalls Tryd.prog 32 [.pv (.lit (.string (strOf D)))] (.agg [.pv (.lit (.int .u8 ((nameK D) 0))), .pv (.lit (.int .u8 ((nameK D) 1))), .pv (.lit (.int .u8 ((nameK D) 2))), .pv (.lit (.int .u8 ((nameK D) 3))), .pv (.lit (.int .u8 ((nameK D) 4))), .pv (.lit (.int .u8 ((nameK D) 5))), .pv (.lit (.int .u8 ((nameK D) 6))), .pv (.lit (.int .u8 ((nameK D) 7)))]) := by
 generalize hR : nameK D = R
 refine PCalls.of_body tabOk Tryd.func32 rfl rfl rfl rfl rfl mixed fun E hP C hI => ?_
 refine Awp.consP C ?_
 refine rvc_un (rexec_prim C (δ := { v := .ptr 2 0, new := [(2, .cells [.pv (.lit (.int .u8 0)), .pv (.lit (.int .u8 0)), .pv (.lit (.int .u8 0)), .pv (.lit (.int .u8 0)), .pv (.lit (.int .u8 0)), .pv (.lit (.int .u8 0)), .pv (.lit (.int .u8 0)), .pv (.lit (.int .u8 0))])] }) rfl rfl rfl rfl trivial rfl ?_)
 refine rvc_nil ?_
 refine Awp.consP C ?_
 refine rvc_un (rexec_prim C (δ := { v := .ptr 3 0, new := [(3, .cells [.pv (.lit (.int .u8 0)), .pv (.lit (.int .u8 0)), .pv (.lit (.int .u8 0)), .pv (.lit (.int .u8 0)), .pv (.lit (.int .u8 0)), .pv (.lit (.int .u8 0)), .pv (.lit (.int .u8 0)), .pv (.lit (.int .u8 0))])] }) rfl rfl rfl rfl trivial rfl ?_)
 refine rvc_nil ?_
 refine Awp.consP C ?_
 refine rvc_un (rexec_prim C (δ := { v := .sl 3 0 8 1 true }) rfl rfl rfl rfl ⟨by decide, Nat.le_of_ble_eq_true rfl, .inl rfl⟩ rfl ?_)
 refine rvP C (.pv (.lit (.string (strOf D)))) ?_
 refine rvc_un (rexec_copyStr C rfl rfl rfl rfl rfl rfl rfl (f := (ofL [(0 : Int), 0, 0, 0, 0, 0, 0, 0])) (D := D) hD rfl rfl ?_)
 refine rvc_nil ?_
 refine Awp.consP C ?_
 refine rvP C (.agg [.pv (.lit (.int .u8 ((cpF D 8 (ofL [(0 : Int), 0, 0, 0, 0, 0, 0, 0])) 0))), .pv (.lit (.int .u8 ((cpF D 8 (ofL [(0 : Int), 0, 0, 0, 0, 0, 0, 0])) 1))), .pv (.lit (.int .u8 ((cpF D 8 (ofL [(0 : Int), 0, 0, 0, 0, 0, 0, 0])) 2))), .pv (.lit (.int .u8 ((cpF D 8 (ofL [(0 : Int), 0, 0, 0, 0, 0, 0, 0])) 3))), .pv (.lit (.int .u8 ((cpF D 8 (ofL [(0 : Int), 0, 0, 0, 0, 0, 0, 0])) 4))), .pv (.lit (.int .u8 ((cpF D 8 (ofL [(0 : Int), 0, 0, 0, 0, 0, 0, 0])) 5))), .pv (.lit (.int .u8 ((cpF D 8 (ofL [(0 : Int), 0, 0, 0, 0, 0, 0, 0])) 6))), .pv (.lit (.int .u8 ((cpF D 8 (ofL [(0 : Int), 0, 0, 0, 0, 0, 0, 0])) 7)))]) ?_
 refine rvc_un (rexec_prim C (δ := { v := .undef, wr := [(2, some (.cells [.pv (.lit (.int .u8 ((cpF D 8 (ofL [(0 : Int), 0, 0, 0, 0, 0, 0, 0])) 0))), .pv (.lit (.int .u8 ((cpF D 8 (ofL [(0 : Int), 0, 0, 0, 0, 0, 0, 0])) 1))), .pv (.lit (.int .u8 ((cpF D 8 (ofL [(0 : Int), 0, 0, 0, 0, 0, 0, 0])) 2))), .pv (.lit (.int .u8 ((cpF D 8 (ofL [(0 : Int), 0, 0, 0, 0, 0, 0, 0])) 3))), .pv (.lit (.int .u8 ((cpF D 8 (ofL [(0 : Int), 0, 0, 0, 0, 0, 0, 0])) 4))), .pv (.lit (.int .u8 ((cpF D 8 (ofL [(0 : Int), 0, 0, 0, 0, 0, 0, 0])) 5))), .pv (.lit (.int .u8 ((cpF D 8 (ofL [(0 : Int), 0, 0, 0, 0, 0, 0, 0])) 6))), .pv (.lit (.int .u8 ((cpF D 8 (ofL [(0 : Int), 0, 0, 0, 0, 0, 0, 0])) 7)))]))] }) rfl rfl rfl rfl trivial rfl ?_)
 refine rvc_nil ?_
 refine Awp.ret ?_
 subst hR
 exact ⟨.inl rfl, rfl⟩
def eqSeen_l0 (s2 : (Sl Seen)) : List Seen → Nat → Bool
  | [], _ => true
  | x :: xs, i => (bif (!((((x.key 0) == (s2.D[(i : Int).toNat]!.key 0)) && (((x.key 1) == (s2.D[(i : Int).toNat]!.key 1)) && (((x.key 2) == (s2.D[(i : Int).toNat]!.key 2)) && (((x.key 3) == (s2.D[(i : Int).toNat]!.key 3)) && (((x.key 4) == (s2.D[(i : Int).toNat]!.key 4)) && (((x.key 5) == (s2.D[(i : Int).toNat]!.key 5)) && (((x.key 6) == (s2.D[(i : Int).toNat]!.key 6)) && (((x.key 7) == (s2.D[(i : Int).toNat]!.key 7)) && true)))))))) && ((x.ver == (s2.D[(i : Int).toNat]!.ver)) && true))) then false else eqSeen_l0 s2 xs (i + 1) )
def eqSeen (s1 : (Sl Seen)) (s2 : (Sl Seen)) : Bool :=
  (bif ((s1.D.length : Int) != (s2.D.length : Int)) then false else eqSeen_l0 s2 s1.D 0 )
theorem eqSeen_calls (s1 : (Sl Seen)) (s2 : (Sl Seen)) (hl1 : s1.D.length ≤ 1000000) : PCalls Tryd.prog 18 [sS (some s1.nil) eSeen s1.D, sS (some s2.nil) eSeen s2.D] (.pv (.lit (.bool (eqSeen s1 s2)))) := by
 generalize hR : eqSeen s1 s2 = R
 refine PCalls.of_body tabOk Tryd.func18 rfl rfl rfl rfl rfl mixed fun E hP C hI => ?_
 refine Awp.consP C ?_
 refine rvP C (.pv (.lit (.bool false))) ?_
 refine rvc_nil ?_
 refine Awp.seq ?_
 refine Awp.consP C ?_
 refine rvP C (sS (some s1.nil) eSeen s1.D) ?_
 refine rvP C (.pv (.lit (.int .i64 (s1.D.length : Int)))) ?_
 refine rvP C (sS (some s2.nil) eSeen s2.D) ?_
 refine rvP C (.pv (.lit (.int .i64 (s2.D.length : Int)))) ?_
 refine rvP C (.pv (.lit (.bool ((s1.D.length : Int) != (s2.D.length : Int))))) ?_
 refine rvc_nil ?_
 refine Awp.cond (b := ((s1.D.length : Int) != (s2.D.length : Int))) rfl (fun h1 => ?_) (fun h1 => ?_)
 ·
  replace hR := of_true h1 hR
  refine Awp.consP C ?_
  refine rvP C (.pv (.lit (.bool false))) ?_
  refine rvc_nil ?_
  refine Awp.ret ?_
  subst hR
  exact ⟨.inl rfl, rfl⟩
 ·
  replace hR := of_false h1 hR
  refine Awp.skip ?_
  refine Awp.seq ?_
  refine Awp.consP C ?_
  refine rvP C (sS (some s1.nil) eSeen s1.D) ?_
  refine rvP C (.pv (.lit (.int .i64 (s1.D.length : Int)))) ?_
  refine rvP C (.pv (.lit (.int .i64 0))) ?_
  refine rvc_nil ?_
  refine Awp.block ?_
  refine Awp.forR (σ := Unit) (s1.D.length) (fun i _v => [(0, sS (some s1.nil) eSeen s1.D), (1, sS (some s2.nil) eSeen s2.D), (12, .pv (.lit (.int .i64 (s1.D.length : Int)))), (13, .pv (.lit (.int .i64 (i : Int))))]) (fun i _v => []) [] (fun i _v => eqSeen_l0 s2 (s1.D.drop i) i  = R) () ?_ ?_ (fun i _v h2 hR => ?_)
  · exact hR
  · exact ⟨fun b => b, WeakerR.ofL (Ks := []) hI ⟨⟨rfl, rfl⟩, ⟨rfl, rfl⟩, ⟨rfl, rfl⟩, ⟨rfl, rfl⟩, trivial⟩ (okH_nil) rfl⟩
  refine Awp.consP C ?_
  refine rvP C (.pv (.lit (.bool (decide ((i : Int) < (s1.D.length : Int)))))) ?_
  refine rvc_nil ?_
  refine Awp.seq ?_
  refine Awp.cond (b := (decide ((i : Int) < (s1.D.length : Int)))) rfl (fun h3 => ?_) (fun h3 => ?_)
  ·
   have h4 : i < s1.D.length := by have := of_decide_eq_true h3; omega
   obtain ⟨x, h5⟩ := getX h4
   rw [drop_at h5] at hR
   refine Awp.skip ?_
   refine Awp.seq ?_
   refine Awp.block ?_
   refine Awp.consP C ?_
   refine rvP C (.pv (.lit (.int .i64 (i : Int)))) ?_
   refine rvP C (.pv (.lit (.int .i64 (i : Int)))) ?_
   refine rvc_nil ?_
   refine Awp.consP C ?_
   refine rvP C (sS (some s1.nil) eSeen s1.D) ?_
   refine rvP C (.pv (.lit (.int .i64 (i : Int)))) ?_
   refine rvc_un (rexec_idxS C rfl rfl rfl rfl rfl rfl x (Int.natCast_nonneg _) h5 ?_)
   refine rvP C (.agg [.pv (.lit (.int .u8 (x.key 0))), .pv (.lit (.int .u8 (x.key 1))), .pv (.lit (.int .u8 (x.key 2))), .pv (.lit (.int .u8 (x.key 3))), .pv (.lit (.int .u8 (x.key 4))), .pv (.lit (.int .u8 (x.key 5))), .pv (.lit (.int .u8 (x.key 6))), .pv (.lit (.int .u8 (x.key 7))), .pv (.lit (.int .i64 x.ver))]) ?_
   refine rvP C (sS (some s2.nil) eSeen s2.D) ?_
   refine rvP C (.pv (.lit (.int .i64 (i : Int)))) ?_
   have h6 : s2.D[(i : Int).toNat]? = some s2.D[(i : Int).toNat]! := getE (by have := eq_of_bne_false h1; have := of_decide_eq_true h3; omega)
   refine rvc_un (rexec_idxS C rfl rfl rfl rfl rfl rfl (s2.D[(i : Int).toNat]!) (Int.natCast_nonneg _) h6 ?_)
   refine rvP C (.agg [.pv (.lit (.int .u8 (s2.D[(i : Int).toNat]!.key 0))), .pv (.lit (.int .u8 (s2.D[(i : Int).toNat]!.key 1))), .pv (.lit (.int .u8 (s2.D[(i : Int).toNat]!.key 2))), .pv (.lit (.int .u8 (s2.D[(i : Int).toNat]!.key 3))), .pv (.lit (.int .u8 (s2.D[(i : Int).toNat]!.key 4))), .pv (.lit (.int .u8 (s2.D[(i : Int).toNat]!.key 5))), .pv (.lit (.int .u8 (s2.D[(i : Int).toNat]!.key 6))), .pv (.lit (.int .u8 (s2.D[(i : Int).toNat]!.key 7))), .pv (.lit (.int .i64 (s2.D[(i : Int).toNat]!.ver)))]) ?_
   refine rvP C (.pv (.lit (.bool (!((((x.key 0) == (s2.D[(i : Int).toNat]!.key 0)) && (((x.key 1) == (s2.D[(i : Int).toNat]!.key 1)) && (((x.key 2) == (s2.D[(i : Int).toNat]!.key 2)) && (((x.key 3) == (s2.D[(i : Int).toNat]!.key 3)) && (((x.key 4) == (s2.D[(i : Int).toNat]!.key 4)) && (((x.key 5) == (s2.D[(i : Int).toNat]!.key 5)) && (((x.key 6) == (s2.D[(i : Int).toNat]!.key 6)) && (((x.key 7) == (s2.D[(i : Int).toNat]!.key 7)) && true)))))))) && ((x.ver == (s2.D[(i : Int).toNat]!.ver)) && true)))))) ?_
   refine rvc_nil ?_
   refine Awp.cond (b := (!((((x.key 0) == (s2.D[(i : Int).toNat]!.key 0)) && (((x.key 1) == (s2.D[(i : Int).toNat]!.key 1)) && (((x.key 2) == (s2.D[(i : Int).toNat]!.key 2)) && (((x.key 3) == (s2.D[(i : Int).toNat]!.key 3)) && (((x.key 4) == (s2.D[(i : Int).toNat]!.key 4)) && (((x.key 5) == (s2.D[(i : Int).toNat]!.key 5)) && (((x.key 6) == (s2.D[(i : Int).toNat]!.key 6)) && (((x.key 7) == (s2.D[(i : Int).toNat]!.key 7)) && true)))))))) && ((x.ver == (s2.D[(i : Int).toNat]!.ver)) && true)))) rfl (fun h7 => ?_) (fun h7 => ?_)
   ·
    replace hR := of_true h7 hR
    refine Awp.consP C ?_
    refine rvP C (.pv (.lit (.bool false))) ?_
    refine rvc_nil ?_
    refine Awp.ret ?_
    subst hR
    exact ⟨.inl rfl, rfl⟩
   ·
    replace hR := of_false h7 hR
    refine Awp.skip ?_
    refine Awp.regionP C ?_
    refine rvP C (.pv (.lit (.int .i64 (IntKind.i64.wrap ((i : Int) + 1))))) ?_
    refine rvP C (.pv (.lit (.int .i64 (IntKind.i64.wrap ((i : Int) + 1))))) ?_
    refine rvc_nil ?_
    refine ⟨h4, (), ?_, ?_⟩
    · exact hR
    · exact ⟨fun b => b, WeakerR.ofL (Ks := []) hI ⟨⟨rfl, rfl⟩, ⟨rfl, rfl⟩, ⟨rfl, rfl⟩, ⟨lit_cast (wrap_i64 (by omega) (by omega)), rfl⟩, trivial⟩ (okH_nil) rfl⟩
  ·
   have h4 : ¬ i < s1.D.length := by have := of_decide_eq_false h3; omega
   rw [drop_end h4] at hR
   refine Awp.exit ?_
   refine Awp.consP C ?_
   refine rvP C (.pv (.lit (.bool true))) ?_
   refine rvc_nil ?_
   refine Awp.ret ?_
   subst hR
   exact ⟨.inl rfl, rfl⟩
end Go.Proofs.YthnghkkbnhjlgaaDoor
/- Names of one letter. No conditions. -/
namespace Go.Proofs.YthnghkkbnhjlgaaDoor
open Go.Am
theorem name1_B (c : Int) (h : 0 ≤ c ∧ c < 256) : KeyB (nameK [c]) := fun j hj => by
  rcases (by omega : j = 0 ∨ j = 1 ∨ j = 2 ∨ j = 3 ∨ j = 4 ∨ j = 5 ∨ j = 6 ∨ j = 7) with rfl | rfl | rfl | rfl | rfl | rfl | rfl | rfl
  · exact h
  all_goals (show (0 : Int) ≤ 0 ∧ (0 : Int) < 256; decide)
theorem rng8 (c : Int) (h : 0 ≤ c ∧ c < 256) : ∀ x ∈ [c], 0 ≤ x ∧ x < 256 := fun x hx => by rw [List.mem_singleton.1 hx]; exact h
end Go.Proofs.YthnghkkbnhjlgaaDoor
/- Passes read. No conditions. -/
namespace Go.Proofs.YthnghkkbnhjlgaaDoor
open Go.Am
def pRead_l0 : Nat → Nat → (List Seen) → Reader → (Sl Seen) × Int
  | 0, _, l, vc => (bif ((rdEnd vc) != 0) then ((Sl.mk true []), 100) else (bif ((pRight (Sl.mk l.isEmpty l)) != 0) then ((Sl.mk true []), 100) else ((Sl.mk l.isEmpty l), 0)))
  | k + 1, i, l, vc => pRead_l0 k (i + 1) (l ++ [(Seen.mk (unword ((rdNum vc).2)) ((rdIn ((rdNum vc).1) 1 1099511627776).2))]) ((rdIn ((rdNum vc).1) 1 1099511627776).1)
def pRead (key : (Sl Int)) (b : (Sl Int)) : (Sl Seen) × Int :=
  (bif ((key.D.length : Int) != 16) then ((Sl.mk true []), 1) else (bif ((b.D.length : Int) == 0) then ((Sl.mk true []), 0) else (bif (decide ((b.D.length : Int) > 120)) then ((Sl.mk true []), 100) else (bif (decide ((b.D.length : Int) < 8)) then ((Sl.mk true []), 100) else (bif (((mark key (Sl.mk b.nil (b.D.take ((IntKind.i64.wrap ((b.D.length : Int) - 8)).toNat)))).2) != 0) then ((Sl.mk true []), 100) else (bif (!(eqBytes ((mark key (Sl.mk b.nil (b.D.take ((IntKind.i64.wrap ((b.D.length : Int) - 8)).toNat)))).1) (Sl.mk b.nil (b.D.drop ((IntKind.i64.wrap ((b.D.length : Int) - 8)).toNat))))) then ((Sl.mk true []), 100) else pRead_l0 (rdIn (rdNew (Sl.mk b.nil (b.D.take ((IntKind.i64.wrap ((b.D.length : Int) - 8)).toNat)))) 1 6).2.toNat 0 [] (rdIn (rdNew (Sl.mk b.nil (b.D.take ((IntKind.i64.wrap ((b.D.length : Int) - 8)).toNat)))) 1 6).1))))))
theorem pRead_calls (key : (Sl Int)) (b : (Sl Int))  : PCalls Tryd.prog 20 [sS (some key.nil) (eI .u8) key.D, sS (some b.nil) (eI .u8) b.D] (.tup [sS (some (pRead key b).1.nil) eSeen ((pRead key b).1.D), .pv (.lit (.int .i64 ((pRead key b).2)))]) := by
 generalize hR : pRead key b = R
 refine PCalls.of_body tabOk Tryd.func20 rfl rfl rfl rfl rfl mixed fun E hP C hI => ?_
 refine Awp.consP C ?_
 refine rvP C (sS (some true) eSeen []) ?_
 refine rvP C (.pv (.lit (.int .i64 0))) ?_
 refine rvc_nil ?_
 refine Awp.seq ?_
 refine Awp.consP C ?_
 refine rvP C (sS (some key.nil) (eI .u8) key.D) ?_
 refine rvP C (.pv (.lit (.int .i64 (key.D.length : Int)))) ?_
 refine rvP C (.pv (.lit (.bool ((key.D.length : Int) != 16)))) ?_
 refine rvc_nil ?_
 refine Awp.cond (b := ((key.D.length : Int) != 16)) rfl (fun h1 => ?_) (fun h1 => ?_)
 ·
  replace hR := of_true h1 hR
  refine Awp.consP C ?_
  refine rvP C (sS (some true) eSeen []) ?_
  refine rvP C (.pv (.lit (.int .i64 1))) ?_
  refine rvc_nil ?_
  refine Awp.ret ?_
  subst hR
  exact ⟨.inl rfl, rfl⟩
 ·
  replace hR := of_false h1 hR
  refine Awp.skip ?_
  refine Awp.seq ?_
  refine Awp.consP C ?_
  refine rvP C (sS (some b.nil) (eI .u8) b.D) ?_
  refine rvP C (.pv (.lit (.int .i64 (b.D.length : Int)))) ?_
  refine rvP C (.pv (.lit (.bool ((b.D.length : Int) == 0)))) ?_
  refine rvc_nil ?_
  refine Awp.cond (b := ((b.D.length : Int) == 0)) rfl (fun h2 => ?_) (fun h2 => ?_)
  ·
   replace hR := of_true h2 hR
   refine Awp.consP C ?_
   refine rvP C (sS (some true) eSeen []) ?_
   refine rvP C (.pv (.lit (.int .i64 0))) ?_
   refine rvc_nil ?_
   refine Awp.ret ?_
   subst hR
   exact ⟨.inl rfl, rfl⟩
  ·
   replace hR := of_false h2 hR
   refine Awp.skip ?_
   refine Awp.seq ?_
   refine Awp.consP C ?_
   refine rvP C (sS (some b.nil) (eI .u8) b.D) ?_
   refine rvP C (.pv (.lit (.int .i64 (b.D.length : Int)))) ?_
   refine rvP C (.pv (.lit (.bool (decide ((b.D.length : Int) > 120))))) ?_
   refine rvP C (.pv (.lit (.bool (decide ((b.D.length : Int) > 120))))) ?_
   refine rvc_case 20 (decide ((b.D.length : Int) > 120)) rfl (fun h3 => ?_) (fun h3 => ?_)
   ·
    replace hR := of_true h3 hR
    refine rvS ?_
    refine rvS ?_
    refine rvS ?_
    refine rvP C (.pv (.lit (.bool true))) ?_
    refine rvc_nil ?_
    refine Awp.condT (b := true) rfl rfl ?_
    refine Awp.consP C ?_
    refine rvP C (sS (some true) eSeen []) ?_
    refine rvP C (.pv (.lit (.int .i64 100))) ?_
    refine rvc_nil ?_
    refine Awp.ret ?_
    subst hR
    exact ⟨.inl rfl, rfl⟩
   ·
    replace hR := of_false h3 hR
    refine rvO C (sS (some b.nil) (eI .u8) b.D) ?_
    refine rvO C (.pv (.lit (.int .i64 (b.D.length : Int)))) ?_
    refine rvO C (.pv (.lit (.bool (decide ((b.D.length : Int) < 8))))) ?_
    refine rvP C (.pv (.lit (.bool (decide ((b.D.length : Int) < 8))))) ?_
    refine rvc_nil ?_
    refine Awp.cond (b := (decide ((b.D.length : Int) < 8))) rfl (fun h4 => ?_) (fun h4 => ?_)
    ·
     replace hR := of_true h4 hR
     refine Awp.consP C ?_
     refine rvP C (sS (some true) eSeen []) ?_
     refine rvP C (.pv (.lit (.int .i64 100))) ?_
     refine rvc_nil ?_
     refine Awp.ret ?_
     subst hR
     exact ⟨.inl rfl, rfl⟩
    ·
     replace hR := of_false h4 hR
     refine Awp.skip ?_
     refine Awp.consP C ?_
     refine rvP C (sS (some b.nil) (eI .u8) b.D) ?_
     refine rvP C (.pv (.lit (.int .i64 (b.D.length : Int)))) ?_
     refine rvP C (.pv (.lit (.int .i64 (IntKind.i64.wrap ((b.D.length : Int) - 8))))) ?_
     refine rvP C (.pv (.lit (.int .i64 (IntKind.i64.wrap ((b.D.length : Int) - 8))))) ?_
     refine rvc_nil ?_
     refine Awp.consP C ?_
     refine rvP C (sS (some key.nil) (eI .u8) key.D) ?_
     refine rvP C (sS (some b.nil) (eI .u8) b.D) ?_
     refine rvP C (.pv (.lit (.int .i64 (IntKind.i64.wrap ((b.D.length : Int) - 8))))) ?_
     have ha_ := wrapI ((b.D.length : Int) - 8)
     have h8_ := of_decide_eq_false ‹decide ((b.D.length : Int) < 8) = false›
     have h120_ := of_decide_eq_false ‹decide ((b.D.length : Int) > 120) = false›
     refine rvc_un (rexec_sliceS C (e := (eI .u8)) (D := b.D) 0 ((IntKind.i64.wrap ((b.D.length : Int) - 8)).toNat) rfl rfl rfl rfl rfl rfl rfl rfl rfl (by simp; omega) (by omega) (by omega) (b.D.take ((IntKind.i64.wrap ((b.D.length : Int) - 8)).toNat)) (by simp) ?_)
     refine rvc_un (rexec_call hP C rfl rfl rfl (mark_calls key (Sl.mk b.nil (b.D.take ((IntKind.i64.wrap ((b.D.length : Int) - 8)).toNat))) (by simp; omega)) ?_)
     refine rvP C (.tup [sS (some (mark key (Sl.mk b.nil (b.D.take ((IntKind.i64.wrap ((b.D.length : Int) - 8)).toNat)))).1.nil) (eI .u8) ((mark key (Sl.mk b.nil (b.D.take ((IntKind.i64.wrap ((b.D.length : Int) - 8)).toNat)))).1.D), .pv (.lit (.int .i64 ((mark key (Sl.mk b.nil (b.D.take ((IntKind.i64.wrap ((b.D.length : Int) - 8)).toNat)))).2)))]) ?_
     refine rvP C (sS (some (mark key (Sl.mk b.nil (b.D.take ((IntKind.i64.wrap ((b.D.length : Int) - 8)).toNat)))).1.nil) (eI .u8) ((mark key (Sl.mk b.nil (b.D.take ((IntKind.i64.wrap ((b.D.length : Int) - 8)).toNat)))).1.D)) ?_
     refine rvP C (.pv (.lit (.int .i64 ((mark key (Sl.mk b.nil (b.D.take ((IntKind.i64.wrap ((b.D.length : Int) - 8)).toNat)))).2)))) ?_
     refine rvP C (sS (some (mark key (Sl.mk b.nil (b.D.take ((IntKind.i64.wrap ((b.D.length : Int) - 8)).toNat)))).1.nil) (eI .u8) ((mark key (Sl.mk b.nil (b.D.take ((IntKind.i64.wrap ((b.D.length : Int) - 8)).toNat)))).1.D)) ?_
     refine rvP C (.pv (.lit (.int .i64 ((mark key (Sl.mk b.nil (b.D.take ((IntKind.i64.wrap ((b.D.length : Int) - 8)).toNat)))).2)))) ?_
     refine rvc_nil ?_
     refine Awp.seq ?_
     refine Awp.consP C ?_
     refine rvP C (.pv (.lit (.int .i64 ((mark key (Sl.mk b.nil (b.D.take ((IntKind.i64.wrap ((b.D.length : Int) - 8)).toNat)))).2)))) ?_
     refine rvP C (.pv (.lit (.bool (((mark key (Sl.mk b.nil (b.D.take ((IntKind.i64.wrap ((b.D.length : Int) - 8)).toNat)))).2) != 0)))) ?_
     refine rvP C (.pv (.lit (.bool (((mark key (Sl.mk b.nil (b.D.take ((IntKind.i64.wrap ((b.D.length : Int) - 8)).toNat)))).2) != 0)))) ?_
     refine rvc_case 38 (((mark key (Sl.mk b.nil (b.D.take ((IntKind.i64.wrap ((b.D.length : Int) - 8)).toNat)))).2) != 0) rfl (fun h5 => ?_) (fun h5 => ?_)
     ·
      replace hR := of_true h5 hR
      refine rvS ?_
      refine rvS ?_
      refine rvS ?_
      refine rvS ?_
      refine rvS ?_
      refine rvS ?_
      refine rvP C (.pv (.lit (.bool true))) ?_
      refine rvc_nil ?_
      refine Awp.condT (b := true) rfl rfl ?_
      refine Awp.consP C ?_
      refine rvP C (sS (some true) eSeen []) ?_
      refine rvP C (.pv (.lit (.int .i64 100))) ?_
      refine rvc_nil ?_
      refine Awp.ret ?_
      subst hR
      exact ⟨.inl rfl, rfl⟩
     ·
      replace hR := of_false h5 hR
      refine rvO C (sS (some (mark key (Sl.mk b.nil (b.D.take ((IntKind.i64.wrap ((b.D.length : Int) - 8)).toNat)))).1.nil) (eI .u8) ((mark key (Sl.mk b.nil (b.D.take ((IntKind.i64.wrap ((b.D.length : Int) - 8)).toNat)))).1.D)) ?_
      refine rvO C (sS (some b.nil) (eI .u8) b.D) ?_
      refine rvO C (.pv (.lit (.int .i64 (IntKind.i64.wrap ((b.D.length : Int) - 8))))) ?_
      refine rvc_open rfl rfl rfl (rexec_sliceS C (e := (eI .u8)) (D := b.D) ((IntKind.i64.wrap ((b.D.length : Int) - 8)).toNat) b.D.length rfl rfl rfl rfl rfl rfl rfl rfl (by simp; omega) rfl (by omega) (by omega) (b.D.drop ((IntKind.i64.wrap ((b.D.length : Int) - 8)).toNat)) (by rw [List.take_of_length_le (by simp)]) ?_)
      refine rvc_open rfl rfl rfl (rexec_call hP C rfl rfl rfl (eqBytes_calls ((mark key (Sl.mk b.nil (b.D.take ((IntKind.i64.wrap ((b.D.length : Int) - 8)).toNat)))).1) (Sl.mk b.nil (b.D.drop ((IntKind.i64.wrap ((b.D.length : Int) - 8)).toNat)))) ?_)
      refine rvO C (.pv (.lit (.bool (!(eqBytes ((mark key (Sl.mk b.nil (b.D.take ((IntKind.i64.wrap ((b.D.length : Int) - 8)).toNat)))).1) (Sl.mk b.nil (b.D.drop ((IntKind.i64.wrap ((b.D.length : Int) - 8)).toNat)))))))) ?_
      refine rvP C (.pv (.lit (.bool (!(eqBytes ((mark key (Sl.mk b.nil (b.D.take ((IntKind.i64.wrap ((b.D.length : Int) - 8)).toNat)))).1) (Sl.mk b.nil (b.D.drop ((IntKind.i64.wrap ((b.D.length : Int) - 8)).toNat)))))))) ?_
      refine rvc_nil ?_
      refine Awp.cond (b := (!(eqBytes ((mark key (Sl.mk b.nil (b.D.take ((IntKind.i64.wrap ((b.D.length : Int) - 8)).toNat)))).1) (Sl.mk b.nil (b.D.drop ((IntKind.i64.wrap ((b.D.length : Int) - 8)).toNat)))))) rfl (fun h6 => ?_) (fun h6 => ?_)
      ·
       replace hR := of_true h6 hR
       refine Awp.consP C ?_
       refine rvP C (sS (some true) eSeen []) ?_
       refine rvP C (.pv (.lit (.int .i64 100))) ?_
       refine rvc_nil ?_
       refine Awp.ret ?_
       subst hR
       exact ⟨.inl rfl, rfl⟩
      ·
       replace hR := of_false h6 hR
       refine Awp.skip ?_
       refine Awp.cons C (fun _ => .quiet) (by kernel_rfl) ?_
       refine rvP C (sS (some b.nil) (eI .u8) b.D) ?_
       refine rvP C (.pv (.lit (.int .i64 (IntKind.i64.wrap ((b.D.length : Int) - 8))))) ?_
       refine rvc_un (rexec_sliceS C (e := (eI .u8)) (D := b.D) 0 ((IntKind.i64.wrap ((b.D.length : Int) - 8)).toNat) rfl rfl rfl rfl rfl rfl rfl rfl rfl (by simp; omega) (by omega) (by omega) (b.D.take ((IntKind.i64.wrap ((b.D.length : Int) - 8)).toNat)) (by simp) ?_)
       refine rvc_un (rexec_callO hP C rfl rfl rfl rfl (rdNew_calls (Sl.mk b.nil (b.D.take ((IntKind.i64.wrap ((b.D.length : Int) - 8)).toNat))) (by simp; omega)) ?_)
       refine rvP C (.ptr 49 0) ?_
       refine rvc_nil ?_
       refine Awp.consP C ?_
       refine rvP C (sS (some true) eSeen []) ?_
       refine rvc_nil ?_
       refine Awp.seq ?_
       refine Awp.cons C (fun _ => .writer) (by kernel_rfl) ?_
       refine rvP C (.ptr 49 0) ?_
       obtain ⟨q0, hq_q0⟩ : ∃ q_, q_ = (rdIn (rdNew (Sl.mk b.nil (b.D.take ((IntKind.i64.wrap ((b.D.length : Int) - 8)).toNat)))) 1 6) := ⟨_, rfl⟩
       have hc_q0 := (rdIn_calls (rdNew (Sl.mk b.nil (b.D.take ((IntKind.i64.wrap ((b.D.length : Int) - 8)).toNat)))) 1 6 (rdNew_ok _ (by simp; omega)))
       first | rw [← hq_q0] at hR hc_q0 | (unfold pRead at hR; rw [← hq_q0] at hR hc_q0)
       have hf0_q0 := rdIn_ok (rdNew (Sl.mk b.nil (b.D.take ((IntKind.i64.wrap ((b.D.length : Int) - 8)).toNat)))) 1 6 (rdNew_ok _ (by simp; omega))
       rw [← hq_q0] at hf0_q0
       have hf1_q0 := rdIn_hi (rdNew (Sl.mk b.nil (b.D.take ((IntKind.i64.wrap ((b.D.length : Int) - 8)).toNat)))) 1 6 (by decide)
       rw [← hq_q0] at hf1_q0
       refine rvc_un (rexec_callM hP C (b := 49) rfl rfl rfl hc_q0 rfl rfl ?_)
       refine rvP C (.pv (.lit (.int .i64 0))) ?_
       refine rvc_nil ?_
       refine Awp.block ?_
       refine Awp.forR (σ := ((List Seen)) × Reader) (q0.2.toNat) (fun i v => [(9, .ptr 49 0), (10, grow 900 eSeen v.1), (51, .pv (.lit (.int .i64 q0.2))), (52, .pv (.lit (.int .i64 (i : Int))))]) (fun i v => (growH 900 eSeen v.1 ++ ([(49, .cells [sS (some v.2.b.nil) (eI .u8) v.2.b.D, .pv (.lit (.int .i64 v.2.at_)), .pv (.lit (.int .i64 v.2.err)), .pv (.lit (.bool v.2.made))])]))) [49, 900] (fun i v => (pRead_l0 (q0.2.toNat - i) i v.1 v.2 = R) ∧ (okR v.2 ∧ KB v.1) ∧ (v.1.length ≤ i)) ([], q0.1) ?_ ?_ (fun i v h7 hR => ?_)
       · exact ⟨hR, ⟨hf0_q0, (fun _ h => nomatch h)⟩, (by first | omega | (simp <;> omega))⟩
       · exact ⟨fun b => b, WeakerR.ofL (Ks := [49, 900]) hI ⟨⟨rfl, rfl⟩, ⟨rfl, rfl⟩, ⟨rfl, rfl⟩, ⟨rfl, rfl⟩, trivial⟩ (okH_grow (fun hne => absurd rfl hne) rfl rfl (okH_cons rfl rfl rfl rfl (okH_nil))) rfl⟩
       obtain ⟨l, vc⟩ := v
       obtain ⟨hR, hV, hi_l⟩ := hR
       replace hi_l : l.length ≤ i := hi_l
       by_cases h8 : l = []
       ·
        refine Awp.wordsR [(9, .ptr 49 0), (10, sS (some l.isEmpty) eSeen l), (51, .pv (.lit (.int .i64 q0.2))), (52, .pv (.lit (.int .i64 (i : Int))))] [(49, .cells [sS (some vc.b.nil) (eI .u8) vc.b.D, .pv (.lit (.int .i64 vc.at_)), .pv (.lit (.int .i64 vc.err)), .pv (.lit (.bool vc.made))])] [49] (WeakerR.ofL (Ks := [49]) hI ⟨⟨rfl, rfl⟩, ⟨(by exact grow_at_nil (b := 900) (e := eSeen) (l := l) rfl h8), rfl⟩, ⟨rfl, rfl⟩, ⟨rfl, rfl⟩, trivial⟩ (okH_cons (look_nil h8 rfl) rfl rfl rfl (okH_nil)) rfl) ?_
        refine Awp.consP C ?_
        refine rvP C (.pv (.lit (.bool (decide ((i : Int) < q0.2))))) ?_
        refine rvc_nil ?_
        refine Awp.seq ?_
        refine Awp.cond (b := (decide ((i : Int) < q0.2))) rfl (fun h9 => ?_) (fun h9 => ?_)
        ·
         have h10 : i < q0.2.toNat := by have := of_decide_eq_true h9; omega
         obtain ⟨k, h11⟩ : ∃ k, q0.2.toNat - i = k + 1 := ⟨q0.2.toNat - i - 1, by omega⟩
         rw [h11] at hR
         refine Awp.skip ?_
         refine Awp.seq ?_
         refine Awp.block ?_
         refine Awp.region C (fun _ => .writer) (by kernel_rfl) ?_
         refine rvP C (sS (some l.isEmpty) eSeen l) ?_
         refine rvP C (.ptr 49 0) ?_
         refine rvc_un (rexec_callM hP C (b := 49) rfl rfl rfl (rdNum_calls vc hV.1) rfl rfl ?_)
         refine rvc_un (rexec_call hP C rfl rfl rfl (unword_calls ((rdNum vc).2)) ?_)
         refine rvP C (.ptr 49 0) ?_
         refine rvc_un (rexec_callM hP C (b := 49) rfl rfl rfl (rdIn_calls ((rdNum vc).1) 1 1099511627776 (rdNum_ok _ hV.1)) rfl rfl ?_)
         refine rvP C (.agg [.pv (.lit (.int .u8 ((unword ((rdNum vc).2)) 0))), .pv (.lit (.int .u8 ((unword ((rdNum vc).2)) 1))), .pv (.lit (.int .u8 ((unword ((rdNum vc).2)) 2))), .pv (.lit (.int .u8 ((unword ((rdNum vc).2)) 3))), .pv (.lit (.int .u8 ((unword ((rdNum vc).2)) 4))), .pv (.lit (.int .u8 ((unword ((rdNum vc).2)) 5))), .pv (.lit (.int .u8 ((unword ((rdNum vc).2)) 6))), .pv (.lit (.int .u8 ((unword ((rdNum vc).2)) 7))), .pv (.lit (.int .i64 ((rdIn ((rdNum vc).1) 1 1099511627776).2)))]) ?_
         refine rvc_un (rexec_buildSliceF C eSeen [(Seen.mk (unword ((rdNum vc).2)) ((rdIn ((rdNum vc).1) 1 1099511627776).2))] rfl rfl rfl rfl rfl rfl rfl (by decide) rfl ?_)
         refine rvc_un (rexec_appendG C rfl rfl rfl rfl rfl rfl rfl rfl (fun _ h => by cases h) rfl (en := eSeen) (l := l) (D := [(Seen.mk (unword ((rdNum vc).2)) ((rdIn ((rdNum vc).1) 1 1099511627776).2))]) rfl rfl h8 (by rw [h8]; rfl) (by simp) (by have := wrapI ((b.D.length : Int) - 8); have := eq_of_bne_false h1; have := ne_of_beq_false h2; have := of_decide_eq_false h3; have := of_decide_eq_false h4; have := eq_of_bne_false h5; have := of_decide_eq_true h9; first | omega | (simp <;> omega)) (by decide) (nn := (l ++ [(Seen.mk (unword ((rdNum vc).2)) ((rdIn ((rdNum vc).1) 1 1099511627776).2))]).length) (by simp) ?_)
         refine rvP C (.sl 62 0 ((l ++ [(Seen.mk (unword ((rdNum vc).2)) ((rdIn ((rdNum vc).1) 1 1099511627776).2))]).length) 9 false) ?_
         refine rvc_nil ?_
         refine Awp.regionP C ?_
         refine rvP C (.pv (.lit (.int .i64 (IntKind.i64.wrap ((i : Int) + 1))))) ?_
         refine rvP C (.pv (.lit (.int .i64 (IntKind.i64.wrap ((i : Int) + 1))))) ?_
         refine rvc_nil ?_
         refine ⟨h10, ((l ++ [(Seen.mk (unword ((rdNum vc).2)) ((rdIn ((rdNum vc).1) 1 1099511627776).2))]), (rdIn ((rdNum vc).1) 1 1099511627776).1), ?_, ?_⟩
         · exact ⟨(by rw [show q0.2.toNat - (i + 1) = k by omega]; exact hR), ⟨(rdIn_ok _ _ _ (rdNum_ok _ hV.1)), (KB_snoc hV.2 (unword_B _))⟩, (by first | omega | (simp <;> omega))⟩
         · exact ⟨fun b => bif b == 900 then 62 else (fun b => b) b, WeakerR.ofL (Ks := [49, 900]) hI ⟨⟨rfl, rfl⟩, ⟨grow_to rfl rfl app_ne rfl rfl, grow_within rfl⟩, ⟨rfl, rfl⟩, ⟨lit_cast (wrap_i64 (by omega) (by omega)), rfl⟩, trivial⟩ (okH_grow (fun _ => rfl) rfl rfl (okH_cons rfl rfl rfl rfl (okH_nil))) rfl⟩
        ·
         rw [show q0.2.toNat - i = 0 by have := of_decide_eq_false h9; omega] at hR
         refine Awp.exit ?_
         refine Awp.seq ?_
         refine Awp.cons C (fun _ => .writer) (by kernel_rfl) ?_
         refine rvP C (.ptr 49 0) ?_
         refine rvc_un (rexec_callM hP C (b := 49) rfl rfl rfl (rdEnd_calls vc) rfl rfl ?_)
         refine rvP C (.pv (.lit (.bool ((rdEnd vc) != 0)))) ?_
         refine rvP C (.pv (.lit (.bool ((rdEnd vc) != 0)))) ?_
         refine rvc_case 67 ((rdEnd vc) != 0) rfl (fun h12 => ?_) (fun h12 => ?_)
         ·
          replace hR := of_true h12 hR
          refine rvS ?_
          refine rvS ?_
          refine rvS ?_
          refine rvP C (.pv (.lit (.bool true))) ?_
          refine rvc_nil ?_
          refine Awp.condT (b := true) rfl rfl ?_
          refine Awp.consP C ?_
          refine rvP C (sS (some true) eSeen []) ?_
          refine rvP C (.pv (.lit (.int .i64 100))) ?_
          refine rvc_nil ?_
          refine Awp.ret ?_
          subst hR
          exact ⟨.inl rfl, rfl⟩
         ·
          replace hR := of_false h12 hR
          refine rvO C (sS (some l.isEmpty) eSeen l) ?_
          refine rvc_open rfl rfl rfl (rexec_call hP C rfl rfl rfl (pRight_calls (Sl.mk l.isEmpty l) hV.2 (by show l.length ≤ 1000000; have := wrapI ((b.D.length : Int) - 8); have := eq_of_bne_false h1; have := ne_of_beq_false h2; have := of_decide_eq_false h3; have := of_decide_eq_false h4; have := eq_of_bne_false h5; have := of_decide_eq_false h9; have := eq_of_bne_false h12; omega)) ?_)
          refine rvO C (.pv (.lit (.bool ((pRight (Sl.mk l.isEmpty l)) != 0)))) ?_
          refine rvP C (.pv (.lit (.bool ((pRight (Sl.mk l.isEmpty l)) != 0)))) ?_
          refine rvc_nil ?_
          refine Awp.cond (b := ((pRight (Sl.mk l.isEmpty l)) != 0)) rfl (fun h13 => ?_) (fun h13 => ?_)
          ·
           replace hR := of_true h13 hR
           refine Awp.consP C ?_
           refine rvP C (sS (some true) eSeen []) ?_
           refine rvP C (.pv (.lit (.int .i64 100))) ?_
           refine rvc_nil ?_
           refine Awp.ret ?_
           subst hR
           exact ⟨.inl rfl, rfl⟩
          ·
           replace hR := of_false h13 hR
           refine Awp.skip ?_
           refine Awp.consP C ?_
           refine rvP C (sS (some l.isEmpty) eSeen l) ?_
           refine rvP C (sS (some l.isEmpty) eSeen l) ?_
           refine rvP C (.pv (.lit (.int .i64 0))) ?_
           refine rvc_nil ?_
           refine Awp.ret ?_
           subst hR
           exact ⟨.inl rfl, rfl⟩
       ·
        refine Awp.wordsR [(9, .ptr 49 0), (10, .sl 900 0 l.length 9 false), (51, .pv (.lit (.int .i64 q0.2))), (52, .pv (.lit (.int .i64 (i : Int))))] [(900, .cells (encC eSeen l)), (49, .cells [sS (some vc.b.nil) (eI .u8) vc.b.D, .pv (.lit (.int .i64 vc.at_)), .pv (.lit (.int .i64 vc.err)), .pv (.lit (.bool vc.made))])] [49, 900] (WeakerR.ofL (Ks := [49, 900]) hI ⟨⟨rfl, rfl⟩, ⟨(by exact grow_at_cons (b := 900) (b' := 900) (e := eSeen) (l := l) rfl h8 rfl rfl rfl), rfl⟩, ⟨rfl, rfl⟩, ⟨rfl, rfl⟩, trivial⟩ (okH_list (look_cons h8 rfl) rfl rfl (okH_cons (look_cons h8 rfl) rfl rfl rfl (okH_nil))) rfl) ?_
        refine Awp.consP C ?_
        refine rvP C (.pv (.lit (.bool (decide ((i : Int) < q0.2))))) ?_
        refine rvc_nil ?_
        refine Awp.seq ?_
        refine Awp.cond (b := (decide ((i : Int) < q0.2))) rfl (fun h14 => ?_) (fun h14 => ?_)
        ·
         have h15 : i < q0.2.toNat := by have := of_decide_eq_true h14; omega
         obtain ⟨k, h16⟩ : ∃ k, q0.2.toNat - i = k + 1 := ⟨q0.2.toNat - i - 1, by omega⟩
         rw [h16] at hR
         refine Awp.skip ?_
         refine Awp.seq ?_
         refine Awp.block ?_
         refine Awp.region C (fun _ => .writer) (by kernel_rfl) ?_
         refine rvP C (.sl 900 0 l.length 9 false) ?_
         refine rvP C (.ptr 49 0) ?_
         refine rvc_un (rexec_callM hP C (b := 49) rfl rfl rfl (rdNum_calls vc hV.1) rfl rfl ?_)
         refine rvc_un (rexec_call hP C rfl rfl rfl (unword_calls ((rdNum vc).2)) ?_)
         refine rvP C (.ptr 49 0) ?_
         refine rvc_un (rexec_callM hP C (b := 49) rfl rfl rfl (rdIn_calls ((rdNum vc).1) 1 1099511627776 (rdNum_ok _ hV.1)) rfl rfl ?_)
         refine rvP C (.agg [.pv (.lit (.int .u8 ((unword ((rdNum vc).2)) 0))), .pv (.lit (.int .u8 ((unword ((rdNum vc).2)) 1))), .pv (.lit (.int .u8 ((unword ((rdNum vc).2)) 2))), .pv (.lit (.int .u8 ((unword ((rdNum vc).2)) 3))), .pv (.lit (.int .u8 ((unword ((rdNum vc).2)) 4))), .pv (.lit (.int .u8 ((unword ((rdNum vc).2)) 5))), .pv (.lit (.int .u8 ((unword ((rdNum vc).2)) 6))), .pv (.lit (.int .u8 ((unword ((rdNum vc).2)) 7))), .pv (.lit (.int .i64 ((rdIn ((rdNum vc).1) 1 1099511627776).2)))]) ?_
         refine rvc_un (rexec_buildSliceF C eSeen [(Seen.mk (unword ((rdNum vc).2)) ((rdIn ((rdNum vc).1) 1 1099511627776).2))] rfl rfl rfl rfl rfl rfl rfl (by decide) rfl ?_)
         refine rvc_un (rexec_append C rfl rfl rfl rfl rfl rfl rfl rfl (fun _ h => by cases h) rfl (en := eSeen) (D0 := l) (D := [(Seen.mk (unword ((rdNum vc).2)) ((rdIn ((rdNum vc).1) 1 1099511627776).2))]) rfl rfl rfl rfl (by have := wrapI ((b.D.length : Int) - 8); have := eq_of_bne_false h1; have := ne_of_beq_false h2; have := of_decide_eq_false h3; have := of_decide_eq_false h4; have := eq_of_bne_false h5; have := of_decide_eq_true h14; first | omega | (simp <;> omega)) (by decide) (nn := (l ++ [(Seen.mk (unword ((rdNum vc).2)) ((rdIn ((rdNum vc).1) 1 1099511627776).2))]).length) (by simp) ?_)
         refine rvP C (.sl 62 0 ((l ++ [(Seen.mk (unword ((rdNum vc).2)) ((rdIn ((rdNum vc).1) 1 1099511627776).2))]).length) 9 false) ?_
         refine rvc_nil ?_
         refine Awp.regionP C ?_
         refine rvP C (.pv (.lit (.int .i64 (IntKind.i64.wrap ((i : Int) + 1))))) ?_
         refine rvP C (.pv (.lit (.int .i64 (IntKind.i64.wrap ((i : Int) + 1))))) ?_
         refine rvc_nil ?_
         refine ⟨h15, ((l ++ [(Seen.mk (unword ((rdNum vc).2)) ((rdIn ((rdNum vc).1) 1 1099511627776).2))]), (rdIn ((rdNum vc).1) 1 1099511627776).1), ?_, ?_⟩
         · exact ⟨(by rw [show q0.2.toNat - (i + 1) = k by omega]; exact hR), ⟨(rdIn_ok _ _ _ (rdNum_ok _ hV.1)), (KB_snoc hV.2 (unword_B _))⟩, (by first | omega | (simp <;> omega))⟩
         · exact ⟨fun b => bif b == 900 then 62 else (fun b => b) b, WeakerR.ofL (Ks := [49, 900]) hI ⟨⟨rfl, rfl⟩, ⟨grow_to rfl rfl app_ne rfl rfl, grow_within rfl⟩, ⟨rfl, rfl⟩, ⟨lit_cast (wrap_i64 (by omega) (by omega)), rfl⟩, trivial⟩ (okH_grow (fun _ => rfl) rfl rfl (okH_cons rfl rfl rfl rfl (okH_nil))) rfl⟩
        ·
         rw [show q0.2.toNat - i = 0 by have := of_decide_eq_false h14; omega] at hR
         refine Awp.exit ?_
         refine Awp.seq ?_
         refine Awp.freezeW 900 (encL eSeen l) ?_ [(9, .ptr 49 0), (10, sS (some l.isEmpty) eSeen l)] [(49, .cells [sS (some vc.b.nil) (eI .u8) vc.b.D, .pv (.lit (.int .i64 vc.at_)), .pv (.lit (.int .i64 vc.err)), .pv (.lit (.bool vc.made))])] ?_ ?_ ?_
         · rfl
         · exact ⟨⟨_, rfl, .inl (.inl rfl)⟩, ⟨_, rfl, .inl (.inr ⟨_, _, _, rfl, by rw [ne_isEmpty h8]; rfl⟩)⟩, trivial⟩
         · exact ⟨⟨(by show (49 : Nat) ≠ 900; decide), .inl rfl⟩, trivial⟩
         refine Awp.cons C (fun _ => .writer) (by kernel_rfl) ?_
         refine rvP C (.ptr 49 0) ?_
         refine rvc_un (rexec_callM hP C (b := 49) rfl rfl rfl (rdEnd_calls vc) rfl rfl ?_)
         refine rvP C (.pv (.lit (.bool ((rdEnd vc) != 0)))) ?_
         refine rvP C (.pv (.lit (.bool ((rdEnd vc) != 0)))) ?_
         refine rvc_case 67 ((rdEnd vc) != 0) rfl (fun h17 => ?_) (fun h17 => ?_)
         ·
          replace hR := of_true h17 hR
          refine rvS ?_
          refine rvS ?_
          refine rvS ?_
          refine rvP C (.pv (.lit (.bool true))) ?_
          refine rvc_nil ?_
          refine Awp.condT (b := true) rfl rfl ?_
          refine Awp.consP C ?_
          refine rvP C (sS (some true) eSeen []) ?_
          refine rvP C (.pv (.lit (.int .i64 100))) ?_
          refine rvc_nil ?_
          refine Awp.ret ?_
          subst hR
          exact ⟨.inl rfl, rfl⟩
         ·
          replace hR := of_false h17 hR
          refine rvO C (sS (some l.isEmpty) eSeen l) ?_
          refine rvc_open rfl rfl rfl (rexec_call hP C rfl rfl rfl (pRight_calls (Sl.mk l.isEmpty l) hV.2 (by show l.length ≤ 1000000; have := wrapI ((b.D.length : Int) - 8); have := eq_of_bne_false h1; have := ne_of_beq_false h2; have := of_decide_eq_false h3; have := of_decide_eq_false h4; have := eq_of_bne_false h5; have := of_decide_eq_false h14; have := eq_of_bne_false h17; omega)) ?_)
          refine rvO C (.pv (.lit (.bool ((pRight (Sl.mk l.isEmpty l)) != 0)))) ?_
          refine rvP C (.pv (.lit (.bool ((pRight (Sl.mk l.isEmpty l)) != 0)))) ?_
          refine rvc_nil ?_
          refine Awp.cond (b := ((pRight (Sl.mk l.isEmpty l)) != 0)) rfl (fun h18 => ?_) (fun h18 => ?_)
          ·
           replace hR := of_true h18 hR
           refine Awp.consP C ?_
           refine rvP C (sS (some true) eSeen []) ?_
           refine rvP C (.pv (.lit (.int .i64 100))) ?_
           refine rvc_nil ?_
           refine Awp.ret ?_
           subst hR
           exact ⟨.inl rfl, rfl⟩
          ·
           replace hR := of_false h18 hR
           refine Awp.skip ?_
           refine Awp.consP C ?_
           refine rvP C (sS (some l.isEmpty) eSeen l) ?_
           refine rvP C (sS (some l.isEmpty) eSeen l) ?_
           refine rvP C (.pv (.lit (.int .i64 0))) ?_
           refine rvc_nil ?_
           refine Awp.ret ?_
           subst hR
           exact ⟨.inl rfl, rfl⟩
end Go.Proofs.YthnghkkbnhjlgaaDoor
/- The reference: passes read. No conditions. -/
namespace Go.Proofs.YthnghkkbnhjlgaaDoor
open Go.Am
end Go.Proofs.YthnghkkbnhjlgaaDoor
/- What a pass says, in plain words. No conditions. -/
namespace Go.Proofs.YthnghkkbnhjlgaaDoor
open Go.Am
theorem u8_inj : ∀ {A B : List Int}, B8 A → B8 B → A.map u8 = B.map u8 → A = B
  | [], [], _, _, _ => rfl
  | [], _ :: _, _, _, h => by simp at h
  | _ :: _, [], _, _, h => by simp at h
  | a :: x, b :: y, hA, hB, h => by
    obtain ⟨h1, h2⟩ := hA.cons
    obtain ⟨h3, h4⟩ := hB.cons
    simp only [List.map_cons, List.cons.injEq] at h
    rw [(u8_eq h1 h3).1 h.1, u8_inj h2 h4 h.2]
theorem str_eq {A B : List Int} (hA : B8 A) (hB : B8 B) : ((strOf A).toList == (strOf B).toList) = decide (A = B) := by
  rw [ByteArray.toList_eq, ByteArray.toList_eq, strOf_L, strOf_L, Bool.eq_iff_iff, beq_iff_eq, decide_eq_true_eq]
  exact ⟨u8_inj hA hB, fun h => by rw [h]⟩
theorem rd_unword (w v : Int) : rd (Seen.mk (unword w) v) = rd (Seen.mk (unw w) v) := by
  show (kL (unword w), v) = (kL (unw w), v)
  rw [kL_unword]
end Go.Proofs.YthnghkkbnhjlgaaDoor
/- Passes made and read, in plain words. No conditions. -/
namespace Go.Proofs.YthnghkkbnhjlgaaDoor
open Go.Am
/-- The seal of bytes. -/
def sealL (key : Sl Int) (D : List Int) : List Int := tbF (digF key (Sl.mk false D)) 8 0
theorem markR_D (key : Sl Int) (D : List Int) : (markR key (Sl.mk false D)).1.D = sealL key D := by
  have h := fun i hi => sh_byte (fun t => digF_R8 key (Sl.mk false D) t) i hi
  show [_, _, _, _, _, _, _, _] = [_, _, _, _, _, _, _, _]
  simp only [List.cons.injEq, and_true]
  exact ⟨h 0 (by decide), h 1 (by decide), h 2 (by decide), h 3 (by decide), h 4 (by decide), h 5 (by decide), h 6 (by decide), h 7 (by decide)⟩
theorem mark_D (key b : Sl Int) : (mark key b).1.D = sealL key b.D := markR_D key b.D
theorem sealL_len (key : Sl Int) (D : List Int) : (sealL key D).length = 8 := rfl
theorem sealL_B8 (key : Sl Int) (D : List Int) : B8 (sealL key D) := fun x hx => by
  obtain ⟨i, _, _, rfl⟩ := mem_tbF hx
  exact digF_R8 key (Sl.mk false D) i
/-- The pass of what was seen. -/
def passL (key : Sl Int) (l : List Seen) : List Int := encB l ++ sealL key (encB l)
def mkSpec (key : Sl Int) (l : Sl Seen) : Sl Int × Int :=
  bif (pRight l) != 0 then (Sl.mk true [], pRight l) else bif decide (key.D.length = 16) then (bif l.D.isEmpty then (Sl.mk true [], 0) else (Sl.mk false (passL key l.D), 0)) else (Sl.mk true [], 1)
theorem isEmpty_len {α : Type} (l : List α) : ((l.length : Int) == 0) = l.isEmpty := by
  cases l with
  | nil => rfl
  | cons x xs => simp; omega
theorem pMake_eq (key : Sl Int) (l : Sl Seen) : pMake key l = mkSpec key l := by
  unfold pMake mkSpec
  rw [isEmpty_len]
  have h2 : (markR key (Sl.mk false (bodyO l))).2 = if key.D.length = 16 then 0 else 1 := rfl
  rw [h2, markR_D, bodyO_eq]
  cases (pRight l != 0)
  · by_cases h : key.D.length = 16
    · rw [if_pos h, decide_eq_true h]
      cases l.D.isEmpty <;> rfl
    · rw [if_neg h, decide_eq_false h]; rfl
  · rfl
end Go.Proofs.YthnghkkbnhjlgaaDoor
/- Passes read, in plain words: the library's and the document's. No conditions. -/
namespace Go.Proofs.YthnghkkbnhjlgaaDoor
open Go.Am
def badR : Sl Seen × Int := (Sl.mk true [], 100)
/-- What a pass's reader hands back. -/
def pfin (L : List Seen) : Sl Seen × Int := bif (pRight (Sl.mk L.isEmpty L)) != 0 then badR else (Sl.mk L.isEmpty L, 0)
theorem pRead_l0_err : ∀ (k i : Nat) (l : List Seen) (vc : Reader), rdErr vc ≠ 0 → pRead_l0 k i l vc = badR
  | 0, i, l, vc, h => by
    unfold pRead_l0
    rw [rdEnd_err h]; rfl
  | k + 1, i, l, vc, h => by
    unfold pRead_l0
    have e : (rdErr vc != 0) = true := by simpa using h
    rw [rdNum_err vc e]
    exact pRead_l0_err k (i + 1) _ _ (rdIn_err _ _ h)
theorem pRead_l0_at {D : List Int} (hD : B8 D) (hl : D.length ≤ 1000000) : ∀ (k i : Nat) (l : List Seen) (vc : Reader) (rest : List Int), RdAt vc D rest →
    (∀ xs, decS k rest = some (xs, []) → ∃ ys : List Seen, ys.map rd = xs.map rd ∧ KB ys ∧ pRead_l0 k i l vc = pfin (l ++ ys)) ∧ ((∀ xs, decS k rest ≠ some (xs, [])) → pRead_l0 k i l vc = badR)
  | 0, i, l, vc, rest, h => by
    have he := rdEnd_at h
    unfold pRead_l0 decS
    rw [he]
    cases rest with
    | nil =>
      refine ⟨fun xs hx => ⟨[], ?_, (fun _ h => nomatch h), ?_⟩, fun hno => absurd rfl (hno [])⟩
      · injection hx with hx; injection hx with hx _; rw [← hx]
      · rw [List.append_nil]; rfl
    | cons y ys =>
      exact ⟨fun xs hx => (by injection hx with hx; injection hx with _ hx; cases hx), fun _ => rfl⟩
  | k + 1, i, l, vc, rest, h => by
    have h1 := rdNum_at h hD hl
    have hsub : ∀ x ∈ rest, 0 ≤ x ∧ x < 256 := fun x hx => hD x (h.suf.subset hx)
    unfold pRead_l0 decS
    cases e1 : vd 0 rest with
    | none =>
      rw [e1] at h1
      exact ⟨fun xs hx => (by cases hx), fun _ => pRead_l0_err k (i + 1) _ _ (rdIn_err _ _ h1)⟩
    | some q =>
      obtain ⟨w, r1⟩ := q
      rw [e1] at h1
      dsimp only at h1 ⊢
      have h2 := rdIn_at 1 1099511627776 h1.1 hD hl
      cases e2 : rin 1 1099511627776 r1 with
      | none =>
        rw [e2] at h2
        exact ⟨fun xs hx => (by cases hx), fun _ => pRead_l0_err k (i + 1) _ _ h2⟩
      | some q =>
        obtain ⟨v, r2⟩ := q
        rw [e2] at h2
        dsimp only at h2 ⊢
        rw [h1.2, h2.2]
        obtain ⟨ih1, ih2⟩ := pRead_l0_at hD hl k (i + 1) (l ++ [Seen.mk (unword (w : Int)) (v : Int)]) _ r2 h2.1
        cases e3 : decS k r2 with
        | none =>
          rw [e3] at ih2
          exact ⟨fun xs hx => (by cases hx), fun _ => ih2 fun xs hx => (by cases hx)⟩
        | some q =>
          obtain ⟨zs, r3⟩ := q
          rw [e3] at ih1 ih2
          dsimp only
          refine ⟨fun xs hx => ?_, fun hno => ih2 fun xs hx => ?_⟩
          · injection hx with hx; injection hx with hx hr
            subst hr
            obtain ⟨ys, p1, p2, p3⟩ := ih1 zs rfl
            refine ⟨Seen.mk (unword (w : Int)) (v : Int) :: ys, ?_, ?_, ?_⟩
            · rw [← hx, List.map_cons, List.map_cons, p1, rd_unword]
            · intro x hx'
              rcases List.mem_cons.1 hx' with rfl | hx'
              · exact unword_B _
              · exact p2 x hx'
            · rw [p3, List.append_assoc]; rfl
          · injection hx with hx; injection hx with _ hr
            subst hr
            exact hno _ rfl
/-- What bytes without their seal say. -/
def parse (D : List Int) : Option (List Seen) := match rin 1 6 D with
  | none => none
  | some (n, r) => match decS n r with
    | some (xs, []) => some xs
    | _ => none
theorem rdNew_at (b : Sl Int) : RdAt (rdNew b) b.D b.D := ⟨rfl, rfl, rfl, List.suffix_refl _, by show (0 : Int) = _; omega⟩
theorem pRead_parse (b : Sl Int) (hB : B8 b.D) (hl : b.D.length ≤ 1000000) :
    (∀ xs, parse b.D = some xs → ∃ ys : List Seen, ys.map rd = xs.map rd ∧ KB ys ∧ pRead_l0 (rdIn (rdNew b) 1 6).2.toNat 0 [] (rdIn (rdNew b) 1 6).1 = pfin ys) ∧ (parse b.D = none → pRead_l0 (rdIn (rdNew b) 1 6).2.toNat 0 [] (rdIn (rdNew b) 1 6).1 = badR) := by
  have h1 := rdIn_at 1 6 (rdNew_at b) hB hl
  unfold parse
  cases e1 : rin 1 6 b.D with
  | none =>
    rw [e1] at h1
    exact ⟨fun xs hx => (by cases hx), fun _ => pRead_l0_err _ _ _ _ h1⟩
  | some q =>
    obtain ⟨n, r⟩ := q
    rw [e1] at h1
    dsimp only at h1 ⊢
    rw [h1.2, Int.toNat_natCast]
    obtain ⟨i1, i2⟩ := pRead_l0_at hB hl n 0 [] _ r h1.1
    cases e2 : decS n r with
    | none =>
      rw [e2] at i2
      exact ⟨fun xs hx => (by cases hx), fun _ => i2 fun xs hx => (by cases hx)⟩
    | some q =>
      obtain ⟨zs, r3⟩ := q
      rw [e2] at i1 i2
      cases r3 with
      | nil =>
        refine ⟨fun xs hx => ?_, fun hx => (by cases hx)⟩
        injection hx with hx
        subst hx
        exact i1 zs rfl
      | cons y ys => exact ⟨fun xs hx => (by cases hx), fun _ => i2 fun xs hx => (by injection hx with hx; injection hx with _ hx; cases hx)⟩
end Go.Proofs.YthnghkkbnhjlgaaDoor
/- What a pass says, in plain words: both the same, and what was seen comes back. No conditions. -/
namespace Go.Proofs.YthnghkkbnhjlgaaDoor
open Go.Am
theorem parse_enc {D : List Int} {xs : List Seen} (hD : B8 D) (h : parse D = some xs) : D = encB xs ∧ (1 ≤ xs.length ∧ xs.length ≤ 6) ∧ KB xs := by
  unfold parse at h
  cases e1 : rin 1 6 D with
  | none => rw [e1] at h; cases h
  | some q =>
    obtain ⟨n, r⟩ := q
    rw [e1] at h
    dsimp only at h
    obtain ⟨g1, _, g3, g4⟩ := rin_some e1
    obtain ⟨f1, _, _⟩ := vd_vb 0 D n r hD g1
    cases e2 : decS n r with
    | none => rw [e2] at h; cases h
    | some q =>
      obtain ⟨zs, r3⟩ := q
      rw [e2] at h
      cases r3 with
      | cons y ys => cases h
      | nil =>
        injection h with h
        subst h
        obtain ⟨i1, i2, i3, _, _⟩ := enc_decS n r zs [] (fun x hx => hD x (by rw [f1]; simp [hx])) e2
        refine ⟨?_, by omega, i3⟩
        unfold encB
        have e : (IntKind.u64.wrap (zs.length : Int)).toNat = n := by rw [wrapU]; omega
        rw [e]
        rw [List.append_nil] at i1
        rw [← i1]; exact f1
theorem parse_encB {l : List Seen} (h1 : 1 ≤ l.length) (h6 : l.length ≤ 6) (hv : ∀ x ∈ l, 1 ≤ x.ver ∧ x.ver ≤ 1099511627776) : parse (encB l) = some (l.map back) := by
  have e : (IntKind.u64.wrap (l.length : Int)).toNat = l.length := by rw [wrapU]; omega
  have e1 : vd 0 (encB l) = some (l.length, encS l) := by
    unfold encB
    rw [e]
    exact vb_vd _ 0 _ (by omega) (fun q => absurd q (Nat.lt_irrefl 0))
  have e2 : rin 1 6 (encB l) = some (l.length, encS l) := by
    unfold rin
    rw [e1]
    dsimp only
    rw [if_pos (by omega)]
  have e3 := decS_enc l [] hv
  rw [List.append_nil] at e3
  unfold parse
  rw [e2]
  dsimp only
  rw [e3]
theorem back_rd : ∀ {l : List Seen}, KB l → (l.map back).map rd = l.map rd
  | [], _ => rfl
  | x :: xs, h => by
    obtain ⟨h1, h2⟩ := h.cons
    rw [List.map_cons, List.map_cons, List.map_cons, back_rd h2]
    congr 1
    show (kL (unw (word x.key)), x.ver) = (kL x.key, x.ver)
    rw [unw_word h1]
/-- Bytes, cut ahead of their seal. -/
def cutB (b : Sl Int) : Sl Int := Sl.mk b.nil (b.D.take (b.D.length - 8))
def cutT (b : Sl Int) : List Int := b.D.drop (b.D.length - 8)
theorem cutB_B8 {b : Sl Int} (h : B8 b.D) : B8 (cutB b).D := fun x hx => h x (List.mem_of_mem_take hx)
theorem cutT_B8 {b : Sl Int} (h : B8 b.D) : B8 (cutT b) := fun x hx => h x (List.mem_of_mem_drop hx)
theorem wrap8c {n : Nat} (h : n ≤ 1000000) (h8 : 8 ≤ n) : (IntKind.i64.wrap ((n : Int) - 8)).toNat = n - 8 := by
  rw [wrapP (by omega)]; omega
/-- May the bytes be looked at? -/
def lookR (key b : Sl Int) : Option (Sl Seen × Int) := if key.D.length ≠ 16 then some (Sl.mk true [], 1) else if b.D = [] then some (Sl.mk true [], 0) else if 120 < b.D.length ∨ b.D.length < 8 then some badR else none
theorem look_chain {key b : Sl Int} (S : Sl Seen × Int) : (bif ((key.D.length : Int) != 16) then (Sl.mk true [], 1) else (bif ((b.D.length : Int) == 0) then (Sl.mk true [], 0) else (bif (decide ((b.D.length : Int) > 120)) then badR else (bif (decide ((b.D.length : Int) < 8)) then badR else S)))) = match lookR key b with
    | some r => r
    | none => S := by
  have e16 : ((key.D.length : Int) != 16) = !decide (key.D.length = 16) := by
    rw [Bool.eq_iff_iff]; simp; omega
  rw [e16, isEmpty_len]
  by_cases h : key.D.length = 16
  · by_cases hb : b.D = []
    · have e : lookR key b = some (Sl.mk true [], 0) := by unfold lookR; rw [if_neg (fun q => q h), if_pos hb]
      rw [e, decide_eq_true h, hb]; rfl
    · by_cases hn : 120 < b.D.length ∨ b.D.length < 8
      · have e : lookR key b = some badR := by unfold lookR; rw [if_neg (fun q => q h), if_neg hb, if_pos hn]
        rw [e, decide_eq_true h, show b.D.isEmpty = false by simpa using hb]
        by_cases h1 : 120 < b.D.length
        · rw [decide_eq_true (show (b.D.length : Int) > 120 by omega)]; rfl
        · rw [decide_eq_false (show ¬ (b.D.length : Int) > 120 by omega), decide_eq_true (show (b.D.length : Int) < 8 by omega)]; rfl
      · have e : lookR key b = none := by unfold lookR; rw [if_neg (fun q => q h), if_neg hb, if_neg hn]
        rw [e, decide_eq_true h, show b.D.isEmpty = false by simpa using hb, decide_eq_false (show ¬ (b.D.length : Int) > 120 by omega), decide_eq_false (show ¬ (b.D.length : Int) < 8 by omega)]; rfl
  · have e : lookR key b = some (Sl.mk true [], 1) := by unfold lookR; rw [if_pos h]
    rw [e, decide_eq_false h]; rfl
theorem lookR_none {key b : Sl Int} (h : lookR key b = none) : key.D.length = 16 ∧ b.D ≠ [] ∧ b.D.length ≤ 120 ∧ 8 ≤ b.D.length := by
  unfold lookR at h
  split at h
  · cases h
  · split at h
    · cases h
    · split at h
      · cases h
      · rename_i h1 h2 h3
        refine ⟨Classical.byContradiction h1, h2, ?_, ?_⟩ <;> omega
theorem pRead_eq {key b : Sl Int} (hB : B8 b.D) : pRead key b = match lookR key b with
    | some r => r
    | none => if sealL key (cutB b).D = cutT b then pRead_l0 (rdIn (rdNew (cutB b)) 1 6).2.toNat 0 [] (rdIn (rdNew (cutB b)) 1 6).1 else badR := by
  unfold pRead
  refine (look_chain _).trans ?_
  cases e : lookR key b with
  | some r => rfl
  | none =>
    obtain ⟨k16, hne, h120, h8⟩ := lookR_none e
    dsimp only
    rw [wrap8c (by omega) (by omega)]
    have e1 : (mark key (Sl.mk b.nil (b.D.take (b.D.length - 8)))).2 = if key.D.length = 16 then 0 else 1 := rfl
    have e2 : eqBytes (mark key (Sl.mk b.nil (b.D.take (b.D.length - 8)))).1 (Sl.mk b.nil (b.D.drop (b.D.length - 8))) = decide (sealL key (cutB b).D = cutT b) := by
      unfold eqBytes
      rw [mark_D]
      exact str_eq (sealL_B8 _ _) (cutT_B8 hB)
    rw [e1, if_pos k16, e2]
    show (bif !decide (sealL key (cutB b).D = cutT b) then badR else pRead_l0 (rdIn (rdNew (cutB b)) 1 6).2.toNat 0 [] (rdIn (rdNew (cutB b)) 1 6).1) = _
    generalize pRead_l0 (rdIn (rdNew (cutB b)) 1 6).2.toNat 0 [] (rdIn (rdNew (cutB b)) 1 6).1 = X
    by_cases hs : sealL key (cutB b).D = cutT b
    · rw [decide_eq_true hs, if_pos hs]; rfl
    · rw [decide_eq_false hs, if_neg hs]; rfl
theorem passL_B8 (key : Sl Int) (l : List Seen) : B8 (passL key l) := fun x hx => by
  rcases List.mem_append.1 hx with hx | hx
  · exact encB_B8 l x hx
  · exact sealL_B8 _ _ x hx
end Go.Proofs.YthnghkkbnhjlgaaDoor
/- What was seen comes back out of its pass. No conditions. -/
namespace Go.Proofs.YthnghkkbnhjlgaaDoor
open Go.Am
theorem pfin_len {ys : List Seen} (hk : KB ys) (hl : ys.length ≤ 1000000) : (pfin ys).1.D.length ≤ 6 := by
  unfold pfin
  cases e : (pRight (Sl.mk ys.isEmpty ys) != 0)
  · have e0 : pRight (Sl.mk ys.isEmpty ys) = 0 := by simpa using e
    exact ((pRight_zero (l := Sl.mk ys.isEmpty ys) hk hl).1 e0).1
  · exact Nat.zero_le _
theorem pRead_len {key b : Sl Int} (hB : B8 b.D) : (pRead key b).1.D.length ≤ 6 := by
  rw [pRead_eq hB]
  cases e : lookR key b with
  | some r =>
    unfold lookR at e
    dsimp only
    split at e
    · injection e with e; rw [← e]; exact Nat.zero_le _
    · split at e
      · injection e with e; rw [← e]; exact Nat.zero_le _
      · split at e
        · injection e with e; rw [← e]; exact Nat.zero_le _
        · cases e
  | none =>
    obtain ⟨k16, hne, h120, h8⟩ := lookR_none e
    have hcl : (cutB b).D.length ≤ 1000000 := by
      show (b.D.take _).length ≤ _
      rw [List.length_take]; omega
    have hp := pRead_parse (cutB b) (cutB_B8 hB) hcl
    dsimp only
    split
    · cases ep : parse (cutB b).D with
      | none => rw [hp.2 ep]; exact Nat.zero_le _
      | some xs =>
        obtain ⟨ys, p1, p2, p3⟩ := hp.1 xs ep
        obtain ⟨c1, c2, c3⟩ := parse_enc (cutB_B8 hB) ep
        rw [p3]
        exact pfin_len p2 (by rw [len_rd p1]; omega)
    · exact Nat.zero_le _
theorem make_B8 (key : Sl Int) (l : Sl Seen) : B8 (pMake key l).1.D := by
  rw [pMake_eq]
  unfold mkSpec
  cases (pRight l != 0)
  · cases decide (key.D.length = 16)
    · exact fun x (h : x ∈ ([] : List Int)) => nomatch h
    · cases l.D.isEmpty
      · exact passL_B8 key l.D
      · exact fun x (h : x ∈ ([] : List Int)) => nomatch h
  · exact fun x (h : x ∈ ([] : List Int)) => nomatch h
theorem vb_len_le : ∀ (k n : Nat), n < 128 ^ (k + 1) → (vb n).length ≤ k + 1
  | 0, n, h => by rw [vb_lt (by simpa using h)]; exact Nat.le_refl _
  | k + 1, n, h => by
    rcases Nat.lt_or_ge n 128 with h1 | h1
    · rw [vb_lt h1]; show 1 ≤ _; omega
    · rw [vb_ge h1]
      have : n / 128 < 128 ^ (k + 1) := Nat.div_lt_of_lt_mul (by rw [Nat.pow_succ, Nat.mul_comm] at h; exact h)
      have := vb_len_le k (n / 128) this
      show (vb (n / 128)).length + 1 ≤ _
      omega
theorem encS_len16 : ∀ {l : List Seen}, (∀ x ∈ l, 1 ≤ x.ver ∧ x.ver ≤ 1099511627776) → (encS l).length ≤ 16 * l.length
  | [], _ => Nat.le_refl _
  | x :: xs, h => by
    have hx := h x (by simp)
    have h1 := vb_len (n := (word x.key).toNat) (by have := (word_ok x.key); omega)
    have e : IntKind.u64.wrap x.ver = x.ver := by rw [wrapU]; omega
    have hp : (128 : Nat) ^ (5 + 1) = 4398046511104 := by decide
    have h2 := vb_len_le 5 x.ver.toNat (by omega)
    have := encS_len16 (l := xs) fun y hy => h y (by simp [hy])
    unfold encS
    rw [e, List.length_append, List.length_append, List.length_cons]; omega
theorem encB_len6 {l : List Seen} (h6 : l.length ≤ 6) (hv : ∀ x ∈ l, 1 ≤ x.ver ∧ x.ver ≤ 1099511627776) : (encB l).length ≤ 97 := by
  have := encS_len16 hv
  have e : (IntKind.u64.wrap (l.length : Int)).toNat = l.length := by rw [wrapU]; omega
  unfold encB
  rw [e, vb_lt (by omega)]
  show (encS l).length + 1 ≤ _
  omega
theorem passL_cut (key : Sl Int) (l : List Seen) : (cutB (Sl.mk false (passL key l))).D = encB l ∧ cutT (Sl.mk false (passL key l)) = sealL key (encB l) := by
  have hl : (passL key l).length - 8 = (encB l).length := by
    unfold passL
    rw [List.length_append, sealL_len]; omega
  constructor
  · show (passL key l).take ((passL key l).length - 8) = _
    rw [hl]; exact List.take_left
  · show (passL key l).drop ((passL key l).length - 8) = _
    rw [hl]; exact List.drop_left
theorem pass_back {key : Sl Int} {l : Sl Seen} (hk : key.D.length = 16) (hl : KB l.D) (hl1 : l.D.length ≤ 1000000) (h0 : pRight l = 0) :
    (pMake key l).2 = 0 ∧ (pRead key (pMake key l).1).2 = 0 ∧ (pRead key (pMake key l).1).1.D.map rd = l.D.map rd ∧ (pMake key l).1.D.length ≤ 120 ∧ (pMake key l).1.D.isEmpty = l.D.isEmpty ∧ B8 (pMake key l).1.D := by
  obtain ⟨h6, hr⟩ := (pRight_zero hl hl1).1 h0
  rw [pMake_eq]
  unfold mkSpec
  rw [show (pRight l != 0) = false by simpa using h0, decide_eq_true hk, cond_false, cond_true]
  cases he : l.D.isEmpty
  · rw [cond_false]
    dsimp only
    have hv : ∀ x ∈ l.D, 1 ≤ x.ver ∧ x.ver ≤ 1099511627776 := fun x hx => by
      have := ver_ok (rt_mem hr x hx)
      omega
    have h1 : 1 ≤ l.D.length := by
      cases hD : l.D with
      | nil => rw [hD] at he; simp at he
      | cons x xs => simp
    have hlen := encB_len6 h6 hv
    have hpl : (passL key l.D).length = (encB l.D).length + 8 := by
      unfold passL
      rw [List.length_append, sealL_len]
    have hB : B8 (Sl.mk false (passL key l.D)).D := passL_B8 key l.D
    obtain ⟨c1, c2⟩ := passL_cut key l.D
    have hlook : lookR key (Sl.mk false (passL key l.D)) = none := by
      unfold lookR
      rw [if_neg (fun q => q hk), if_neg, if_neg]
      · show ¬ (120 < (passL key l.D).length ∨ (passL key l.D).length < 8)
        omega
      · intro q
        have : (passL key l.D).length = 0 := by
          have := congrArg List.length q
          exact this
        omega
    have hcl : (cutB (Sl.mk false (passL key l.D))).D.length ≤ 1000000 := by rw [c1]; omega
    have hp := pRead_parse (cutB (Sl.mk false (passL key l.D))) (cutB_B8 hB) hcl
    have hparse : parse (cutB (Sl.mk false (passL key l.D))).D = some (l.D.map back) := by
      rw [c1]; exact parse_encB h1 h6 hv
    obtain ⟨ys, p1, p2, p3⟩ := hp.1 _ hparse
    have hyr : ys.map rd = l.D.map rd := p1.trans (back_rd hl)
    have hread : pRead key (Sl.mk false (passL key l.D)) = pfin ys := by
      rw [pRead_eq hB, hlook]
      dsimp only
      rw [if_pos (by rw [c1, c2]), p3]
    have hpy : pRight (Sl.mk ys.isEmpty ys) = 0 := by
      rw [← h0]
      exact pRight_rd (X := Sl.mk ys.isEmpty ys) (Y := l) p2 hl (by show ys.length ≤ _; rw [len_rd hyr]; exact hl1) hyr
    have hfin : pfin ys = (Sl.mk ys.isEmpty ys, 0) := by
      unfold pfin
      rw [hpy]; rfl
    rw [hread, hfin]
    refine ⟨rfl, rfl, hyr, by omega, ?_, hB⟩
    cases hP : passL key l.D with
    | nil => rw [hP] at hpl; simp at hpl
    | cons a tl => rfl
  · rw [cond_true]
    have hD : l.D = [] := by simpa using he
    have hlook : lookR key (Sl.mk true []) = some (Sl.mk true [], 0) := by
      unfold lookR
      rw [if_neg (fun q => q hk), if_pos rfl]
    have hread : pRead key (Sl.mk true []) = (Sl.mk true [], 0) := by
      rw [pRead_eq (b := Sl.mk true []) (fun x (h : x ∈ ([] : List Int)) => nomatch h), hlook]
    dsimp only
    rw [hread, hD]
    exact ⟨rfl, rfl, rfl, Nat.zero_le _, rfl, fun x (h : x ∈ ([] : List Int)) => nomatch h⟩
end Go.Proofs.YthnghkkbnhjlgaaDoor
/- The example. No conditions. -/
namespace Go.Proofs.YthnghkkbnhjlgaaDoor
open Go.Am
def awake  : Bool :=
  (bif ((pSee (Sl.mk true []) (nameK [(97 : Int)]) 3).2 == 0) then (bif ((pSee (pSee (Sl.mk true []) (nameK [(97 : Int)]) 3).1 (nameK [(98 : Int)]) 1).2 == 0) then (bif ((pSee (pSee (pSee (Sl.mk true []) (nameK [(97 : Int)]) 3).1 (nameK [(98 : Int)]) 1).1 (nameK [(97 : Int)]) 2).2 == 0) then (bif (((pMake (Sl.mk false [48, 49, 50, 51, 52, 53, 54, 55, 56, 57, 97, 98, 99, 100, 101, 102]) (pSee (pSee (pSee (Sl.mk true []) (nameK [(97 : Int)]) 3).1 (nameK [(98 : Int)]) 1).1 (nameK [(97 : Int)]) 2).1).2) == 0) then (bif (((pRead (Sl.mk false [48, 49, 50, 51, 52, 53, 54, 55, 56, 57, 97, 98, 99, 100, 101, 102]) ((pMake (Sl.mk false [48, 49, 50, 51, 52, 53, 54, 55, 56, 57, 97, 98, 99, 100, 101, 102]) (pSee (pSee (pSee (Sl.mk true []) (nameK [(97 : Int)]) 3).1 (nameK [(98 : Int)]) 1).1 (nameK [(97 : Int)]) 2).1).1)).2) == 0) then (bif (((pRead (Sl.mk false [48, 49, 50, 51, 52, 53, 54, 55, 56, 57, 97, 98, 99, 100, 101, 102]) (Sl.mk false (List.replicate 7 0))).2) == 100) then (bif (eqSeen (pSee (pSee (pSee (Sl.mk true []) (nameK [(97 : Int)]) 3).1 (nameK [(98 : Int)]) 1).1 (nameK [(97 : Int)]) 2).1 (Sl.mk false [(Seen.mk (nameK [(97 : Int)]) 3), (Seen.mk (nameK [(98 : Int)]) 1)])) then (eqSeen ((pRead (Sl.mk false [48, 49, 50, 51, 52, 53, 54, 55, 56, 57, 97, 98, 99, 100, 101, 102]) ((pMake (Sl.mk false [48, 49, 50, 51, 52, 53, 54, 55, 56, 57, 97, 98, 99, 100, 101, 102]) (pSee (pSee (pSee (Sl.mk true []) (nameK [(97 : Int)]) 3).1 (nameK [(98 : Int)]) 1).1 (nameK [(97 : Int)]) 2).1).1)).1) (pSee (pSee (pSee (Sl.mk true []) (nameK [(97 : Int)]) 3).1 (nameK [(98 : Int)]) 1).1 (nameK [(97 : Int)]) 2).1) else false) else false) else false) else false) else false) else false) else false)
theorem awake_calls   : PCalls Tryd.prog 13 [] (.pv (.lit (.bool (awake )))) := by
 generalize hR : awake  = R
 refine PCalls.of_body tabOk Tryd.func13 rfl rfl rfl rfl rfl mixed fun E hP C hI => ?_
 refine Awp.consP C ?_
 refine rvP C (.pv (.lit (.bool false))) ?_
 refine rvc_nil ?_
 refine Awp.cons C (fun o => match o.dst with | some 13 => .writes [12] | _ => .writer) (by kernel_rfl) ?_
 refine rvc_un (rexec_prim C (δ := { v := .sl 12 0 ([48, 49, 50, 51, 52, 53, 54, 55, 56, 57, 97, 98, 99, 100, 101, 102].length) 1 true, new := [(12, .cells (encC (eI .u8) [48, 49, 50, 51, 52, 53, 54, 55, 56, 57, 97, 98, 99, 100, 101, 102]))] }) rfl rfl rfl rfl trivial rfl ?_)
 refine rvc_un (rexec_convOwn C rfl [48, 49, 50, 51, 52, 53, 54, 55, 56, 57, 97, 98, 99, 100, 101, 102] rfl rfl rfl rfl rfl rfl rfl ?_)
 refine rvP C (sS (some false) (eI .u8) [48, 49, 50, 51, 52, 53, 54, 55, 56, 57, 97, 98, 99, 100, 101, 102]) ?_
 refine rvc_nil ?_
 refine Awp.consP C ?_
 refine rvc_un (rexec_call hP C rfl rfl rfl (nameK_calls [(97 : Int)] (rng8 97 (by decide))) ?_)
 obtain ⟨s1, hq_s1⟩ : ∃ q_, q_ = (pSee (Sl.mk true []) (nameK [(97 : Int)]) 3) := ⟨_, rfl⟩
 have hc_s1 := (pSee_calls (Sl.mk true []) (nameK [(97 : Int)]) 3 KB_nil (name1_B 97 (by decide)) (fun _ => rfl) (Nat.zero_le _))
 first | rw [← hq_s1] at hR hc_s1 | (unfold awake at hR; rw [← hq_s1] at hR hc_s1)
 have hf0_s1 := pSee_ok (l := (Sl.mk true [])) (k := (nameK [(97 : Int)])) (v := 3) KB_nil (name1_B 97 (by decide)) (fun _ => rfl) (Nat.zero_le _)
 rw [← hq_s1] at hf0_s1
 refine rvc_un (rexec_call hP C rfl rfl rfl hc_s1 ?_)
 refine rvP C (.tup [sS (some s1.1.nil) eSeen s1.1.D, .pv (.lit (.int .i64 s1.2))]) ?_
 refine rvP C (sS (some s1.1.nil) eSeen s1.1.D) ?_
 refine rvP C (.pv (.lit (.int .i64 s1.2))) ?_
 refine rvP C (sS (some s1.1.nil) eSeen s1.1.D) ?_
 refine rvP C (.pv (.lit (.int .i64 s1.2))) ?_
 refine rvc_nil ?_
 refine Awp.consP C ?_
 refine rvP C (sS (some s1.1.nil) eSeen s1.1.D) ?_
 refine rvc_un (rexec_call hP C rfl rfl rfl (nameK_calls [(98 : Int)] (rng8 98 (by decide))) ?_)
 obtain ⟨s2, hq_s2⟩ : ∃ q_, q_ = (pSee s1.1 (nameK [(98 : Int)]) 1) := ⟨_, rfl⟩
 have hc_s2 := (pSee_calls s1.1 (nameK [(98 : Int)]) 1 hf0_s1.1 (name1_B 98 (by decide)) hf0_s1.2.1 hf0_s1.2.2)
 first | rw [← hq_s2] at hR hc_s2 | (unfold awake at hR; rw [← hq_s2] at hR hc_s2)
 have hf0_s2 := pSee_ok (l := s1.1) (k := (nameK [(98 : Int)])) (v := 1) hf0_s1.1 (name1_B 98 (by decide)) hf0_s1.2.1 hf0_s1.2.2
 rw [← hq_s2] at hf0_s2
 refine rvc_un (rexec_call hP C rfl rfl rfl hc_s2 ?_)
 refine rvP C (.tup [sS (some s2.1.nil) eSeen s2.1.D, .pv (.lit (.int .i64 s2.2))]) ?_
 refine rvP C (sS (some s2.1.nil) eSeen s2.1.D) ?_
 refine rvP C (.pv (.lit (.int .i64 s2.2))) ?_
 refine rvP C (sS (some s2.1.nil) eSeen s2.1.D) ?_
 refine rvP C (.pv (.lit (.int .i64 s2.2))) ?_
 refine rvc_nil ?_
 refine Awp.consP C ?_
 refine rvP C (sS (some s2.1.nil) eSeen s2.1.D) ?_
 refine rvc_un (rexec_call hP C rfl rfl rfl (nameK_calls [(97 : Int)] (rng8 97 (by decide))) ?_)
 obtain ⟨s3, hq_s3⟩ : ∃ q_, q_ = (pSee s2.1 (nameK [(97 : Int)]) 2) := ⟨_, rfl⟩
 have hc_s3 := (pSee_calls s2.1 (nameK [(97 : Int)]) 2 hf0_s2.1 (name1_B 97 (by decide)) hf0_s2.2.1 hf0_s2.2.2)
 first | rw [← hq_s3] at hR hc_s3 | (unfold awake at hR; rw [← hq_s3] at hR hc_s3)
 have hf0_s3 := pSee_ok (l := s2.1) (k := (nameK [(97 : Int)])) (v := 2) hf0_s2.1 (name1_B 97 (by decide)) hf0_s2.2.1 hf0_s2.2.2
 rw [← hq_s3] at hf0_s3
 refine rvc_un (rexec_call hP C rfl rfl rfl hc_s3 ?_)
 refine rvP C (.tup [sS (some s3.1.nil) eSeen s3.1.D, .pv (.lit (.int .i64 s3.2))]) ?_
 refine rvP C (sS (some s3.1.nil) eSeen s3.1.D) ?_
 refine rvP C (.pv (.lit (.int .i64 s3.2))) ?_
 refine rvP C (sS (some s3.1.nil) eSeen s3.1.D) ?_
 refine rvP C (.pv (.lit (.int .i64 s3.2))) ?_
 refine rvc_nil ?_
 refine Awp.consP C ?_
 refine rvP C (sS (some false) (eI .u8) [48, 49, 50, 51, 52, 53, 54, 55, 56, 57, 97, 98, 99, 100, 101, 102]) ?_
 refine rvP C (sS (some s3.1.nil) eSeen s3.1.D) ?_
 refine rvc_un (rexec_call hP C rfl rfl rfl (pMake_calls (Sl.mk false [48, 49, 50, 51, 52, 53, 54, 55, 56, 57, 97, 98, 99, 100, 101, 102]) s3.1 hf0_s3.1 hf0_s3.2.2) ?_)
 refine rvP C (.tup [sS (some (pMake (Sl.mk false [48, 49, 50, 51, 52, 53, 54, 55, 56, 57, 97, 98, 99, 100, 101, 102]) s3.1).1.nil) (eI .u8) ((pMake (Sl.mk false [48, 49, 50, 51, 52, 53, 54, 55, 56, 57, 97, 98, 99, 100, 101, 102]) s3.1).1.D), .pv (.lit (.int .i64 ((pMake (Sl.mk false [48, 49, 50, 51, 52, 53, 54, 55, 56, 57, 97, 98, 99, 100, 101, 102]) s3.1).2)))]) ?_
 refine rvP C (sS (some (pMake (Sl.mk false [48, 49, 50, 51, 52, 53, 54, 55, 56, 57, 97, 98, 99, 100, 101, 102]) s3.1).1.nil) (eI .u8) ((pMake (Sl.mk false [48, 49, 50, 51, 52, 53, 54, 55, 56, 57, 97, 98, 99, 100, 101, 102]) s3.1).1.D)) ?_
 refine rvP C (.pv (.lit (.int .i64 ((pMake (Sl.mk false [48, 49, 50, 51, 52, 53, 54, 55, 56, 57, 97, 98, 99, 100, 101, 102]) s3.1).2)))) ?_
 refine rvP C (sS (some (pMake (Sl.mk false [48, 49, 50, 51, 52, 53, 54, 55, 56, 57, 97, 98, 99, 100, 101, 102]) s3.1).1.nil) (eI .u8) ((pMake (Sl.mk false [48, 49, 50, 51, 52, 53, 54, 55, 56, 57, 97, 98, 99, 100, 101, 102]) s3.1).1.D)) ?_
 refine rvP C (.pv (.lit (.int .i64 ((pMake (Sl.mk false [48, 49, 50, 51, 52, 53, 54, 55, 56, 57, 97, 98, 99, 100, 101, 102]) s3.1).2)))) ?_
 refine rvc_nil ?_
 refine Awp.consP C ?_
 refine rvP C (sS (some false) (eI .u8) [48, 49, 50, 51, 52, 53, 54, 55, 56, 57, 97, 98, 99, 100, 101, 102]) ?_
 refine rvP C (sS (some (pMake (Sl.mk false [48, 49, 50, 51, 52, 53, 54, 55, 56, 57, 97, 98, 99, 100, 101, 102]) s3.1).1.nil) (eI .u8) ((pMake (Sl.mk false [48, 49, 50, 51, 52, 53, 54, 55, 56, 57, 97, 98, 99, 100, 101, 102]) s3.1).1.D)) ?_
 refine rvc_un (rexec_call hP C rfl rfl rfl (pRead_calls (Sl.mk false [48, 49, 50, 51, 52, 53, 54, 55, 56, 57, 97, 98, 99, 100, 101, 102]) ((pMake (Sl.mk false [48, 49, 50, 51, 52, 53, 54, 55, 56, 57, 97, 98, 99, 100, 101, 102]) s3.1).1)) ?_)
 refine rvP C (.tup [sS (some (pRead (Sl.mk false [48, 49, 50, 51, 52, 53, 54, 55, 56, 57, 97, 98, 99, 100, 101, 102]) ((pMake (Sl.mk false [48, 49, 50, 51, 52, 53, 54, 55, 56, 57, 97, 98, 99, 100, 101, 102]) s3.1).1)).1.nil) eSeen ((pRead (Sl.mk false [48, 49, 50, 51, 52, 53, 54, 55, 56, 57, 97, 98, 99, 100, 101, 102]) ((pMake (Sl.mk false [48, 49, 50, 51, 52, 53, 54, 55, 56, 57, 97, 98, 99, 100, 101, 102]) s3.1).1)).1.D), .pv (.lit (.int .i64 ((pRead (Sl.mk false [48, 49, 50, 51, 52, 53, 54, 55, 56, 57, 97, 98, 99, 100, 101, 102]) ((pMake (Sl.mk false [48, 49, 50, 51, 52, 53, 54, 55, 56, 57, 97, 98, 99, 100, 101, 102]) s3.1).1)).2)))]) ?_
 refine rvP C (sS (some (pRead (Sl.mk false [48, 49, 50, 51, 52, 53, 54, 55, 56, 57, 97, 98, 99, 100, 101, 102]) ((pMake (Sl.mk false [48, 49, 50, 51, 52, 53, 54, 55, 56, 57, 97, 98, 99, 100, 101, 102]) s3.1).1)).1.nil) eSeen ((pRead (Sl.mk false [48, 49, 50, 51, 52, 53, 54, 55, 56, 57, 97, 98, 99, 100, 101, 102]) ((pMake (Sl.mk false [48, 49, 50, 51, 52, 53, 54, 55, 56, 57, 97, 98, 99, 100, 101, 102]) s3.1).1)).1.D)) ?_
 refine rvP C (.pv (.lit (.int .i64 ((pRead (Sl.mk false [48, 49, 50, 51, 52, 53, 54, 55, 56, 57, 97, 98, 99, 100, 101, 102]) ((pMake (Sl.mk false [48, 49, 50, 51, 52, 53, 54, 55, 56, 57, 97, 98, 99, 100, 101, 102]) s3.1).1)).2)))) ?_
 refine rvP C (sS (some (pRead (Sl.mk false [48, 49, 50, 51, 52, 53, 54, 55, 56, 57, 97, 98, 99, 100, 101, 102]) ((pMake (Sl.mk false [48, 49, 50, 51, 52, 53, 54, 55, 56, 57, 97, 98, 99, 100, 101, 102]) s3.1).1)).1.nil) eSeen ((pRead (Sl.mk false [48, 49, 50, 51, 52, 53, 54, 55, 56, 57, 97, 98, 99, 100, 101, 102]) ((pMake (Sl.mk false [48, 49, 50, 51, 52, 53, 54, 55, 56, 57, 97, 98, 99, 100, 101, 102]) s3.1).1)).1.D)) ?_
 refine rvP C (.pv (.lit (.int .i64 ((pRead (Sl.mk false [48, 49, 50, 51, 52, 53, 54, 55, 56, 57, 97, 98, 99, 100, 101, 102]) ((pMake (Sl.mk false [48, 49, 50, 51, 52, 53, 54, 55, 56, 57, 97, 98, 99, 100, 101, 102]) s3.1).1)).2)))) ?_
 refine rvc_nil ?_
 refine Awp.consP C ?_
 refine rvP C (sS (some false) (eI .u8) [48, 49, 50, 51, 52, 53, 54, 55, 56, 57, 97, 98, 99, 100, 101, 102]) ?_
 refine rvc_un (rexec_makeSliceF C (encL (eI .u8) (List.replicate 7 0)) (List.replicate 7 0).length rfl rfl rfl rfl rfl (by decide) rfl rfl ?_)
 refine rvc_un (rexec_call hP C rfl rfl rfl (pRead_calls (Sl.mk false [48, 49, 50, 51, 52, 53, 54, 55, 56, 57, 97, 98, 99, 100, 101, 102]) (Sl.mk false (List.replicate 7 0))) ?_)
 refine rvP C (.tup [sS (some (pRead (Sl.mk false [48, 49, 50, 51, 52, 53, 54, 55, 56, 57, 97, 98, 99, 100, 101, 102]) (Sl.mk false (List.replicate 7 0))).1.nil) eSeen ((pRead (Sl.mk false [48, 49, 50, 51, 52, 53, 54, 55, 56, 57, 97, 98, 99, 100, 101, 102]) (Sl.mk false (List.replicate 7 0))).1.D), .pv (.lit (.int .i64 ((pRead (Sl.mk false [48, 49, 50, 51, 52, 53, 54, 55, 56, 57, 97, 98, 99, 100, 101, 102]) (Sl.mk false (List.replicate 7 0))).2)))]) ?_
 refine rvP C (sS (some (pRead (Sl.mk false [48, 49, 50, 51, 52, 53, 54, 55, 56, 57, 97, 98, 99, 100, 101, 102]) (Sl.mk false (List.replicate 7 0))).1.nil) eSeen ((pRead (Sl.mk false [48, 49, 50, 51, 52, 53, 54, 55, 56, 57, 97, 98, 99, 100, 101, 102]) (Sl.mk false (List.replicate 7 0))).1.D)) ?_
 refine rvP C (.pv (.lit (.int .i64 ((pRead (Sl.mk false [48, 49, 50, 51, 52, 53, 54, 55, 56, 57, 97, 98, 99, 100, 101, 102]) (Sl.mk false (List.replicate 7 0))).2)))) ?_
 refine rvP C (sS (some (pRead (Sl.mk false [48, 49, 50, 51, 52, 53, 54, 55, 56, 57, 97, 98, 99, 100, 101, 102]) (Sl.mk false (List.replicate 7 0))).1.nil) eSeen ((pRead (Sl.mk false [48, 49, 50, 51, 52, 53, 54, 55, 56, 57, 97, 98, 99, 100, 101, 102]) (Sl.mk false (List.replicate 7 0))).1.D)) ?_
 refine rvP C (.pv (.lit (.int .i64 ((pRead (Sl.mk false [48, 49, 50, 51, 52, 53, 54, 55, 56, 57, 97, 98, 99, 100, 101, 102]) (Sl.mk false (List.replicate 7 0))).2)))) ?_
 refine rvc_nil ?_
 refine Awp.consP C ?_
 refine rvP C (.pv (.lit (.int .i64 s1.2))) ?_
 refine rvP C (.pv (.lit (.bool (s1.2 == 0)))) ?_
 refine rvP C (.pv (.lit (.bool (s1.2 == 0)))) ?_
 refine rvc_case 51 (s1.2 == 0) rfl (fun h1 => ?_) (fun h1 => ?_)
 ·
  replace hR := of_true h1 hR
  refine rvO C (.pv (.lit (.int .i64 s2.2))) ?_
  refine rvO C (.pv (.lit (.bool (s2.2 == 0)))) ?_
  refine rvP C (.pv (.lit (.bool (s2.2 == 0)))) ?_
  refine rvP C (.pv (.lit (.bool (s2.2 == 0)))) ?_
  refine rvc_case 55 (s2.2 == 0) rfl (fun h2 => ?_) (fun h2 => ?_)
  ·
   replace hR := of_true h2 hR
   refine rvO C (.pv (.lit (.int .i64 s3.2))) ?_
   refine rvO C (.pv (.lit (.bool (s3.2 == 0)))) ?_
   refine rvP C (.pv (.lit (.bool (s3.2 == 0)))) ?_
   refine rvP C (.pv (.lit (.bool (s3.2 == 0)))) ?_
   refine rvc_case 59 (s3.2 == 0) rfl (fun h3 => ?_) (fun h3 => ?_)
   ·
    replace hR := of_true h3 hR
    refine rvO C (.pv (.lit (.int .i64 ((pMake (Sl.mk false [48, 49, 50, 51, 52, 53, 54, 55, 56, 57, 97, 98, 99, 100, 101, 102]) s3.1).2)))) ?_
    refine rvO C (.pv (.lit (.bool (((pMake (Sl.mk false [48, 49, 50, 51, 52, 53, 54, 55, 56, 57, 97, 98, 99, 100, 101, 102]) s3.1).2) == 0)))) ?_
    refine rvP C (.pv (.lit (.bool (((pMake (Sl.mk false [48, 49, 50, 51, 52, 53, 54, 55, 56, 57, 97, 98, 99, 100, 101, 102]) s3.1).2) == 0)))) ?_
    refine rvP C (.pv (.lit (.bool (((pMake (Sl.mk false [48, 49, 50, 51, 52, 53, 54, 55, 56, 57, 97, 98, 99, 100, 101, 102]) s3.1).2) == 0)))) ?_
    refine rvc_case 63 (((pMake (Sl.mk false [48, 49, 50, 51, 52, 53, 54, 55, 56, 57, 97, 98, 99, 100, 101, 102]) s3.1).2) == 0) rfl (fun h4 => ?_) (fun h4 => ?_)
    ·
     replace hR := of_true h4 hR
     refine rvO C (.pv (.lit (.int .i64 ((pRead (Sl.mk false [48, 49, 50, 51, 52, 53, 54, 55, 56, 57, 97, 98, 99, 100, 101, 102]) ((pMake (Sl.mk false [48, 49, 50, 51, 52, 53, 54, 55, 56, 57, 97, 98, 99, 100, 101, 102]) s3.1).1)).2)))) ?_
     refine rvO C (.pv (.lit (.bool (((pRead (Sl.mk false [48, 49, 50, 51, 52, 53, 54, 55, 56, 57, 97, 98, 99, 100, 101, 102]) ((pMake (Sl.mk false [48, 49, 50, 51, 52, 53, 54, 55, 56, 57, 97, 98, 99, 100, 101, 102]) s3.1).1)).2) == 0)))) ?_
     refine rvP C (.pv (.lit (.bool (((pRead (Sl.mk false [48, 49, 50, 51, 52, 53, 54, 55, 56, 57, 97, 98, 99, 100, 101, 102]) ((pMake (Sl.mk false [48, 49, 50, 51, 52, 53, 54, 55, 56, 57, 97, 98, 99, 100, 101, 102]) s3.1).1)).2) == 0)))) ?_
     refine rvP C (.pv (.lit (.bool (((pRead (Sl.mk false [48, 49, 50, 51, 52, 53, 54, 55, 56, 57, 97, 98, 99, 100, 101, 102]) ((pMake (Sl.mk false [48, 49, 50, 51, 52, 53, 54, 55, 56, 57, 97, 98, 99, 100, 101, 102]) s3.1).1)).2) == 0)))) ?_
     refine rvc_case 67 (((pRead (Sl.mk false [48, 49, 50, 51, 52, 53, 54, 55, 56, 57, 97, 98, 99, 100, 101, 102]) ((pMake (Sl.mk false [48, 49, 50, 51, 52, 53, 54, 55, 56, 57, 97, 98, 99, 100, 101, 102]) s3.1).1)).2) == 0) rfl (fun h5 => ?_) (fun h5 => ?_)
     ·
      replace hR := of_true h5 hR
      refine rvO C (.pv (.lit (.int .i64 ((pRead (Sl.mk false [48, 49, 50, 51, 52, 53, 54, 55, 56, 57, 97, 98, 99, 100, 101, 102]) (Sl.mk false (List.replicate 7 0))).2)))) ?_
      refine rvO C (.pv (.lit (.bool (((pRead (Sl.mk false [48, 49, 50, 51, 52, 53, 54, 55, 56, 57, 97, 98, 99, 100, 101, 102]) (Sl.mk false (List.replicate 7 0))).2) == 100)))) ?_
      refine rvP C (.pv (.lit (.bool (((pRead (Sl.mk false [48, 49, 50, 51, 52, 53, 54, 55, 56, 57, 97, 98, 99, 100, 101, 102]) (Sl.mk false (List.replicate 7 0))).2) == 100)))) ?_
      refine rvP C (.pv (.lit (.bool (((pRead (Sl.mk false [48, 49, 50, 51, 52, 53, 54, 55, 56, 57, 97, 98, 99, 100, 101, 102]) (Sl.mk false (List.replicate 7 0))).2) == 100)))) ?_
      refine rvc_case 71 (((pRead (Sl.mk false [48, 49, 50, 51, 52, 53, 54, 55, 56, 57, 97, 98, 99, 100, 101, 102]) (Sl.mk false (List.replicate 7 0))).2) == 100) rfl (fun h6 => ?_) (fun h6 => ?_)
      ·
       replace hR := of_true h6 hR
       refine rvO C (sS (some s3.1.nil) eSeen s3.1.D) ?_
       refine rvc_open rfl rfl rfl (rexec_call hP C rfl rfl rfl (nameK_calls [(97 : Int)] (rng8 97 (by decide))) ?_)
       refine rvO C (.agg [.pv (.lit (.int .u8 ((nameK [(97 : Int)]) 0))), .pv (.lit (.int .u8 ((nameK [(97 : Int)]) 1))), .pv (.lit (.int .u8 ((nameK [(97 : Int)]) 2))), .pv (.lit (.int .u8 ((nameK [(97 : Int)]) 3))), .pv (.lit (.int .u8 ((nameK [(97 : Int)]) 4))), .pv (.lit (.int .u8 ((nameK [(97 : Int)]) 5))), .pv (.lit (.int .u8 ((nameK [(97 : Int)]) 6))), .pv (.lit (.int .u8 ((nameK [(97 : Int)]) 7))), .pv (.lit (.int .i64 3))]) ?_
       refine rvc_open rfl rfl rfl (rexec_call hP C rfl rfl rfl (nameK_calls [(98 : Int)] (rng8 98 (by decide))) ?_)
       refine rvO C (.agg [.pv (.lit (.int .u8 ((nameK [(98 : Int)]) 0))), .pv (.lit (.int .u8 ((nameK [(98 : Int)]) 1))), .pv (.lit (.int .u8 ((nameK [(98 : Int)]) 2))), .pv (.lit (.int .u8 ((nameK [(98 : Int)]) 3))), .pv (.lit (.int .u8 ((nameK [(98 : Int)]) 4))), .pv (.lit (.int .u8 ((nameK [(98 : Int)]) 5))), .pv (.lit (.int .u8 ((nameK [(98 : Int)]) 6))), .pv (.lit (.int .u8 ((nameK [(98 : Int)]) 7))), .pv (.lit (.int .i64 1))]) ?_
       refine rvc_open rfl rfl rfl (rexec_buildSliceF C eSeen [(Seen.mk (nameK [(97 : Int)]) 3), (Seen.mk (nameK [(98 : Int)]) 1)] rfl rfl rfl rfl rfl rfl rfl (by decide) rfl ?_)
       refine rvc_open rfl rfl rfl (rexec_call hP C rfl rfl rfl (eqSeen_calls s3.1 (Sl.mk false [(Seen.mk (nameK [(97 : Int)]) 3), (Seen.mk (nameK [(98 : Int)]) 1)]) (Nat.le_trans hf0_s3.2.2 (by decide))) ?_)
       refine rvP C (.pv (.lit (.bool (eqSeen s3.1 (Sl.mk false [(Seen.mk (nameK [(97 : Int)]) 3), (Seen.mk (nameK [(98 : Int)]) 1)]))))) ?_
       refine rvP C (.pv (.lit (.bool (eqSeen s3.1 (Sl.mk false [(Seen.mk (nameK [(97 : Int)]) 3), (Seen.mk (nameK [(98 : Int)]) 1)]))))) ?_
       refine rvc_case 80 (eqSeen s3.1 (Sl.mk false [(Seen.mk (nameK [(97 : Int)]) 3), (Seen.mk (nameK [(98 : Int)]) 1)])) rfl (fun h7 => ?_) (fun h7 => ?_)
       ·
        replace hR := of_true h7 hR
        refine rvO C (sS (some (pRead (Sl.mk false [48, 49, 50, 51, 52, 53, 54, 55, 56, 57, 97, 98, 99, 100, 101, 102]) ((pMake (Sl.mk false [48, 49, 50, 51, 52, 53, 54, 55, 56, 57, 97, 98, 99, 100, 101, 102]) s3.1).1)).1.nil) eSeen ((pRead (Sl.mk false [48, 49, 50, 51, 52, 53, 54, 55, 56, 57, 97, 98, 99, 100, 101, 102]) ((pMake (Sl.mk false [48, 49, 50, 51, 52, 53, 54, 55, 56, 57, 97, 98, 99, 100, 101, 102]) s3.1).1)).1.D)) ?_
        refine rvO C (sS (some s3.1.nil) eSeen s3.1.D) ?_
        refine rvc_open rfl rfl rfl (rexec_call hP C rfl rfl rfl (eqSeen_calls ((pRead (Sl.mk false [48, 49, 50, 51, 52, 53, 54, 55, 56, 57, 97, 98, 99, 100, 101, 102]) ((pMake (Sl.mk false [48, 49, 50, 51, 52, 53, 54, 55, 56, 57, 97, 98, 99, 100, 101, 102]) s3.1).1)).1) s3.1 (Nat.le_trans (pRead_len (make_B8 _ _)) (by decide))) ?_)
        refine rvP C (.pv (.lit (.bool (eqSeen ((pRead (Sl.mk false [48, 49, 50, 51, 52, 53, 54, 55, 56, 57, 97, 98, 99, 100, 101, 102]) ((pMake (Sl.mk false [48, 49, 50, 51, 52, 53, 54, 55, 56, 57, 97, 98, 99, 100, 101, 102]) s3.1).1)).1) s3.1)))) ?_
        refine rvP C (.pv (.lit (.bool (eqSeen ((pRead (Sl.mk false [48, 49, 50, 51, 52, 53, 54, 55, 56, 57, 97, 98, 99, 100, 101, 102]) ((pMake (Sl.mk false [48, 49, 50, 51, 52, 53, 54, 55, 56, 57, 97, 98, 99, 100, 101, 102]) s3.1).1)).1) s3.1)))) ?_
        refine rvc_nil ?_
        refine Awp.ret ?_
        subst hR
        exact ⟨.inl rfl, rfl⟩
       ·
        replace hR := of_false h7 hR
        refine rvS ?_
        refine rvS ?_
        refine rvS ?_
        refine rvP C (.pv (.lit (.bool false))) ?_
        refine rvP C (.pv (.lit (.bool false))) ?_
        refine rvc_nil ?_
        refine Awp.ret ?_
        subst hR
        exact ⟨.inl rfl, rfl⟩
      ·
       replace hR := of_false h6 hR
       refine rvS ?_
       refine rvS ?_
       refine rvS ?_
       refine rvS ?_
       refine rvS ?_
       refine rvS ?_
       refine rvS ?_
       refine rvP C (.pv (.lit (.bool false))) ?_
       refine rvP C (.pv (.lit (.bool false))) ?_
       refine rvS ?_
       refine rvS ?_
       refine rvS ?_
       refine rvP C (.pv (.lit (.bool false))) ?_
       refine rvP C (.pv (.lit (.bool false))) ?_
       refine rvc_nil ?_
       refine Awp.ret ?_
       subst hR
       exact ⟨.inl rfl, rfl⟩
     ·
      replace hR := of_false h5 hR
      refine rvS ?_
      refine rvS ?_
      refine rvP C (.pv (.lit (.bool false))) ?_
      refine rvP C (.pv (.lit (.bool false))) ?_
      refine rvS ?_
      refine rvS ?_
      refine rvS ?_
      refine rvS ?_
      refine rvS ?_
      refine rvS ?_
      refine rvS ?_
      refine rvP C (.pv (.lit (.bool false))) ?_
      refine rvP C (.pv (.lit (.bool false))) ?_
      refine rvS ?_
      refine rvS ?_
      refine rvS ?_
      refine rvP C (.pv (.lit (.bool false))) ?_
      refine rvP C (.pv (.lit (.bool false))) ?_
      refine rvc_nil ?_
      refine Awp.ret ?_
      subst hR
      exact ⟨.inl rfl, rfl⟩
    ·
     replace hR := of_false h4 hR
     refine rvS ?_
     refine rvS ?_
     refine rvP C (.pv (.lit (.bool false))) ?_
     refine rvP C (.pv (.lit (.bool false))) ?_
     refine rvS ?_
     refine rvS ?_
     refine rvP C (.pv (.lit (.bool false))) ?_
     refine rvP C (.pv (.lit (.bool false))) ?_
     refine rvS ?_
     refine rvS ?_
     refine rvS ?_
     refine rvS ?_
     refine rvS ?_
     refine rvS ?_
     refine rvS ?_
     refine rvP C (.pv (.lit (.bool false))) ?_
     refine rvP C (.pv (.lit (.bool false))) ?_
     refine rvS ?_
     refine rvS ?_
     refine rvS ?_
     refine rvP C (.pv (.lit (.bool false))) ?_
     refine rvP C (.pv (.lit (.bool false))) ?_
     refine rvc_nil ?_
     refine Awp.ret ?_
     subst hR
     exact ⟨.inl rfl, rfl⟩
   ·
    replace hR := of_false h3 hR
    refine rvS ?_
    refine rvS ?_
    refine rvP C (.pv (.lit (.bool false))) ?_
    refine rvP C (.pv (.lit (.bool false))) ?_
    refine rvS ?_
    refine rvS ?_
    refine rvP C (.pv (.lit (.bool false))) ?_
    refine rvP C (.pv (.lit (.bool false))) ?_
    refine rvS ?_
    refine rvS ?_
    refine rvP C (.pv (.lit (.bool false))) ?_
    refine rvP C (.pv (.lit (.bool false))) ?_
    refine rvS ?_
    refine rvS ?_
    refine rvS ?_
    refine rvS ?_
    refine rvS ?_
    refine rvS ?_
    refine rvS ?_
    refine rvP C (.pv (.lit (.bool false))) ?_
    refine rvP C (.pv (.lit (.bool false))) ?_
    refine rvS ?_
    refine rvS ?_
    refine rvS ?_
    refine rvP C (.pv (.lit (.bool false))) ?_
    refine rvP C (.pv (.lit (.bool false))) ?_
    refine rvc_nil ?_
    refine Awp.ret ?_
    subst hR
    exact ⟨.inl rfl, rfl⟩
  ·
   replace hR := of_false h2 hR
   refine rvS ?_
   refine rvS ?_
   refine rvP C (.pv (.lit (.bool false))) ?_
   refine rvP C (.pv (.lit (.bool false))) ?_
   refine rvS ?_
   refine rvS ?_
   refine rvP C (.pv (.lit (.bool false))) ?_
   refine rvP C (.pv (.lit (.bool false))) ?_
   refine rvS ?_
   refine rvS ?_
   refine rvP C (.pv (.lit (.bool false))) ?_
   refine rvP C (.pv (.lit (.bool false))) ?_
   refine rvS ?_
   refine rvS ?_
   refine rvP C (.pv (.lit (.bool false))) ?_
   refine rvP C (.pv (.lit (.bool false))) ?_
   refine rvS ?_
   refine rvS ?_
   refine rvS ?_
   refine rvS ?_
   refine rvS ?_
   refine rvS ?_
   refine rvS ?_
   refine rvP C (.pv (.lit (.bool false))) ?_
   refine rvP C (.pv (.lit (.bool false))) ?_
   refine rvS ?_
   refine rvS ?_
   refine rvS ?_
   refine rvP C (.pv (.lit (.bool false))) ?_
   refine rvP C (.pv (.lit (.bool false))) ?_
   refine rvc_nil ?_
   refine Awp.ret ?_
   subst hR
   exact ⟨.inl rfl, rfl⟩
 ·
  replace hR := of_false h1 hR
  refine rvS ?_
  refine rvS ?_
  refine rvP C (.pv (.lit (.bool false))) ?_
  refine rvP C (.pv (.lit (.bool false))) ?_
  refine rvS ?_
  refine rvS ?_
  refine rvP C (.pv (.lit (.bool false))) ?_
  refine rvP C (.pv (.lit (.bool false))) ?_
  refine rvS ?_
  refine rvS ?_
  refine rvP C (.pv (.lit (.bool false))) ?_
  refine rvP C (.pv (.lit (.bool false))) ?_
  refine rvS ?_
  refine rvS ?_
  refine rvP C (.pv (.lit (.bool false))) ?_
  refine rvP C (.pv (.lit (.bool false))) ?_
  refine rvS ?_
  refine rvS ?_
  refine rvP C (.pv (.lit (.bool false))) ?_
  refine rvP C (.pv (.lit (.bool false))) ?_
  refine rvS ?_
  refine rvS ?_
  refine rvS ?_
  refine rvS ?_
  refine rvS ?_
  refine rvS ?_
  refine rvS ?_
  refine rvP C (.pv (.lit (.bool false))) ?_
  refine rvP C (.pv (.lit (.bool false))) ?_
  refine rvS ?_
  refine rvS ?_
  refine rvS ?_
  refine rvP C (.pv (.lit (.bool false))) ?_
  refine rvP C (.pv (.lit (.bool false))) ?_
  refine rvc_nil ?_
  refine Awp.ret ?_
  subst hR
  exact ⟨.inl rfl, rfl⟩
end Go.Proofs.YthnghkkbnhjlgaaDoor
/- The example is so; lists told apart, in plain words. No conditions. -/
namespace Go.Proofs.YthnghkkbnhjlgaaDoor
open Go.Am
theorem eqSeen_l0_eq (s2 : Sl Seen) : ∀ (xs : List Seen) (i : Nat), xs.length + i = s2.D.length → eqSeen_l0 s2 xs i = decide (xs.map rd = (s2.D.drop i).map rd)
  | [], i, h => by
    have : s2.D.drop i = [] := List.drop_of_length_le (by simp at h; omega)
    rw [this]; rfl
  | x :: xs, i, h => by
    have hi : i < s2.D.length := by simp at h; omega
    have ih := eqSeen_l0_eq s2 xs (i + 1) (by simp at h; omega)
    rw [List.drop_eq_getElem_cons hi]
    unfold eqSeen_l0
    rw [ih, Int.toNat_natCast, getElem!_pos s2.D i hi]
    have e : ((((x.key 0) == (s2.D[i].key 0)) && (((x.key 1) == (s2.D[i].key 1)) && (((x.key 2) == (s2.D[i].key 2)) && (((x.key 3) == (s2.D[i].key 3)) && (((x.key 4) == (s2.D[i].key 4)) && (((x.key 5) == (s2.D[i].key 5)) && (((x.key 6) == (s2.D[i].key 6)) && (((x.key 7) == (s2.D[i].key 7)) && true)))))))) && ((x.ver == s2.D[i].ver) && true)) = decide (rd x = rd s2.D[i]) := by
      rw [eq8]
      unfold rd
      rw [Bool.eq_iff_iff]
      simp
    rw [e]
    by_cases h1 : rd x = rd s2.D[i]
    · rw [decide_eq_true h1]
      show decide _ = _
      rw [decide_eq_decide, List.map_cons, List.map_cons, h1]
      simp only [List.cons.injEq, true_and]
    · rw [decide_eq_false h1]
      show false = _
      exact (decide_eq_false fun q => h1 (List.cons.inj q).1).symm
theorem eqSeen_eq (s1 s2 : Sl Seen) : eqSeen s1 s2 = decide (s1.D.map rd = s2.D.map rd) := by
  unfold eqSeen
  by_cases h : s1.D.length = s2.D.length
  · rw [show ((s1.D.length : Int) != (s2.D.length : Int)) = false by simp; omega, cond_false, eqSeen_l0_eq s2 s1.D 0 (by omega), List.drop_zero]
  · rw [show ((s1.D.length : Int) != (s2.D.length : Int)) = true by simp; omega, cond_true]
    exact (decide_eq_false fun q => h (len_rd q)).symm
def ex1 : Sl Seen × Int := pSee (Sl.mk true []) (nameK [(97 : Int)]) 3
def ex2 : Sl Seen × Int := pSee ex1.1 (nameK [(98 : Int)]) 1
def ex3 : Sl Seen × Int := pSee ex2.1 (nameK [(97 : Int)]) 2
theorem ex1_e : ex1.2 = 0 := by kernel_rfl
theorem ex2_e : ex2.2 = 0 := by kernel_rfl
theorem ex3_e : ex3.2 = 0 := by kernel_rfl
theorem ex3_r : pRight ex3.1 = 0 := by kernel_rfl
theorem ex3_rd : ex3.1.D.map rd = (Sl.mk false [(Seen.mk (nameK [(97 : Int)]) 3), (Seen.mk (nameK [(98 : Int)]) 1)]).D.map rd := by kernel_rfl
def exK : Sl Int := Sl.mk false [48, 49, 50, 51, 52, 53, 54, 55, 56, 57, 97, 98, 99, 100, 101, 102]
theorem ex_bad : (pRead exK (Sl.mk false (List.replicate 7 0))).2 = 100 := by
  rw [pRead_eq (b := Sl.mk false (List.replicate 7 0)) (fun x hx => by rw [List.eq_of_mem_replicate hx]; decide)]; rfl
theorem ex3_ok : KB ex3.1.D ∧ ex3.1.D.length ≤ 1000000 := by
  have h1 := pSee_ok (l := Sl.mk true []) (v := 3) KB_nil (name1_B 97 (by decide)) (fun _ => rfl) (Nat.zero_le _)
  have h2 := pSee_ok (v := 1) h1.1 (name1_B 98 (by decide)) h1.2.1 h1.2.2
  have h3 := pSee_ok (v := 2) h2.1 (name1_B 97 (by decide)) h2.2.1 h2.2.2
  exact ⟨h3.1, Nat.le_trans h3.2.2 (by decide)⟩
theorem awake_true : awake = true := by
  obtain ⟨k1, k2⟩ := ex3_ok
  obtain ⟨b1, b2, b3, _, _, _⟩ := pass_back (key := exK) rfl k1 k2 ex3_r
  have e : awake = bif (ex1.2 == 0) then (bif (ex2.2 == 0) then (bif (ex3.2 == 0) then (bif ((pMake exK ex3.1).2 == 0) then (bif ((pRead exK (pMake exK ex3.1).1).2 == 0) then (bif ((pRead exK (Sl.mk false (List.replicate 7 0))).2 == 100) then (bif eqSeen ex3.1 (Sl.mk false [(Seen.mk (nameK [(97 : Int)]) 3), (Seen.mk (nameK [(98 : Int)]) 1)]) then eqSeen (pRead exK (pMake exK ex3.1).1).1 ex3.1 else false) else false) else false) else false) else false) else false) else false := rfl
  rw [e, ex1_e, ex2_e, ex3_e, b1, b2, ex_bad, eqSeen_eq, eqSeen_eq, decide_eq_true ex3_rd, decide_eq_true b3]; rfl
end Go.Proofs.YthnghkkbnhjlgaaDoor
/- What the laws ask of lists that are handed on. No conditions. -/
namespace Go.Proofs.YthnghkkbnhjlgaaDoor
open Go.Am
theorem pJoin_l0_ok : ∀ (xs : List Seen) (i : Nat) (out : Sl Seen) (e : Int), KB xs → KB out.D → (out.nil = true → out.D = []) → out.D.length ≤ 1000 → KB (pJoin_l0 xs i out e).1.D ∧ ((pJoin_l0 xs i out e).1.nil = true → (pJoin_l0 xs i out e).1.D = []) ∧ (pJoin_l0 xs i out e).1.D.length ≤ 1000
  | [], i, out, e, _, h1, h2, h3 => by
    unfold pJoin_l0
    cases (e != 0)
    · exact ⟨h1, h2, h3⟩
    · exact ⟨KB_nil, (fun _ => rfl), Nat.zero_le _⟩
  | x :: xs, i, out, e, hx, h1, h2, h3 => by
    obtain ⟨hx1, hx2⟩ := hx.cons
    unfold pJoin_l0
    cases (e == 0)
    · exact pJoin_l0_ok xs (i + 1) out e hx2 h1 h2 h3
    · have hok := pSee_ok (v := x.ver) h1 hx1 h2 h3
      exact pJoin_l0_ok xs (i + 1) _ _ hx2 hok.1 hok.2.1 hok.2.2
theorem pJoin_ok {a b : Sl Seen} (ha : KB a.D) (hb : KB b.D) (hn : a.nil = true → a.D = []) (hl : a.D.length ≤ 1000) : KB (pJoin a b).1.D ∧ ((pJoin a b).1.nil = true → (pJoin a b).1.D = []) ∧ (pJoin a b).1.D.length ≤ 1000 := by
  unfold pJoin
  cases (pRight b != 0)
  · obtain ⟨c1, c2, c3⟩ := clone_ok ha hn hl
    exact pJoin_l0_ok b.D 0 _ _ hb c1 c2 c3
  · exact ⟨KB_nil, (fun _ => rfl), Nat.zero_le _⟩
end Go.Proofs.YthnghkkbnhjlgaaDoor
/- Law: both together. No conditions. -/
namespace Go.Proofs.YthnghkkbnhjlgaaDoor
open Go.Am
def lawJoins (a : (Sl Seen)) (b : (Sl Seen)) : Bool :=
  (bif (decide ((a.D.length : Int) > 1000)) then (awake ) else (bif (decide ((b.D.length : Int) > 1000)) then (awake ) else (bif (eqSeen (pJoin a b).1 ((rpJoin a b).1)) then (bif ((pJoin a b).2 == ((rpJoin a b).2)) then (awake ) else false) else false)))
theorem lawJoins_calls (a : (Sl Seen)) (b : (Sl Seen)) (ha : ∀ x ∈ a.D, KeyB x.key) (hb : ∀ x ∈ b.D, KeyB x.key) (hn : a.nil = true → a.D = []) (hl1 : b.D.length ≤ 9223372036854775807) (hl2 : a.D.length ≤ 9223372036854775807) : PCalls Tryd.prog 9 [sS (some a.nil) eSeen a.D, sS (some b.nil) eSeen b.D] (.pv (.lit (.bool (lawJoins a b)))) := by
 generalize hR : lawJoins a b = R
 refine PCalls.of_body tabOk Tryd.func9 rfl rfl rfl rfl rfl mixed fun E hP C hI => ?_
 refine Awp.consP C ?_
 refine rvP C (.pv (.lit (.bool false))) ?_
 refine rvc_nil ?_
 refine Awp.seq ?_
 refine Awp.consP C ?_
 refine rvP C (sS (some a.nil) eSeen a.D) ?_
 refine rvP C (.pv (.lit (.int .i64 (a.D.length : Int)))) ?_
 refine rvP C (.pv (.lit (.bool (decide ((a.D.length : Int) > 1000))))) ?_
 refine rvP C (.pv (.lit (.bool (decide ((a.D.length : Int) > 1000))))) ?_
 refine rvc_case 12 (decide ((a.D.length : Int) > 1000)) rfl (fun h1 => ?_) (fun h1 => ?_)
 ·
  replace hR := of_true h1 hR
  refine rvS ?_
  refine rvS ?_
  refine rvS ?_
  refine rvP C (.pv (.lit (.bool true))) ?_
  refine rvc_nil ?_
  refine Awp.condT (b := true) rfl rfl ?_
  refine Awp.consP C ?_
  refine rvc_un (rexec_call hP C rfl rfl rfl (awake_calls ) ?_)
  refine rvP C (.pv (.lit (.bool (awake )))) ?_
  refine rvc_nil ?_
  refine Awp.ret ?_
  subst hR
  exact ⟨.inl rfl, rfl⟩
 ·
  replace hR := of_false h1 hR
  refine rvO C (sS (some b.nil) eSeen b.D) ?_
  refine rvO C (.pv (.lit (.int .i64 (b.D.length : Int)))) ?_
  refine rvO C (.pv (.lit (.bool (decide ((b.D.length : Int) > 1000))))) ?_
  refine rvP C (.pv (.lit (.bool (decide ((b.D.length : Int) > 1000))))) ?_
  refine rvc_nil ?_
  refine Awp.cond (b := (decide ((b.D.length : Int) > 1000))) rfl (fun h2 => ?_) (fun h2 => ?_)
  ·
   replace hR := of_true h2 hR
   refine Awp.consP C ?_
   refine rvc_un (rexec_call hP C rfl rfl rfl (awake_calls ) ?_)
   refine rvP C (.pv (.lit (.bool (awake )))) ?_
   refine rvc_nil ?_
   refine Awp.ret ?_
   subst hR
   exact ⟨.inl rfl, rfl⟩
  ·
   replace hR := of_false h2 hR
   refine Awp.skip ?_
   refine Awp.consP C ?_
   refine rvP C (sS (some a.nil) eSeen a.D) ?_
   refine rvP C (sS (some b.nil) eSeen b.D) ?_
   obtain ⟨s1, hq_s1⟩ : ∃ q_, q_ = (pJoin a b) := ⟨_, rfl⟩
   have hc_s1 := (pJoin_calls a b ha hb hn (by show b.D.length ≤ 1000; have := of_decide_eq_false h1; have := of_decide_eq_false h2; omega) (by show a.D.length ≤ 1000; have := of_decide_eq_false h1; have := of_decide_eq_false h2; omega))
   first | rw [← hq_s1] at hR hc_s1 | (unfold lawJoins at hR; rw [← hq_s1] at hR hc_s1)
   have hf0_s1 := pJoin_ok (a := a) (b := b) ha hb hn (by have := of_decide_eq_false ‹decide ((a.D.length : Int) > 1000) = false›; omega)
   rw [← hq_s1] at hf0_s1
   refine rvc_un (rexec_call hP C rfl rfl rfl hc_s1 ?_)
   refine rvP C (.tup [sS (some s1.1.nil) eSeen s1.1.D, .pv (.lit (.int .i64 s1.2))]) ?_
   refine rvP C (sS (some s1.1.nil) eSeen s1.1.D) ?_
   refine rvP C (.pv (.lit (.int .i64 s1.2))) ?_
   refine rvP C (sS (some s1.1.nil) eSeen s1.1.D) ?_
   refine rvP C (.pv (.lit (.int .i64 s1.2))) ?_
   refine rvc_nil ?_
   refine Awp.consP C ?_
   refine rvP C (sS (some a.nil) eSeen a.D) ?_
   refine rvP C (sS (some b.nil) eSeen b.D) ?_
   refine rvc_un (rexec_call hP C rfl rfl rfl (rpJoin_calls a b ha hb (by show b.D.length ≤ 1000; have := of_decide_eq_false h1; have := of_decide_eq_false h2; omega) (by show a.D.length ≤ 1000; have := of_decide_eq_false h1; have := of_decide_eq_false h2; omega)) ?_)
   refine rvP C (.tup [sS (some (rpJoin a b).1.nil) eSeen ((rpJoin a b).1.D), .pv (.lit (.int .i64 ((rpJoin a b).2)))]) ?_
   refine rvP C (sS (some (rpJoin a b).1.nil) eSeen ((rpJoin a b).1.D)) ?_
   refine rvP C (.pv (.lit (.int .i64 ((rpJoin a b).2)))) ?_
   refine rvP C (sS (some (rpJoin a b).1.nil) eSeen ((rpJoin a b).1.D)) ?_
   refine rvP C (.pv (.lit (.int .i64 ((rpJoin a b).2)))) ?_
   refine rvc_nil ?_
   refine Awp.consP C ?_
   refine rvP C (sS (some s1.1.nil) eSeen s1.1.D) ?_
   refine rvP C (sS (some (rpJoin a b).1.nil) eSeen ((rpJoin a b).1.D)) ?_
   refine rvc_un (rexec_call hP C rfl rfl rfl (eqSeen_calls s1.1 ((rpJoin a b).1) (Nat.le_trans hf0_s1.2.2 (by decide))) ?_)
   refine rvP C (.pv (.lit (.bool (eqSeen s1.1 ((rpJoin a b).1))))) ?_
   refine rvc_case 33 (eqSeen s1.1 ((rpJoin a b).1)) rfl (fun h3 => ?_) (fun h3 => ?_)
   ·
    replace hR := of_true h3 hR
    refine rvO C (.pv (.lit (.int .i64 s1.2))) ?_
    refine rvO C (.pv (.lit (.int .i64 ((rpJoin a b).2)))) ?_
    refine rvO C (.pv (.lit (.bool (s1.2 == ((rpJoin a b).2))))) ?_
    refine rvP C (.pv (.lit (.bool (s1.2 == ((rpJoin a b).2))))) ?_
    refine rvP C (.pv (.lit (.bool (s1.2 == ((rpJoin a b).2))))) ?_
    refine rvc_case 38 (s1.2 == ((rpJoin a b).2)) rfl (fun h4 => ?_) (fun h4 => ?_)
    ·
     replace hR := of_true h4 hR
     refine rvc_open rfl rfl rfl (rexec_call hP C rfl rfl rfl (awake_calls ) ?_)
     refine rvP C (.pv (.lit (.bool (awake )))) ?_
     refine rvP C (.pv (.lit (.bool (awake )))) ?_
     refine rvc_nil ?_
     refine Awp.ret ?_
     subst hR
     exact ⟨.inl rfl, rfl⟩
    ·
     replace hR := of_false h4 hR
     refine rvS ?_
     refine rvP C (.pv (.lit (.bool false))) ?_
     refine rvP C (.pv (.lit (.bool false))) ?_
     refine rvc_nil ?_
     refine Awp.ret ?_
     subst hR
     exact ⟨.inl rfl, rfl⟩
   ·
    replace hR := of_false h3 hR
    refine rvS ?_
    refine rvS ?_
    refine rvS ?_
    refine rvP C (.pv (.lit (.bool false))) ?_
    refine rvP C (.pv (.lit (.bool false))) ?_
    refine rvS ?_
    refine rvP C (.pv (.lit (.bool false))) ?_
    refine rvP C (.pv (.lit (.bool false))) ?_
    refine rvc_nil ?_
    refine Awp.ret ?_
    subst hR
    exact ⟨.inl rfl, rfl⟩
end Go.Proofs.YthnghkkbnhjlgaaDoor
/- Inputs of chapter 10, as plain values. No conditions. -/
namespace Go.Proofs.YthnghkkbnhjlgaaDoor
open Go.Am
set_option maxRecDepth 100000 in
theorem flat5 {m : Nat} {ps : List PV} (h : FlatA Tryd.prog (m + 1) 5 ps) : ∃ n, ps = [.lit (.int .u8 n)] ∧ (Lit.int .u8 n).wf = true := by
  unfold FlatA at h
  rw [Tryd.underlying5] at h
  exact h
def WT30 (f : Nat → Int) : Prop := ∀ j, j < 8 → (Lit.int .u8 (f j)).wf = true
set_option maxRecDepth 100000 in
theorem flat30 {m : Nat} {ps : List PV} (h : FlatA Tryd.prog (m + 2) 30 ps) : ∃ f : Nat → Int, ps = [.lit (.int .u8 (f 0)), .lit (.int .u8 (f 1)), .lit (.int .u8 (f 2)), .lit (.int .u8 (f 3)), .lit (.int .u8 (f 4)), .lit (.int .u8 (f 5)), .lit (.int .u8 (f 6)), .lit (.int .u8 (f 7))] ∧ WT30 f := by
  unfold FlatA at h
  rw [Tryd.underlying30] at h
  obtain ⟨D, rfl, h1, h2⟩ := h
  obtain ⟨a0, a1, a2, a3, a4, a5, a6, a7, rfl⟩ := len8 h1
  obtain ⟨x0, rfl, w0⟩ := flat5 (m := m) (h2 a0 (by simp))
  obtain ⟨x1, rfl, w1⟩ := flat5 (m := m) (h2 a1 (by simp))
  obtain ⟨x2, rfl, w2⟩ := flat5 (m := m) (h2 a2 (by simp))
  obtain ⟨x3, rfl, w3⟩ := flat5 (m := m) (h2 a3 (by simp))
  obtain ⟨x4, rfl, w4⟩ := flat5 (m := m) (h2 a4 (by simp))
  obtain ⟨x5, rfl, w5⟩ := flat5 (m := m) (h2 a5 (by simp))
  obtain ⟨x6, rfl, w6⟩ := flat5 (m := m) (h2 a6 (by simp))
  obtain ⟨x7, rfl, w7⟩ := flat5 (m := m) (h2 a7 (by simp))
  refine ⟨ofL [x0, x1, x2, x3, x4, x5, x6, x7], rfl, fun j hj => ?_⟩
  rcases (by omega : j = 0 ∨ j = 1 ∨ j = 2 ∨ j = 3 ∨ j = 4 ∨ j = 5 ∨ j = 6 ∨ j = 7) with rfl | rfl | rfl | rfl | rfl | rfl | rfl | rfl
  · exact w0
  · exact w1
  · exact w2
  · exact w3
  · exact w4
  · exact w5
  · exact w6
  · exact w7
set_option maxRecDepth 100000 in
theorem flat3 {m : Nat} {ps : List PV} (h : FlatA Tryd.prog (m + 1) 3 ps) : ∃ n, ps = [.lit (.int .i64 n)] ∧ (Lit.int .i64 n).wf = true := by
  unfold FlatA at h
  rw [Tryd.underlying3] at h
  exact h
def WT32 (x : Seen) : Prop := WT30 x.key ∧ (Lit.int .i64 x.ver).wf = true
set_option maxRecDepth 100000 in
theorem flat32 {m : Nat} {ps : List PV} (h : FlatA Tryd.prog (m + 3) 32 ps) : ∃ x : Seen, ps = eSeen.enc x ∧ WT32 x := by
  unfold FlatA at h
  rw [Tryd.underlying32] at h
  obtain ⟨a0, b0, e0, h0, a1, b1, e1, h1, el⟩ := h
  obtain ⟨x0, rfl, w0⟩ := flat30 (m := m + 0) h0
  obtain ⟨x1, rfl, w1⟩ := flat3 (m := m + 1) h1
  subst el
  subst e1
  subst e0
  exact ⟨⟨x0, x1⟩, rfl, w0, w1⟩
def WT22 (s : Sl Seen) : Prop := s.D.length ≤ maxLen ∧ (s.nil = true → s.D = []) ∧ ∀ x ∈ s.D, WT32 x
set_option maxRecDepth 100000 in
theorem flat22 {m : Nat} {ps : List PV} (h : FlatA Tryd.prog (m + 4) 22 ps) : ∃ s : Sl Seen, ps = [.sl (some s.nil) s.D.length (encL eSeen s.D)] ∧ WT22 s := by
  unfold FlatA at h
  rw [Tryd.underlying22] at h
  obtain ⟨b, D, rfl, h1, h2, h3⟩ := h
  obtain ⟨D2, e1, e2, e3⟩ := enc_list (e := eSeen) (W := fun x => WT32 x) D fun y hy => flat32 (h3 y hy)
  rw [e2, ← e1]
  exact ⟨⟨b, D2⟩, rfl, (by show D2.length ≤ _; rw [e1]; exact h1), (fun hb => by have := h2 hb; rw [this] at e1; exact List.eq_nil_of_length_eq_zero e1), e3⟩
def WT27 (s : Sl Int) : Prop := s.D.length ≤ maxLen ∧ (s.nil = true → s.D = []) ∧ ∀ x ∈ s.D, (Lit.int .u8 x).wf = true
end Go.Proofs.YthnghkkbnhjlgaaDoor
/- The inputs of chapter 10's laws. No conditions. -/
namespace Go.Proofs.YthnghkkbnhjlgaaDoor
open Go.Am
theorem wf8 {n : Int} (h : (Lit.int .u8 n).wf = true) : 0 ≤ n ∧ n < 256 := by
  have h' : (decide (IntKind.u8.min ≤ n) && decide (n ≤ IntKind.u8.max)) = true := h
  simp only [Bool.and_eq_true, decide_eq_true_eq] at h'
  have e1 : IntKind.u8.min = 0 := rfl
  have e2 : IntKind.u8.max = 255 := rfl
  omega
theorem WT22.kb {l : Sl Seen} (h : WT22 l) : KB l.D := fun x hx j hj => wf8 ((h.2.2 x hx).1 j hj)
theorem WT27.b8 {b : Sl Int} (h : WT27 b) : B8 b.D := fun x hx => wf8 (h.2.2 x hx)
theorem big_le {n : Nat} (h : n ≤ maxLen) : n ≤ 9223372036854775807 := Nat.le_trans h (by decide)
end Go.Proofs.YthnghkkbnhjlgaaDoor
/- PassJoins: the law answers true. No conditions. -/
namespace Go.Proofs.YthnghkkbnhjlgaaDoor
open Go.Am
theorem lawJoins_true {a b : Sl Seen} (wa : WT22 a) (wb : WT22 b) : lawJoins a b = true := by
  unfold lawJoins
  rw [awake_true]
  cases e1 : decide ((a.D.length : Int) > 1000)
  · cases e2 : decide ((b.D.length : Int) > 1000)
    · have h1 := of_decide_eq_false e1
      have h2 := of_decide_eq_false e2
      obtain ⟨q1, q2⟩ := (pJoin_spec wa.kb wb.kb wa.2.1 (by omega) (by omega)).same (rpJoin_spec wa.kb wb.kb (by omega) (by omega))
      rw [cond_false, cond_false, eqSeen_eq, decide_eq_true q2, q1, beq_self_eq_true]; rfl
    · rfl
  · rfl
theorem passJoins_calls (a : Sl Seen) (wa : WT22 a) (b : Sl Seen) (wb : WT22 b) : PCalls Tryd.prog 9 [sS (some a.nil) eSeen a.D, sS (some b.nil) eSeen b.D] (.pv (.lit (.bool true))) := by
  have h := lawJoins_calls a b wa.kb wb.kb wa.2.1 (big_le wb.1) (big_le wa.1)
  rw [lawJoins_true wa wb] at h
  exact h
end Go.Proofs.YthnghkkbnhjlgaaDoor
/- What all rows of this seat need: no knob is turned, the types are laid out. No conditions. -/
namespace Go.Proofs.YthnghkkbnhjlgaaDoor
open Go.Am
theorem own : ownKnob Tryd.prog.godebug = none := by kernel_rfl
theorem laidOut : laidOutB Tryd.prog = true := by kernel_rfl
end Go.Proofs.YthnghkkbnhjlgaaDoor
