import Derived.Test.YthnghkkbnhjlgaaDoorM1
import Derived.Test.YthnghkkbnhjlgaaDoorM2
import Derived.Test.YthnghkkbnhjlgaaDoorM3
import Derived.Test.YthnghkkbnhjlgaaDoorM5
import Derived.KernelRfl
import Derived.Test.YthnghkkbnhjlgaaDoorM4
/- The example. No conditions. -/
namespace Go.Proofs.YthnghkkbnhjlgaaDoor
open Go.Am
def awake  : Bool :=
  (bif ((pSee (Sl.mk true []) (nameK [(97 : Int)]) 3).2 == 0) then (bif ((pSee (pSee (Sl.mk true []) (nameK [(97 : Int)]) 3).1 (nameK [(98 : Int)]) 1).2 == 0) then (bif ((pSee (pSee (pSee (Sl.mk true []) (nameK [(97 : Int)]) 3).1 (nameK [(98 : Int)]) 1).1 (nameK [(97 : Int)]) 2).2 == 0) then (bif (((pMake (Sl.mk false [48, 49, 50, 51, 52, 53, 54, 55, 56, 57, 97, 98, 99, 100, 101, 102]) (pSee (pSee (pSee (Sl.mk true []) (nameK [(97 : Int)]) 3).1 (nameK [(98 : Int)]) 1).1 (nameK [(97 : Int)]) 2).1).2) == 0) then (bif (((pRead (Sl.mk false [48, 49, 50, 51, 52, 53, 54, 55, 56, 57, 97, 98, 99, 100, 101, 102]) ((pMake (Sl.mk false [48, 49, 50, 51, 52, 53, 54, 55, 56, 57, 97, 98, 99, 100, 101, 102]) (pSee (pSee (pSee (Sl.mk true []) (nameK [(97 : Int)]) 3).1 (nameK [(98 : Int)]) 1).1 (nameK [(97 : Int)]) 2).1).1)).2) == 0) then (bif (((pRead (Sl.mk false [48, 49, 50, 51, 52, 53, 54, 55, 56, 57, 97, 98, 99, 100, 101, 102]) (Sl.mk false (List.replicate 7 0))).2) == 100) then (bif (eqSeen (pSee (pSee (pSee (Sl.mk true []) (nameK [(97 : Int)]) 3).1 (nameK [(98 : Int)]) 1).1 (nameK [(97 : Int)]) 2).1 (Sl.mk false [(Seen.mk (nameK [(97 : Int)]) 3), (Seen.mk (nameK [(98 : Int)]) 1)])) then (eqSeen ((pRead (Sl.mk false [48, 49, 50, 51, 52, 53, 54, 55, 56, 57, 97, 98, 99, 100, 101, 102]) ((pMake (Sl.mk false [48, 49, 50, 51, 52, 53, 54, 55, 56, 57, 97, 98, 99, 100, 101, 102]) (pSee (pSee (pSee (Sl.mk true []) (nameK [(97 : Int)]) 3).1 (nameK [(98 : Int)]) 1).1 (nameK [(97 : Int)]) 2).1).1)).1) (pSee (pSee (pSee (Sl.mk true []) (nameK [(97 : Int)]) 3).1 (nameK [(98 : Int)]) 1).1 (nameK [(97 : Int)]) 2).1) else false) else false) else false) else false) else false) else false) else false)
theorem awake_calls   : PCalls Tryd.prog 13 [] (.pv (.lit (.bool (awake )))) := by
 generalize hR : awake  = R
 refine PCalls.of_body tabOk Tryd.func13 rfl rfl rfl rfl rfl mixed fun E hP C hI => ?_
 refine Awp.consP C ?_
 refine rvP C (.pv (.lit (.bool false))) ?_
 refine rvc_nil ?_
 refine Awp.cons C (fun o => match o.dst with | some 13 => .writes [12] | _ => .writer) (by kernel_rfl) ?_
 refine rvc_un (rexec_prim C (δ := { v := .sl 12 0 ([48, 49, 50, 51, 52, 53, 54, 55, 56, 57, 97, 98, 99, 100, 101, 102].length) 1 true, new := [(12, .cells (encC (eI .u8) [48, 49, 50, 51, 52, 53, 54, 55, 56, 57, 97, 98, 99, 100, 101, 102]))] }) rfl rfl rfl rfl trivial rfl ?_)
 refine rvc_un (rexec_convOwn C rfl [48, 49, 50, 51, 52, 53, 54, 55, 56, 57, 97, 98, 99, 100, 101, 102] rfl rfl rfl rfl rfl rfl rfl ?_)
 refine rvP C (sS (some false) (eI .u8) [48, 49, 50, 51, 52, 53, 54, 55, 56, 57, 97, 98, 99, 100, 101, 102]) ?_
 refine rvc_nil ?_
 refine Awp.consP C ?_
 refine rvc_un (rexec_call hP C rfl rfl rfl (nameK_calls [(97 : Int)] (rng8 97 (by decide))) ?_)
 obtain ⟨s1, hq_s1⟩ : ∃ q_, q_ = (pSee (Sl.mk true []) (nameK [(97 : Int)]) 3) := ⟨_, rfl⟩
 have hc_s1 := (pSee_calls (Sl.mk true []) (nameK [(97 : Int)]) 3 KB_nil (name1_B 97 (by decide)) (fun _ => rfl) (Nat.zero_le _))
 first | rw [← hq_s1] at hR hc_s1 | (unfold awake at hR; rw [← hq_s1] at hR hc_s1)
 have hf0_s1 := pSee_ok (l := (Sl.mk true [])) (k := (nameK [(97 : Int)])) (v := 3) KB_nil (name1_B 97 (by decide)) (fun _ => rfl) (Nat.zero_le _)
 rw [← hq_s1] at hf0_s1
 refine rvc_un (rexec_call hP C rfl rfl rfl hc_s1 ?_)
 refine rvP C (.tup [sS (some s1.1.nil) eSeen s1.1.D, .pv (.lit (.int .i64 s1.2))]) ?_
 refine rvP C (sS (some s1.1.nil) eSeen s1.1.D) ?_
 refine rvP C (.pv (.lit (.int .i64 s1.2))) ?_
 refine rvP C (sS (some s1.1.nil) eSeen s1.1.D) ?_
 refine rvP C (.pv (.lit (.int .i64 s1.2))) ?_
 refine rvc_nil ?_
 refine Awp.consP C ?_
 refine rvP C (sS (some s1.1.nil) eSeen s1.1.D) ?_
 refine rvc_un (rexec_call hP C rfl rfl rfl (nameK_calls [(98 : Int)] (rng8 98 (by decide))) ?_)
 obtain ⟨s2, hq_s2⟩ : ∃ q_, q_ = (pSee s1.1 (nameK [(98 : Int)]) 1) := ⟨_, rfl⟩
 have hc_s2 := (pSee_calls s1.1 (nameK [(98 : Int)]) 1 hf0_s1.1 (name1_B 98 (by decide)) hf0_s1.2.1 hf0_s1.2.2)
 first | rw [← hq_s2] at hR hc_s2 | (unfold awake at hR; rw [← hq_s2] at hR hc_s2)
 have hf0_s2 := pSee_ok (l := s1.1) (k := (nameK [(98 : Int)])) (v := 1) hf0_s1.1 (name1_B 98 (by decide)) hf0_s1.2.1 hf0_s1.2.2
 rw [← hq_s2] at hf0_s2
 refine rvc_un (rexec_call hP C rfl rfl rfl hc_s2 ?_)
 refine rvP C (.tup [sS (some s2.1.nil) eSeen s2.1.D, .pv (.lit (.int .i64 s2.2))]) ?_
 refine rvP C (sS (some s2.1.nil) eSeen s2.1.D) ?_
 refine rvP C (.pv (.lit (.int .i64 s2.2))) ?_
 refine rvP C (sS (some s2.1.nil) eSeen s2.1.D) ?_
 refine rvP C (.pv (.lit (.int .i64 s2.2))) ?_
 refine rvc_nil ?_
 refine Awp.consP C ?_
 refine rvP C (sS (some s2.1.nil) eSeen s2.1.D) ?_
 refine rvc_un (rexec_call hP C rfl rfl rfl (nameK_calls [(97 : Int)] (rng8 97 (by decide))) ?_)
 obtain ⟨s3, hq_s3⟩ : ∃ q_, q_ = (pSee s2.1 (nameK [(97 : Int)]) 2) := ⟨_, rfl⟩
 have hc_s3 := (pSee_calls s2.1 (nameK [(97 : Int)]) 2 hf0_s2.1 (name1_B 97 (by decide)) hf0_s2.2.1 hf0_s2.2.2)
 first | rw [← hq_s3] at hR hc_s3 | (unfold awake at hR; rw [← hq_s3] at hR hc_s3)
 have hf0_s3 := pSee_ok (l := s2.1) (k := (nameK [(97 : Int)])) (v := 2) hf0_s2.1 (name1_B 97 (by decide)) hf0_s2.2.1 hf0_s2.2.2
 rw [← hq_s3] at hf0_s3
 refine rvc_un (rexec_call hP C rfl rfl rfl hc_s3 ?_)
 refine rvP C (.tup [sS (some s3.1.nil) eSeen s3.1.D, .pv (.lit (.int .i64 s3.2))]) ?_
 refine rvP C (sS (some s3.1.nil) eSeen s3.1.D) ?_
 refine rvP C (.pv (.lit (.int .i64 s3.2))) ?_
 refine rvP C (sS (some s3.1.nil) eSeen s3.1.D) ?_
 refine rvP C (.pv (.lit (.int .i64 s3.2))) ?_
 refine rvc_nil ?_
 refine Awp.consP C ?_
 refine rvP C (sS (some false) (eI .u8) [48, 49, 50, 51, 52, 53, 54, 55, 56, 57, 97, 98, 99, 100, 101, 102]) ?_
 refine rvP C (sS (some s3.1.nil) eSeen s3.1.D) ?_
 refine rvc_un (rexec_call hP C rfl rfl rfl (pMake_calls (Sl.mk false [48, 49, 50, 51, 52, 53, 54, 55, 56, 57, 97, 98, 99, 100, 101, 102]) s3.1 hf0_s3.1 hf0_s3.2.2) ?_)
 refine rvP C (.tup [sS (some (pMake (Sl.mk false [48, 49, 50, 51, 52, 53, 54, 55, 56, 57, 97, 98, 99, 100, 101, 102]) s3.1).1.nil) (eI .u8) ((pMake (Sl.mk false [48, 49, 50, 51, 52, 53, 54, 55, 56, 57, 97, 98, 99, 100, 101, 102]) s3.1).1.D), .pv (.lit (.int .i64 ((pMake (Sl.mk false [48, 49, 50, 51, 52, 53, 54, 55, 56, 57, 97, 98, 99, 100, 101, 102]) s3.1).2)))]) ?_
 refine rvP C (sS (some (pMake (Sl.mk false [48, 49, 50, 51, 52, 53, 54, 55, 56, 57, 97, 98, 99, 100, 101, 102]) s3.1).1.nil) (eI .u8) ((pMake (Sl.mk false [48, 49, 50, 51, 52, 53, 54, 55, 56, 57, 97, 98, 99, 100, 101, 102]) s3.1).1.D)) ?_
 refine rvP C (.pv (.lit (.int .i64 ((pMake (Sl.mk false [48, 49, 50, 51, 52, 53, 54, 55, 56, 57, 97, 98, 99, 100, 101, 102]) s3.1).2)))) ?_
 refine rvP C (sS (some (pMake (Sl.mk false [48, 49, 50, 51, 52, 53, 54, 55, 56, 57, 97, 98, 99, 100, 101, 102]) s3.1).1.nil) (eI .u8) ((pMake (Sl.mk false [48, 49, 50, 51, 52, 53, 54, 55, 56, 57, 97, 98, 99, 100, 101, 102]) s3.1).1.D)) ?_
 refine rvP C (.pv (.lit (.int .i64 ((pMake (Sl.mk false [48, 49, 50, 51, 52, 53, 54, 55, 56, 57, 97, 98, 99, 100, 101, 102]) s3.1).2)))) ?_
 refine rvc_nil ?_
 refine Awp.consP C ?_
 refine rvP C (sS (some false) (eI .u8) [48, 49, 50, 51, 52, 53, 54, 55, 56, 57, 97, 98, 99, 100, 101, 102]) ?_
 refine rvP C (sS (some (pMake (Sl.mk false [48, 49, 50, 51, 52, 53, 54, 55, 56, 57, 97, 98, 99, 100, 101, 102]) s3.1).1.nil) (eI .u8) ((pMake (Sl.mk false [48, 49, 50, 51, 52, 53, 54, 55, 56, 57, 97, 98, 99, 100, 101, 102]) s3.1).1.D)) ?_
 refine rvc_un (rexec_call hP C rfl rfl rfl (pRead_calls (Sl.mk false [48, 49, 50, 51, 52, 53, 54, 55, 56, 57, 97, 98, 99, 100, 101, 102]) ((pMake (Sl.mk false [48, 49, 50, 51, 52, 53, 54, 55, 56, 57, 97, 98, 99, 100, 101, 102]) s3.1).1)) ?_)
 refine rvP C (.tup [sS (some (pRead (Sl.mk false [48, 49, 50, 51, 52, 53, 54, 55, 56, 57, 97, 98, 99, 100, 101, 102]) ((pMake (Sl.mk false [48, 49, 50, 51, 52, 53, 54, 55, 56, 57, 97, 98, 99, 100, 101, 102]) s3.1).1)).1.nil) eSeen ((pRead (Sl.mk false [48, 49, 50, 51, 52, 53, 54, 55, 56, 57, 97, 98, 99, 100, 101, 102]) ((pMake (Sl.mk false [48, 49, 50, 51, 52, 53, 54, 55, 56, 57, 97, 98, 99, 100, 101, 102]) s3.1).1)).1.D), .pv (.lit (.int .i64 ((pRead (Sl.mk false [48, 49, 50, 51, 52, 53, 54, 55, 56, 57, 97, 98, 99, 100, 101, 102]) ((pMake (Sl.mk false [48, 49, 50, 51, 52, 53, 54, 55, 56, 57, 97, 98, 99, 100, 101, 102]) s3.1).1)).2)))]) ?_
 refine rvP C (sS (some (pRead (Sl.mk false [48, 49, 50, 51, 52, 53, 54, 55, 56, 57, 97, 98, 99, 100, 101, 102]) ((pMake (Sl.mk false [48, 49, 50, 51, 52, 53, 54, 55, 56, 57, 97, 98, 99, 100, 101, 102]) s3.1).1)).1.nil) eSeen ((pRead (Sl.mk false [48, 49, 50, 51, 52, 53, 54, 55, 56, 57, 97, 98, 99, 100, 101, 102]) ((pMake (Sl.mk false [48, 49, 50, 51, 52, 53, 54, 55, 56, 57, 97, 98, 99, 100, 101, 102]) s3.1).1)).1.D)) ?_
 refine rvP C (.pv (.lit (.int .i64 ((pRead (Sl.mk false [48, 49, 50, 51, 52, 53, 54, 55, 56, 57, 97, 98, 99, 100, 101, 102]) ((pMake (Sl.mk false [48, 49, 50, 51, 52, 53, 54, 55, 56, 57, 97, 98, 99, 100, 101, 102]) s3.1).1)).2)))) ?_
 refine rvP C (sS (some (pRead (Sl.mk false [48, 49, 50, 51, 52, 53, 54, 55, 56, 57, 97, 98, 99, 100, 101, 102]) ((pMake (Sl.mk false [48, 49, 50, 51, 52, 53, 54, 55, 56, 57, 97, 98, 99, 100, 101, 102]) s3.1).1)).1.nil) eSeen ((pRead (Sl.mk false [48, 49, 50, 51, 52, 53, 54, 55, 56, 57, 97, 98, 99, 100, 101, 102]) ((pMake (Sl.mk false [48, 49, 50, 51, 52, 53, 54, 55, 56, 57, 97, 98, 99, 100, 101, 102]) s3.1).1)).1.D)) ?_
 refine rvP C (.pv (.lit (.int .i64 ((pRead (Sl.mk false [48, 49, 50, 51, 52, 53, 54, 55, 56, 57, 97, 98, 99, 100, 101, 102]) ((pMake (Sl.mk false [48, 49, 50, 51, 52, 53, 54, 55, 56, 57, 97, 98, 99, 100, 101, 102]) s3.1).1)).2)))) ?_
 refine rvc_nil ?_
 refine Awp.consP C ?_
 refine rvP C (sS (some false) (eI .u8) [48, 49, 50, 51, 52, 53, 54, 55, 56, 57, 97, 98, 99, 100, 101, 102]) ?_
 refine rvc_un (rexec_makeSliceF C (encL (eI .u8) (List.replicate 7 0)) (List.replicate 7 0).length rfl rfl rfl rfl rfl (by decide) rfl rfl ?_)
 refine rvc_un (rexec_call hP C rfl rfl rfl (pRead_calls (Sl.mk false [48, 49, 50, 51, 52, 53, 54, 55, 56, 57, 97, 98, 99, 100, 101, 102]) (Sl.mk false (List.replicate 7 0))) ?_)
 refine rvP C (.tup [sS (some (pRead (Sl.mk false [48, 49, 50, 51, 52, 53, 54, 55, 56, 57, 97, 98, 99, 100, 101, 102]) (Sl.mk false (List.replicate 7 0))).1.nil) eSeen ((pRead (Sl.mk false [48, 49, 50, 51, 52, 53, 54, 55, 56, 57, 97, 98, 99, 100, 101, 102]) (Sl.mk false (List.replicate 7 0))).1.D), .pv (.lit (.int .i64 ((pRead (Sl.mk false [48, 49, 50, 51, 52, 53, 54, 55, 56, 57, 97, 98, 99, 100, 101, 102]) (Sl.mk false (List.replicate 7 0))).2)))]) ?_
 refine rvP C (sS (some (pRead (Sl.mk false [48, 49, 50, 51, 52, 53, 54, 55, 56, 57, 97, 98, 99, 100, 101, 102]) (Sl.mk false (List.replicate 7 0))).1.nil) eSeen ((pRead (Sl.mk false [48, 49, 50, 51, 52, 53, 54, 55, 56, 57, 97, 98, 99, 100, 101, 102]) (Sl.mk false (List.replicate 7 0))).1.D)) ?_
 refine rvP C (.pv (.lit (.int .i64 ((pRead (Sl.mk false [48, 49, 50, 51, 52, 53, 54, 55, 56, 57, 97, 98, 99, 100, 101, 102]) (Sl.mk false (List.replicate 7 0))).2)))) ?_
 refine rvP C (sS (some (pRead (Sl.mk false [48, 49, 50, 51, 52, 53, 54, 55, 56, 57, 97, 98, 99, 100, 101, 102]) (Sl.mk false (List.replicate 7 0))).1.nil) eSeen ((pRead (Sl.mk false [48, 49, 50, 51, 52, 53, 54, 55, 56, 57, 97, 98, 99, 100, 101, 102]) (Sl.mk false (List.replicate 7 0))).1.D)) ?_
 refine rvP C (.pv (.lit (.int .i64 ((pRead (Sl.mk false [48, 49, 50, 51, 52, 53, 54, 55, 56, 57, 97, 98, 99, 100, 101, 102]) (Sl.mk false (List.replicate 7 0))).2)))) ?_
 refine rvc_nil ?_
 refine Awp.consP C ?_
 refine rvP C (.pv (.lit (.int .i64 s1.2))) ?_
 refine rvP C (.pv (.lit (.bool (s1.2 == 0)))) ?_
 refine rvP C (.pv (.lit (.bool (s1.2 == 0)))) ?_
 refine rvc_case 51 (s1.2 == 0) rfl (fun h1 => ?_) (fun h1 => ?_)
 ·
  replace hR := of_true h1 hR
  refine rvO C (.pv (.lit (.int .i64 s2.2))) ?_
  refine rvO C (.pv (.lit (.bool (s2.2 == 0)))) ?_
  refine rvP C (.pv (.lit (.bool (s2.2 == 0)))) ?_
  refine rvP C (.pv (.lit (.bool (s2.2 == 0)))) ?_
  refine rvc_case 55 (s2.2 == 0) rfl (fun h2 => ?_) (fun h2 => ?_)
  ·
   replace hR := of_true h2 hR
   refine rvO C (.pv (.lit (.int .i64 s3.2))) ?_
   refine rvO C (.pv (.lit (.bool (s3.2 == 0)))) ?_
   refine rvP C (.pv (.lit (.bool (s3.2 == 0)))) ?_
   refine rvP C (.pv (.lit (.bool (s3.2 == 0)))) ?_
   refine rvc_case 59 (s3.2 == 0) rfl (fun h3 => ?_) (fun h3 => ?_)
   ·
    replace hR := of_true h3 hR
    refine rvO C (.pv (.lit (.int .i64 ((pMake (Sl.mk false [48, 49, 50, 51, 52, 53, 54, 55, 56, 57, 97, 98, 99, 100, 101, 102]) s3.1).2)))) ?_
    refine rvO C (.pv (.lit (.bool (((pMake (Sl.mk false [48, 49, 50, 51, 52, 53, 54, 55, 56, 57, 97, 98, 99, 100, 101, 102]) s3.1).2) == 0)))) ?_
    refine rvP C (.pv (.lit (.bool (((pMake (Sl.mk false [48, 49, 50, 51, 52, 53, 54, 55, 56, 57, 97, 98, 99, 100, 101, 102]) s3.1).2) == 0)))) ?_
    refine rvP C (.pv (.lit (.bool (((pMake (Sl.mk false [48, 49, 50, 51, 52, 53, 54, 55, 56, 57, 97, 98, 99, 100, 101, 102]) s3.1).2) == 0)))) ?_
    refine rvc_case 63 (((pMake (Sl.mk false [48, 49, 50, 51, 52, 53, 54, 55, 56, 57, 97, 98, 99, 100, 101, 102]) s3.1).2) == 0) rfl (fun h4 => ?_) (fun h4 => ?_)
    ·
     replace hR := of_true h4 hR
     refine rvO C (.pv (.lit (.int .i64 ((pRead (Sl.mk false [48, 49, 50, 51, 52, 53, 54, 55, 56, 57, 97, 98, 99, 100, 101, 102]) ((pMake (Sl.mk false [48, 49, 50, 51, 52, 53, 54, 55, 56, 57, 97, 98, 99, 100, 101, 102]) s3.1).1)).2)))) ?_
     refine rvO C (.pv (.lit (.bool (((pRead (Sl.mk false [48, 49, 50, 51, 52, 53, 54, 55, 56, 57, 97, 98, 99, 100, 101, 102]) ((pMake (Sl.mk false [48, 49, 50, 51, 52, 53, 54, 55, 56, 57, 97, 98, 99, 100, 101, 102]) s3.1).1)).2) == 0)))) ?_
     refine rvP C (.pv (.lit (.bool (((pRead (Sl.mk false [48, 49, 50, 51, 52, 53, 54, 55, 56, 57, 97, 98, 99, 100, 101, 102]) ((pMake (Sl.mk false [48, 49, 50, 51, 52, 53, 54, 55, 56, 57, 97, 98, 99, 100, 101, 102]) s3.1).1)).2) == 0)))) ?_
     refine rvP C (.pv (.lit (.bool (((pRead (Sl.mk false [48, 49, 50, 51, 52, 53, 54, 55, 56, 57, 97, 98, 99, 100, 101, 102]) ((pMake (Sl.mk false [48, 49, 50, 51, 52, 53, 54, 55, 56, 57, 97, 98, 99, 100, 101, 102]) s3.1).1)).2) == 0)))) ?_
     refine rvc_case 67 (((pRead (Sl.mk false [48, 49, 50, 51, 52, 53, 54, 55, 56, 57, 97, 98, 99, 100, 101, 102]) ((pMake (Sl.mk false [48, 49, 50, 51, 52, 53, 54, 55, 56, 57, 97, 98, 99, 100, 101, 102]) s3.1).1)).2) == 0) rfl (fun h5 => ?_) (fun h5 => ?_)
     ·
      replace hR := of_true h5 hR
      refine rvO C (.pv (.lit (.int .i64 ((pRead (Sl.mk false [48, 49, 50, 51, 52, 53, 54, 55, 56, 57, 97, 98, 99, 100, 101, 102]) (Sl.mk false (List.replicate 7 0))).2)))) ?_
      refine rvO C (.pv (.lit (.bool (((pRead (Sl.mk false [48, 49, 50, 51, 52, 53, 54, 55, 56, 57, 97, 98, 99, 100, 101, 102]) (Sl.mk false (List.replicate 7 0))).2) == 100)))) ?_
      refine rvP C (.pv (.lit (.bool (((pRead (Sl.mk false [48, 49, 50, 51, 52, 53, 54, 55, 56, 57, 97, 98, 99, 100, 101, 102]) (Sl.mk false (List.replicate 7 0))).2) == 100)))) ?_
      refine rvP C (.pv (.lit (.bool (((pRead (Sl.mk false [48, 49, 50, 51, 52, 53, 54, 55, 56, 57, 97, 98, 99, 100, 101, 102]) (Sl.mk false (List.replicate 7 0))).2) == 100)))) ?_
      refine rvc_case 71 (((pRead (Sl.mk false [48, 49, 50, 51, 52, 53, 54, 55, 56, 57, 97, 98, 99, 100, 101, 102]) (Sl.mk false (List.replicate 7 0))).2) == 100) rfl (fun h6 => ?_) (fun h6 => ?_)
      ·
       replace hR := of_true h6 hR
       refine rvO C (sS (some s3.1.nil) eSeen s3.1.D) ?_
       refine rvc_open rfl rfl rfl (rexec_call hP C rfl rfl rfl (nameK_calls [(97 : Int)] (rng8 97 (by decide))) ?_)
       refine rvO C (.agg [.pv (.lit (.int .u8 ((nameK [(97 : Int)]) 0))), .pv (.lit (.int .u8 ((nameK [(97 : Int)]) 1))), .pv (.lit (.int .u8 ((nameK [(97 : Int)]) 2))), .pv (.lit (.int .u8 ((nameK [(97 : Int)]) 3))), .pv (.lit (.int .u8 ((nameK [(97 : Int)]) 4))), .pv (.lit (.int .u8 ((nameK [(97 : Int)]) 5))), .pv (.lit (.int .u8 ((nameK [(97 : Int)]) 6))), .pv (.lit (.int .u8 ((nameK [(97 : Int)]) 7))), .pv (.lit (.int .i64 3))]) ?_
       refine rvc_open rfl rfl rfl (rexec_call hP C rfl rfl rfl (nameK_calls [(98 : Int)] (rng8 98 (by decide))) ?_)
       refine rvO C (.agg [.pv (.lit (.int .u8 ((nameK [(98 : Int)]) 0))), .pv (.lit (.int .u8 ((nameK [(98 : Int)]) 1))), .pv (.lit (.int .u8 ((nameK [(98 : Int)]) 2))), .pv (.lit (.int .u8 ((nameK [(98 : Int)]) 3))), .pv (.lit (.int .u8 ((nameK [(98 : Int)]) 4))), .pv (.lit (.int .u8 ((nameK [(98 : Int)]) 5))), .pv (.lit (.int .u8 ((nameK [(98 : Int)]) 6))), .pv (.lit (.int .u8 ((nameK [(98 : Int)]) 7))), .pv (.lit (.int .i64 1))]) ?_
       refine rvc_open rfl rfl rfl (rexec_buildSliceF C eSeen [(Seen.mk (nameK [(97 : Int)]) 3), (Seen.mk (nameK [(98 : Int)]) 1)] rfl rfl rfl rfl rfl rfl rfl (by decide) rfl ?_)
       refine rvc_open rfl rfl rfl (rexec_call hP C rfl rfl rfl (eqSeen_calls s3.1 (Sl.mk false [(Seen.mk (nameK [(97 : Int)]) 3), (Seen.mk (nameK [(98 : Int)]) 1)]) (Nat.le_trans hf0_s3.2.2 (by decide))) ?_)
       refine rvP C (.pv (.lit (.bool (eqSeen s3.1 (Sl.mk false [(Seen.mk (nameK [(97 : Int)]) 3), (Seen.mk (nameK [(98 : Int)]) 1)]))))) ?_
       refine rvP C (.pv (.lit (.bool (eqSeen s3.1 (Sl.mk false [(Seen.mk (nameK [(97 : Int)]) 3), (Seen.mk (nameK [(98 : Int)]) 1)]))))) ?_
       refine rvc_case 80 (eqSeen s3.1 (Sl.mk false [(Seen.mk (nameK [(97 : Int)]) 3), (Seen.mk (nameK [(98 : Int)]) 1)])) rfl (fun h7 => ?_) (fun h7 => ?_)
       ·
        replace hR := of_true h7 hR
        refine rvO C (sS (some (pRead (Sl.mk false [48, 49, 50, 51, 52, 53, 54, 55, 56, 57, 97, 98, 99, 100, 101, 102]) ((pMake (Sl.mk false [48, 49, 50, 51, 52, 53, 54, 55, 56, 57, 97, 98, 99, 100, 101, 102]) s3.1).1)).1.nil) eSeen ((pRead (Sl.mk false [48, 49, 50, 51, 52, 53, 54, 55, 56, 57, 97, 98, 99, 100, 101, 102]) ((pMake (Sl.mk false [48, 49, 50, 51, 52, 53, 54, 55, 56, 57, 97, 98, 99, 100, 101, 102]) s3.1).1)).1.D)) ?_
        refine rvO C (sS (some s3.1.nil) eSeen s3.1.D) ?_
        refine rvc_open rfl rfl rfl (rexec_call hP C rfl rfl rfl (eqSeen_calls ((pRead (Sl.mk false [48, 49, 50, 51, 52, 53, 54, 55, 56, 57, 97, 98, 99, 100, 101, 102]) ((pMake (Sl.mk false [48, 49, 50, 51, 52, 53, 54, 55, 56, 57, 97, 98, 99, 100, 101, 102]) s3.1).1)).1) s3.1 (Nat.le_trans (pRead_len (make_B8 _ _)) (by decide))) ?_)
        refine rvP C (.pv (.lit (.bool (eqSeen ((pRead (Sl.mk false [48, 49, 50, 51, 52, 53, 54, 55, 56, 57, 97, 98, 99, 100, 101, 102]) ((pMake (Sl.mk false [48, 49, 50, 51, 52, 53, 54, 55, 56, 57, 97, 98, 99, 100, 101, 102]) s3.1).1)).1) s3.1)))) ?_
        refine rvP C (.pv (.lit (.bool (eqSeen ((pRead (Sl.mk false [48, 49, 50, 51, 52, 53, 54, 55, 56, 57, 97, 98, 99, 100, 101, 102]) ((pMake (Sl.mk false [48, 49, 50, 51, 52, 53, 54, 55, 56, 57, 97, 98, 99, 100, 101, 102]) s3.1).1)).1) s3.1)))) ?_
        refine rvc_nil ?_
        refine Awp.ret ?_
        subst hR
        exact ⟨.inl rfl, rfl⟩
       ·
        replace hR := of_false h7 hR
        refine rvS ?_
        refine rvS ?_
        refine rvS ?_
        refine rvP C (.pv (.lit (.bool false))) ?_
        refine rvP C (.pv (.lit (.bool false))) ?_
        refine rvc_nil ?_
        refine Awp.ret ?_
        subst hR
        exact ⟨.inl rfl, rfl⟩
      ·
       replace hR := of_false h6 hR
       refine rvS ?_
       refine rvS ?_
       refine rvS ?_
       refine rvS ?_
       refine rvS ?_
       refine rvS ?_
       refine rvS ?_
       refine rvP C (.pv (.lit (.bool false))) ?_
       refine rvP C (.pv (.lit (.bool false))) ?_
       refine rvS ?_
       refine rvS ?_
       refine rvS ?_
       refine rvP C (.pv (.lit (.bool false))) ?_
       refine rvP C (.pv (.lit (.bool false))) ?_
       refine rvc_nil ?_
       refine Awp.ret ?_
       subst hR
       exact ⟨.inl rfl, rfl⟩
     ·
      replace hR := of_false h5 hR
      refine rvS ?_
      refine rvS ?_
      refine rvP C (.pv (.lit (.bool false))) ?_
      refine rvP C (.pv (.lit (.bool false))) ?_
      refine rvS ?_
      refine rvS ?_
      refine rvS ?_
      refine rvS ?_
      refine rvS ?_
      refine rvS ?_
      refine rvS ?_
      refine rvP C (.pv (.lit (.bool false))) ?_
      refine rvP C (.pv (.lit (.bool false))) ?_
      refine rvS ?_
      refine rvS ?_
      refine rvS ?_
      refine rvP C (.pv (.lit (.bool false))) ?_
      refine rvP C (.pv (.lit (.bool false))) ?_
      refine rvc_nil ?_
      refine Awp.ret ?_
      subst hR
      exact ⟨.inl rfl, rfl⟩
    ·
     replace hR := of_false h4 hR
     refine rvS ?_
     refine rvS ?_
     refine rvP C (.pv (.lit (.bool false))) ?_
     refine rvP C (.pv (.lit (.bool false))) ?_
     refine rvS ?_
     refine rvS ?_
     refine rvP C (.pv (.lit (.bool false))) ?_
     refine rvP C (.pv (.lit (.bool false))) ?_
     refine rvS ?_
     refine rvS ?_
     refine rvS ?_
     refine rvS ?_
     refine rvS ?_
     refine rvS ?_
     refine rvS ?_
     refine rvP C (.pv (.lit (.bool false))) ?_
     refine rvP C (.pv (.lit (.bool false))) ?_
     refine rvS ?_
     refine rvS ?_
     refine rvS ?_
     refine rvP C (.pv (.lit (.bool false))) ?_
     refine rvP C (.pv (.lit (.bool false))) ?_
     refine rvc_nil ?_
     refine Awp.ret ?_
     subst hR
     exact ⟨.inl rfl, rfl⟩
   ·
    replace hR := of_false h3 hR
    refine rvS ?_
    refine rvS ?_
    refine rvP C (.pv (.lit (.bool false))) ?_
    refine rvP C (.pv (.lit (.bool false))) ?_
    refine rvS ?_
    refine rvS ?_
    refine rvP C (.pv (.lit (.bool false))) ?_
    refine rvP C (.pv (.lit (.bool false))) ?_
    refine rvS ?_
    refine rvS ?_
    refine rvP C (.pv (.lit (.bool false))) ?_
    refine rvP C (.pv (.lit (.bool false))) ?_
    refine rvS ?_
    refine rvS ?_
    refine rvS ?_
    refine rvS ?_
    refine rvS ?_
    refine rvS ?_
    refine rvS ?_
    refine rvP C (.pv (.lit (.bool false))) ?_
    refine rvP C (.pv (.lit (.bool false))) ?_
    refine rvS ?_
    refine rvS ?_
    refine rvS ?_
    refine rvP C (.pv (.lit (.bool false))) ?_
    refine rvP C (.pv (.lit (.bool false))) ?_
    refine rvc_nil ?_
    refine Awp.ret ?_
    subst hR
    exact ⟨.inl rfl, rfl⟩
  ·
   replace hR := of_false h2 hR
   refine rvS ?_
   refine rvS ?_
   refine rvP C (.pv (.lit (.bool false))) ?_
   refine rvP C (.pv (.lit (.bool false))) ?_
   refine rvS ?_
   refine rvS ?_
   refine rvP C (.pv (.lit (.bool false))) ?_
   refine rvP C (.pv (.lit (.bool false))) ?_
   refine rvS ?_
   refine rvS ?_
   refine rvP C (.pv (.lit (.bool false))) ?_
   refine rvP C (.pv (.lit (.bool false))) ?_
   refine rvS ?_
   refine rvS ?_
   refine rvP C (.pv (.lit (.bool false))) ?_
   refine rvP C (.pv (.lit (.bool false))) ?_
   refine rvS ?_
   refine rvS ?_
   refine rvS ?_
   refine rvS ?_
   refine rvS ?_
   refine rvS ?_
   refine rvS ?_
   refine rvP C (.pv (.lit (.bool false))) ?_
   refine rvP C (.pv (.lit (.bool false))) ?_
   refine rvS ?_
   refine rvS ?_
   refine rvS ?_
   refine rvP C (.pv (.lit (.bool false))) ?_
   refine rvP C (.pv (.lit (.bool false))) ?_
   refine rvc_nil ?_
   refine Awp.ret ?_
   subst hR
   exact ⟨.inl rfl, rfl⟩
 ·
  replace hR := of_false h1 hR
  refine rvS ?_
  refine rvS ?_
  refine rvP C (.pv (.lit (.bool false))) ?_
  refine rvP C (.pv (.lit (.bool false))) ?_
  refine rvS ?_
  refine rvS ?_
  refine rvP C (.pv (.lit (.bool false))) ?_
  refine rvP C (.pv (.lit (.bool false))) ?_
  refine rvS ?_
  refine rvS ?_
  refine rvP C (.pv (.lit (.bool false))) ?_
  refine rvP C (.pv (.lit (.bool false))) ?_
  refine rvS ?_
  refine rvS ?_
  refine rvP C (.pv (.lit (.bool false))) ?_
  refine rvP C (.pv (.lit (.bool false))) ?_
  refine rvS ?_
  refine rvS ?_
  refine rvP C (.pv (.lit (.bool false))) ?_
  refine rvP C (.pv (.lit (.bool false))) ?_
  refine rvS ?_
  refine rvS ?_
  refine rvS ?_
  refine rvS ?_
  refine rvS ?_
  refine rvS ?_
  refine rvS ?_
  refine rvP C (.pv (.lit (.bool false))) ?_
  refine rvP C (.pv (.lit (.bool false))) ?_
  refine rvS ?_
  refine rvS ?_
  refine rvS ?_
  refine rvP C (.pv (.lit (.bool false))) ?_
  refine rvP C (.pv (.lit (.bool false))) ?_
  refine rvc_nil ?_
  refine Awp.ret ?_
  subst hR
  exact ⟨.inl rfl, rfl⟩
end Go.Proofs.YthnghkkbnhjlgaaDoor
/- The example is so; lists told apart, in plain words. No conditions. -/
namespace Go.Proofs.YthnghkkbnhjlgaaDoor
open Go.Am
theorem eqSeen_l0_eq (s2 : Sl Seen) : ∀ (xs : List Seen) (i : Nat), xs.length + i = s2.D.length → eqSeen_l0 s2 xs i = decide (xs.map rd = (s2.D.drop i).map rd)
  | [], i, h => by
    have : s2.D.drop i = [] := List.drop_of_length_le (by simp at h; omega)
    rw [this]; rfl
  | x :: xs, i, h => by
    have hi : i < s2.D.length := by simp at h; omega
    have ih := eqSeen_l0_eq s2 xs (i + 1) (by simp at h; omega)
    rw [List.drop_eq_getElem_cons hi]
    unfold eqSeen_l0
    rw [ih, Int.toNat_natCast, getElem!_pos s2.D i hi]
    have e : ((((x.key 0) == (s2.D[i].key 0)) && (((x.key 1) == (s2.D[i].key 1)) && (((x.key 2) == (s2.D[i].key 2)) && (((x.key 3) == (s2.D[i].key 3)) && (((x.key 4) == (s2.D[i].key 4)) && (((x.key 5) == (s2.D[i].key 5)) && (((x.key 6) == (s2.D[i].key 6)) && (((x.key 7) == (s2.D[i].key 7)) && true)))))))) && ((x.ver == s2.D[i].ver) && true)) = decide (rd x = rd s2.D[i]) := by
      rw [eq8]
      unfold rd
      rw [Bool.eq_iff_iff]
      simp
    rw [e]
    by_cases h1 : rd x = rd s2.D[i]
    · rw [decide_eq_true h1]
      show decide _ = _
      rw [decide_eq_decide, List.map_cons, List.map_cons, h1]
      simp only [List.cons.injEq, true_and]
    · rw [decide_eq_false h1]
      show false = _
      exact (decide_eq_false fun q => h1 (List.cons.inj q).1).symm
theorem eqSeen_eq (s1 s2 : Sl Seen) : eqSeen s1 s2 = decide (s1.D.map rd = s2.D.map rd) := by
  unfold eqSeen
  by_cases h : s1.D.length = s2.D.length
  · rw [show ((s1.D.length : Int) != (s2.D.length : Int)) = false by simp; omega, cond_false, eqSeen_l0_eq s2 s1.D 0 (by omega), List.drop_zero]
  · rw [show ((s1.D.length : Int) != (s2.D.length : Int)) = true by simp; omega, cond_true]
    exact (decide_eq_false fun q => h (len_rd q)).symm
def ex1 : Sl Seen × Int := pSee (Sl.mk true []) (nameK [(97 : Int)]) 3
def ex2 : Sl Seen × Int := pSee ex1.1 (nameK [(98 : Int)]) 1
def ex3 : Sl Seen × Int := pSee ex2.1 (nameK [(97 : Int)]) 2
theorem ex1_e : ex1.2 = 0 := by kernel_rfl
theorem ex2_e : ex2.2 = 0 := by kernel_rfl
theorem ex3_e : ex3.2 = 0 := by kernel_rfl
theorem ex3_r : pRight ex3.1 = 0 := by kernel_rfl
theorem ex3_rd : ex3.1.D.map rd = (Sl.mk false [(Seen.mk (nameK [(97 : Int)]) 3), (Seen.mk (nameK [(98 : Int)]) 1)]).D.map rd := by kernel_rfl
def exK : Sl Int := Sl.mk false [48, 49, 50, 51, 52, 53, 54, 55, 56, 57, 97, 98, 99, 100, 101, 102]
theorem ex_bad : (pRead exK (Sl.mk false (List.replicate 7 0))).2 = 100 := by
  rw [pRead_eq (b := Sl.mk false (List.replicate 7 0)) (fun x hx => by rw [List.eq_of_mem_replicate hx]; decide)]; rfl
theorem ex3_ok : KB ex3.1.D ∧ ex3.1.D.length ≤ 1000000 := by
  have h1 := pSee_ok (l := Sl.mk true []) (v := 3) KB_nil (name1_B 97 (by decide)) (fun _ => rfl) (Nat.zero_le _)
  have h2 := pSee_ok (v := 1) h1.1 (name1_B 98 (by decide)) h1.2.1 h1.2.2
  have h3 := pSee_ok (v := 2) h2.1 (name1_B 97 (by decide)) h2.2.1 h2.2.2
  exact ⟨h3.1, Nat.le_trans h3.2.2 (by decide)⟩
theorem awake_true : awake = true := by
  obtain ⟨k1, k2⟩ := ex3_ok
  obtain ⟨b1, b2, b3, _, _, _⟩ := pass_back (key := exK) rfl k1 k2 ex3_r
  have e : awake = bif (ex1.2 == 0) then (bif (ex2.2 == 0) then (bif (ex3.2 == 0) then (bif ((pMake exK ex3.1).2 == 0) then (bif ((pRead exK (pMake exK ex3.1).1).2 == 0) then (bif ((pRead exK (Sl.mk false (List.replicate 7 0))).2 == 100) then (bif eqSeen ex3.1 (Sl.mk false [(Seen.mk (nameK [(97 : Int)]) 3), (Seen.mk (nameK [(98 : Int)]) 1)]) then eqSeen (pRead exK (pMake exK ex3.1).1).1 ex3.1 else false) else false) else false) else false) else false) else false) else false := rfl
  rw [e, ex1_e, ex2_e, ex3_e, b1, b2, ex_bad, eqSeen_eq, eqSeen_eq, decide_eq_true ex3_rd, decide_eq_true b3]; rfl
theorem awake_is : PCalls Tryd.prog 13 [] (.pv (.lit (.bool true))) := by
  have h := awake_calls
  rw [awake_true] at h
  exact h
end Go.Proofs.YthnghkkbnhjlgaaDoor
/- What the laws ask of lists that are handed on. No conditions. -/
namespace Go.Proofs.YthnghkkbnhjlgaaDoor
open Go.Am
end Go.Proofs.YthnghkkbnhjlgaaDoor
/- Law: whether any list can have been seen. No conditions. -/
namespace Go.Proofs.YthnghkkbnhjlgaaDoor
open Go.Am
def lawRight (l : (Sl Seen)) : Bool :=
  (bif (decide ((l.D.length : Int) > 1000)) then true else (bif ((pRight l) == (rpRight l)) then true else false))
theorem lawRight_calls (l : (Sl Seen)) (hl : ∀ x ∈ l.D, KeyB x.key) (hl1 : l.D.length ≤ 9223372036854775807) : PCalls Tryd.prog 3 [sS (some l.nil) eSeen l.D] (.pv (.lit (.bool (lawRight l)))) := by
 generalize hR : lawRight l = R
 refine PCalls.of_body tabOk Tryd.func3 rfl rfl rfl rfl rfl mixed fun E hP C hI => ?_
 refine Awp.consP C ?_
 refine rvP C (.pv (.lit (.bool false))) ?_
 refine rvc_nil ?_
 refine Awp.consP C ?_
 refine rvP C (sS (some l.nil) eSeen l.D) ?_
 refine rvP C (.pv (.lit (.int .i64 (l.D.length : Int)))) ?_
 refine rvP C (.pv (.lit (.bool (decide ((l.D.length : Int) > 1000))))) ?_
 refine rvP C (.pv (.lit (.bool (decide ((l.D.length : Int) > 1000))))) ?_
 refine rvc_case 6 (decide ((l.D.length : Int) > 1000)) rfl (fun h1 => ?_) (fun h1 => ?_)
 ·
  replace hR := of_true h1 hR
  refine rvS ?_
  refine rvS ?_
  refine rvS ?_
  refine rvS ?_
  refine rvS ?_
  refine rvP C (.pv (.lit (.bool true))) ?_
  refine rvP C (.pv (.lit (.bool true))) ?_
  refine rvc_open rfl rfl rfl (rexec_call hP C rfl rfl rfl (awake_is ) ?_)
  refine rvP C (.pv (.lit (.bool true))) ?_
  refine rvP C (.pv (.lit (.bool true))) ?_
  refine rvc_nil ?_
  refine Awp.ret ?_
  subst hR
  exact ⟨.inl rfl, rfl⟩
 ·
  replace hR := of_false h1 hR
  refine rvO C (sS (some l.nil) eSeen l.D) ?_
  refine rvc_open rfl rfl rfl (rexec_call hP C rfl rfl rfl (pRight_calls l hl (by show l.D.length ≤ 1000000; have := of_decide_eq_false h1; omega)) ?_)
  refine rvO C (sS (some l.nil) eSeen l.D) ?_
  refine rvc_open rfl rfl rfl (rexec_call hP C rfl rfl rfl (rpRight_calls l hl (by show l.D.length ≤ 1000000; have := of_decide_eq_false h1; omega)) ?_)
  refine rvO C (.pv (.lit (.bool ((pRight l) == (rpRight l))))) ?_
  refine rvP C (.pv (.lit (.bool ((pRight l) == (rpRight l))))) ?_
  refine rvP C (.pv (.lit (.bool ((pRight l) == (rpRight l))))) ?_
  refine rvc_case 13 ((pRight l) == (rpRight l)) rfl (fun h2 => ?_) (fun h2 => ?_)
  ·
   replace hR := of_true h2 hR
   refine rvc_open rfl rfl rfl (rexec_call hP C rfl rfl rfl (awake_is ) ?_)
   refine rvP C (.pv (.lit (.bool true))) ?_
   refine rvP C (.pv (.lit (.bool true))) ?_
   refine rvc_nil ?_
   refine Awp.ret ?_
   subst hR
   exact ⟨.inl rfl, rfl⟩
  ·
   replace hR := of_false h2 hR
   refine rvS ?_
   refine rvP C (.pv (.lit (.bool false))) ?_
   refine rvP C (.pv (.lit (.bool false))) ?_
   refine rvc_nil ?_
   refine Awp.ret ?_
   subst hR
   exact ⟨.inl rfl, rfl⟩
end Go.Proofs.YthnghkkbnhjlgaaDoor
/- Inputs of chapter 10, as plain values. No conditions. -/
namespace Go.Proofs.YthnghkkbnhjlgaaDoor
open Go.Am
set_option maxRecDepth 100000 in
theorem flat5 {m : Nat} {ps : List PV} (h : FlatA Tryd.prog (m + 1) 5 ps) : ∃ n, ps = [.lit (.int .u8 n)] ∧ (Lit.int .u8 n).wf = true := by
  unfold FlatA at h
  rw [Tryd.underlying5] at h
  exact h
def WT30 (f : Nat → Int) : Prop := ∀ j, j < 8 → (Lit.int .u8 (f j)).wf = true
set_option maxRecDepth 100000 in
theorem flat30 {m : Nat} {ps : List PV} (h : FlatA Tryd.prog (m + 2) 30 ps) : ∃ f : Nat → Int, ps = [.lit (.int .u8 (f 0)), .lit (.int .u8 (f 1)), .lit (.int .u8 (f 2)), .lit (.int .u8 (f 3)), .lit (.int .u8 (f 4)), .lit (.int .u8 (f 5)), .lit (.int .u8 (f 6)), .lit (.int .u8 (f 7))] ∧ WT30 f := by
  unfold FlatA at h
  rw [Tryd.underlying30] at h
  obtain ⟨D, rfl, h1, h2⟩ := h
  obtain ⟨a0, a1, a2, a3, a4, a5, a6, a7, rfl⟩ := len8 h1
  obtain ⟨x0, rfl, w0⟩ := flat5 (m := m) (h2 a0 (by simp))
  obtain ⟨x1, rfl, w1⟩ := flat5 (m := m) (h2 a1 (by simp))
  obtain ⟨x2, rfl, w2⟩ := flat5 (m := m) (h2 a2 (by simp))
  obtain ⟨x3, rfl, w3⟩ := flat5 (m := m) (h2 a3 (by simp))
  obtain ⟨x4, rfl, w4⟩ := flat5 (m := m) (h2 a4 (by simp))
  obtain ⟨x5, rfl, w5⟩ := flat5 (m := m) (h2 a5 (by simp))
  obtain ⟨x6, rfl, w6⟩ := flat5 (m := m) (h2 a6 (by simp))
  obtain ⟨x7, rfl, w7⟩ := flat5 (m := m) (h2 a7 (by simp))
  refine ⟨ofL [x0, x1, x2, x3, x4, x5, x6, x7], rfl, fun j hj => ?_⟩
  rcases (by omega : j = 0 ∨ j = 1 ∨ j = 2 ∨ j = 3 ∨ j = 4 ∨ j = 5 ∨ j = 6 ∨ j = 7) with rfl | rfl | rfl | rfl | rfl | rfl | rfl | rfl
  · exact w0
  · exact w1
  · exact w2
  · exact w3
  · exact w4
  · exact w5
  · exact w6
  · exact w7
set_option maxRecDepth 100000 in
theorem flat3 {m : Nat} {ps : List PV} (h : FlatA Tryd.prog (m + 1) 3 ps) : ∃ n, ps = [.lit (.int .i64 n)] ∧ (Lit.int .i64 n).wf = true := by
  unfold FlatA at h
  rw [Tryd.underlying3] at h
  exact h
def WT32 (x : Seen) : Prop := WT30 x.key ∧ (Lit.int .i64 x.ver).wf = true
set_option maxRecDepth 100000 in
theorem flat32 {m : Nat} {ps : List PV} (h : FlatA Tryd.prog (m + 3) 32 ps) : ∃ x : Seen, ps = eSeen.enc x ∧ WT32 x := by
  unfold FlatA at h
  rw [Tryd.underlying32] at h
  obtain ⟨a0, b0, e0, h0, a1, b1, e1, h1, el⟩ := h
  obtain ⟨x0, rfl, w0⟩ := flat30 (m := m + 0) h0
  obtain ⟨x1, rfl, w1⟩ := flat3 (m := m + 1) h1
  subst el
  subst e1
  subst e0
  exact ⟨⟨x0, x1⟩, rfl, w0, w1⟩
def WT22 (s : Sl Seen) : Prop := s.D.length ≤ maxLen ∧ (s.nil = true → s.D = []) ∧ ∀ x ∈ s.D, WT32 x
set_option maxRecDepth 100000 in
theorem flat22 {m : Nat} {ps : List PV} (h : FlatA Tryd.prog (m + 4) 22 ps) : ∃ s : Sl Seen, ps = [.sl (some s.nil) s.D.length (encL eSeen s.D)] ∧ WT22 s := by
  unfold FlatA at h
  rw [Tryd.underlying22] at h
  obtain ⟨b, D, rfl, h1, h2, h3⟩ := h
  obtain ⟨D2, e1, e2, e3⟩ := enc_list (e := eSeen) (W := fun x => WT32 x) D fun y hy => flat32 (h3 y hy)
  rw [e2, ← e1]
  exact ⟨⟨b, D2⟩, rfl, (by show D2.length ≤ _; rw [e1]; exact h1), (fun hb => by have := h2 hb; rw [this] at e1; exact List.eq_nil_of_length_eq_zero e1), e3⟩
def WT27 (s : Sl Int) : Prop := s.D.length ≤ maxLen ∧ (s.nil = true → s.D = []) ∧ ∀ x ∈ s.D, (Lit.int .u8 x).wf = true
end Go.Proofs.YthnghkkbnhjlgaaDoor
/- The inputs of chapter 10's laws. No conditions. -/
namespace Go.Proofs.YthnghkkbnhjlgaaDoor
open Go.Am
theorem wf8 {n : Int} (h : (Lit.int .u8 n).wf = true) : 0 ≤ n ∧ n < 256 := by
  have h' : (decide (IntKind.u8.min ≤ n) && decide (n ≤ IntKind.u8.max)) = true := h
  simp only [Bool.and_eq_true, decide_eq_true_eq] at h'
  have e1 : IntKind.u8.min = 0 := rfl
  have e2 : IntKind.u8.max = 255 := rfl
  omega
theorem WT22.kb {l : Sl Seen} (h : WT22 l) : KB l.D := fun x hx j hj => wf8 ((h.2.2 x hx).1 j hj)
theorem WT27.b8 {b : Sl Int} (h : WT27 b) : B8 b.D := fun x hx => wf8 (h.2.2 x hx)
theorem big_le {n : Nat} (h : n ≤ maxLen) : n ≤ 9223372036854775807 := Nat.le_trans h (by decide)
end Go.Proofs.YthnghkkbnhjlgaaDoor
/- PassRight: the law answers true. No conditions. -/
namespace Go.Proofs.YthnghkkbnhjlgaaDoor
open Go.Am
theorem lawRight_true {l : Sl Seen} (w : WT22 l) : lawRight l = true := by
  unfold lawRight
  cases e : decide ((l.D.length : Int) > 1000)
  · have := of_decide_eq_false e
    rw [cond_false, rpRight_eq w.kb (by omega), beq_self_eq_true]; rfl
  · rfl
theorem passRight_calls (l : Sl Seen) (w : WT22 l) : PCalls Tryd.prog 3 [sS (some l.nil) eSeen l.D] (.pv (.lit (.bool true))) := by
  have h := lawRight_calls l w.kb (big_le w.1)
  rw [lawRight_true w] at h
  exact h
end Go.Proofs.YthnghkkbnhjlgaaDoor
/- What all rows of this seat need: no knob is turned, the types are laid out. No conditions. -/
namespace Go.Proofs.YthnghkkbnhjlgaaDoor
open Go.Am
theorem own : ownKnob Tryd.prog.godebug = none := by kernel_rfl
theorem laidOut : laidOutB Tryd.prog = true := by kernel_rfl
end Go.Proofs.YthnghkkbnhjlgaaDoor
