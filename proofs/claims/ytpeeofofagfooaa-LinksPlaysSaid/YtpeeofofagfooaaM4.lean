import Derived.Test.YtpeeofofagfooaaM1
import Derived.Test.YtpeeofofagfooaaM2
import Derived.Test.YtpeeofofagfooaaM3
/- The document: doing. No conditions. -/
namespace Go.Proofs.Ytpeeofofagfooaa
open Go.Am
def fromW_l0 : Nat → Nat → Int → (Nat → Bool) → (Nat → Bool)
  | 0, _, _, vc => vc
  | k + 1, i, w1, vc => fromW_l0 k (i + 1) (IntKind.u64.wrap (w1.tdiv 2)) (updA vc i ((w1.tmod 2) == 1))
def fromW (w : Int) : (Nat → Bool) :=
  fromW_l0 64 0 w (ofL [false, false, false, false, false, false, false, false, false, false, false, false, false, false, false, false, false, false, false, false, false, false, false, false, false, false, false, false, false, false, false, false, false, false, false, false, false, false, false, false, false, false, false, false, false, false, false, false, false, false, false, false, false, false, false, false, false, false, false, false, false, false, false, false])
theorem fromW_calls (w : Int)  : PCalls Try.prog 42 [.pv (.lit (.int .u64 w))] (.agg [.pv (.lit (.bool ((fromW w) 0))), .pv (.lit (.bool ((fromW w) 1))), .pv (.lit (.bool ((fromW w) 2))), .pv (.lit (.bool ((fromW w) 3))), .pv (.lit (.bool ((fromW w) 4))), .pv (.lit (.bool ((fromW w) 5))), .pv (.lit (.bool ((fromW w) 6))), .pv (.lit (.bool ((fromW w) 7))), .pv (.lit (.bool ((fromW w) 8))), .pv (.lit (.bool ((fromW w) 9))), .pv (.lit (.bool ((fromW w) 10))), .pv (.lit (.bool ((fromW w) 11))), .pv (.lit (.bool ((fromW w) 12))), .pv (.lit (.bool ((fromW w) 13))), .pv (.lit (.bool ((fromW w) 14))), .pv (.lit (.bool ((fromW w) 15))), .pv (.lit (.bool ((fromW w) 16))), .pv (.lit (.bool ((fromW w) 17))), .pv (.lit (.bool ((fromW w) 18))), .pv (.lit (.bool ((fromW w) 19))), .pv (.lit (.bool ((fromW w) 20))), .pv (.lit (.bool ((fromW w) 21))), .pv (.lit (.bool ((fromW w) 22))), .pv (.lit (.bool ((fromW w) 23))), .pv (.lit (.bool ((fromW w) 24))), .pv (.lit (.bool ((fromW w) 25))), .pv (.lit (.bool ((fromW w) 26))), .pv (.lit (.bool ((fromW w) 27))), .pv (.lit (.bool ((fromW w) 28))), .pv (.lit (.bool ((fromW w) 29))), .pv (.lit (.bool ((fromW w) 30))), .pv (.lit (.bool ((fromW w) 31))), .pv (.lit (.bool ((fromW w) 32))), .pv (.lit (.bool ((fromW w) 33))), .pv (.lit (.bool ((fromW w) 34))), .pv (.lit (.bool ((fromW w) 35))), .pv (.lit (.bool ((fromW w) 36))), .pv (.lit (.bool ((fromW w) 37))), .pv (.lit (.bool ((fromW w) 38))), .pv (.lit (.bool ((fromW w) 39))), .pv (.lit (.bool ((fromW w) 40))), .pv (.lit (.bool ((fromW w) 41))), .pv (.lit (.bool ((fromW w) 42))), .pv (.lit (.bool ((fromW w) 43))), .pv (.lit (.bool ((fromW w) 44))), .pv (.lit (.bool ((fromW w) 45))), .pv (.lit (.bool ((fromW w) 46))), .pv (.lit (.bool ((fromW w) 47))), .pv (.lit (.bool ((fromW w) 48))), .pv (.lit (.bool ((fromW w) 49))), .pv (.lit (.bool ((fromW w) 50))), .pv (.lit (.bool ((fromW w) 51))), .pv (.lit (.bool ((fromW w) 52))), .pv (.lit (.bool ((fromW w) 53))), .pv (.lit (.bool ((fromW w) 54))), .pv (.lit (.bool ((fromW w) 55))), .pv (.lit (.bool ((fromW w) 56))), .pv (.lit (.bool ((fromW w) 57))), .pv (.lit (.bool ((fromW w) 58))), .pv (.lit (.bool ((fromW w) 59))), .pv (.lit (.bool ((fromW w) 60))), .pv (.lit (.bool ((fromW w) 61))), .pv (.lit (.bool ((fromW w) 62))), .pv (.lit (.bool ((fromW w) 63)))]) := by
 generalize hR : fromW w = R
 refine PCalls.of_body tabOk Try.func42 rfl rfl rfl rfl rfl mixed fun E hP C hI => ?_
 refine Awp.consP C ?_
 refine rvc_un (rexec_prim C (δ := { v := .ptr 2 0, new := [(2, .cells [.pv (.lit (.bool false)), .pv (.lit (.bool false)), .pv (.lit (.bool false)), .pv (.lit (.bool false)), .pv (.lit (.bool false)), .pv (.lit (.bool false)), .pv (.lit (.bool false)), .pv (.lit (.bool false)), .pv (.lit (.bool false)), .pv (.lit (.bool false)), .pv (.lit (.bool false)), .pv (.lit (.bool false)), .pv (.lit (.bool false)), .pv (.lit (.bool false)), .pv (.lit (.bool false)), .pv (.lit (.bool false)), .pv (.lit (.bool false)), .pv (.lit (.bool false)), .pv (.lit (.bool false)), .pv (.lit (.bool false)), .pv (.lit (.bool false)), .pv (.lit (.bool false)), .pv (.lit (.bool false)), .pv (.lit (.bool false)), .pv (.lit (.bool false)), .pv (.lit (.bool false)), .pv (.lit (.bool false)), .pv (.lit (.bool false)), .pv (.lit (.bool false)), .pv (.lit (.bool false)), .pv (.lit (.bool false)), .pv (.lit (.bool false)), .pv (.lit (.bool false)), .pv (.lit (.bool false)), .pv (.lit (.bool false)), .pv (.lit (.bool false)), .pv (.lit (.bool false)), .pv (.lit (.bool false)), .pv (.lit (.bool false)), .pv (.lit (.bool false)), .pv (.lit (.bool false)), .pv (.lit (.bool false)), .pv (.lit (.bool false)), .pv (.lit (.bool false)), .pv (.lit (.bool false)), .pv (.lit (.bool false)), .pv (.lit (.bool false)), .pv (.lit (.bool false)), .pv (.lit (.bool false)), .pv (.lit (.bool false)), .pv (.lit (.bool false)), .pv (.lit (.bool false)), .pv (.lit (.bool false)), .pv (.lit (.bool false)), .pv (.lit (.bool false)), .pv (.lit (.bool false)), .pv (.lit (.bool false)), .pv (.lit (.bool false)), .pv (.lit (.bool false)), .pv (.lit (.bool false)), .pv (.lit (.bool false)), .pv (.lit (.bool false)), .pv (.lit (.bool false)), .pv (.lit (.bool false))])] }) rfl rfl rfl rfl trivial rfl ?_)
 refine rvc_nil ?_
 refine Awp.consP C ?_
 refine rvc_un (rexec_prim C (δ := { v := .ptr 3 0, new := [(3, .cells [.pv (.lit (.bool false)), .pv (.lit (.bool false)), .pv (.lit (.bool false)), .pv (.lit (.bool false)), .pv (.lit (.bool false)), .pv (.lit (.bool false)), .pv (.lit (.bool false)), .pv (.lit (.bool false)), .pv (.lit (.bool false)), .pv (.lit (.bool false)), .pv (.lit (.bool false)), .pv (.lit (.bool false)), .pv (.lit (.bool false)), .pv (.lit (.bool false)), .pv (.lit (.bool false)), .pv (.lit (.bool false)), .pv (.lit (.bool false)), .pv (.lit (.bool false)), .pv (.lit (.bool false)), .pv (.lit (.bool false)), .pv (.lit (.bool false)), .pv (.lit (.bool false)), .pv (.lit (.bool false)), .pv (.lit (.bool false)), .pv (.lit (.bool false)), .pv (.lit (.bool false)), .pv (.lit (.bool false)), .pv (.lit (.bool false)), .pv (.lit (.bool false)), .pv (.lit (.bool false)), .pv (.lit (.bool false)), .pv (.lit (.bool false)), .pv (.lit (.bool false)), .pv (.lit (.bool false)), .pv (.lit (.bool false)), .pv (.lit (.bool false)), .pv (.lit (.bool false)), .pv (.lit (.bool false)), .pv (.lit (.bool false)), .pv (.lit (.bool false)), .pv (.lit (.bool false)), .pv (.lit (.bool false)), .pv (.lit (.bool false)), .pv (.lit (.bool false)), .pv (.lit (.bool false)), .pv (.lit (.bool false)), .pv (.lit (.bool false)), .pv (.lit (.bool false)), .pv (.lit (.bool false)), .pv (.lit (.bool false)), .pv (.lit (.bool false)), .pv (.lit (.bool false)), .pv (.lit (.bool false)), .pv (.lit (.bool false)), .pv (.lit (.bool false)), .pv (.lit (.bool false)), .pv (.lit (.bool false)), .pv (.lit (.bool false)), .pv (.lit (.bool false)), .pv (.lit (.bool false)), .pv (.lit (.bool false)), .pv (.lit (.bool false)), .pv (.lit (.bool false)), .pv (.lit (.bool false))])] }) rfl rfl rfl rfl trivial rfl ?_)
 refine rvc_nil ?_
 refine Awp.seq ?_
 refine Awp.consP C ?_
 refine rvP C (.pv (.lit (.int .i64 0))) ?_
 refine rvc_nil ?_
 refine Awp.block ?_
 refine Awp.forR (σ := Int × ((Nat → Bool))) (64) (fun i v => [(0, .pv (.lit (.int .u64 v.1))), (2, .ptr 2 0), (3, .ptr 3 0), (5, .pv (.lit (.int .i64 (i : Int))))]) (fun i v => [(2, .cells [.pv (.lit (.bool false)), .pv (.lit (.bool false)), .pv (.lit (.bool false)), .pv (.lit (.bool false)), .pv (.lit (.bool false)), .pv (.lit (.bool false)), .pv (.lit (.bool false)), .pv (.lit (.bool false)), .pv (.lit (.bool false)), .pv (.lit (.bool false)), .pv (.lit (.bool false)), .pv (.lit (.bool false)), .pv (.lit (.bool false)), .pv (.lit (.bool false)), .pv (.lit (.bool false)), .pv (.lit (.bool false)), .pv (.lit (.bool false)), .pv (.lit (.bool false)), .pv (.lit (.bool false)), .pv (.lit (.bool false)), .pv (.lit (.bool false)), .pv (.lit (.bool false)), .pv (.lit (.bool false)), .pv (.lit (.bool false)), .pv (.lit (.bool false)), .pv (.lit (.bool false)), .pv (.lit (.bool false)), .pv (.lit (.bool false)), .pv (.lit (.bool false)), .pv (.lit (.bool false)), .pv (.lit (.bool false)), .pv (.lit (.bool false)), .pv (.lit (.bool false)), .pv (.lit (.bool false)), .pv (.lit (.bool false)), .pv (.lit (.bool false)), .pv (.lit (.bool false)), .pv (.lit (.bool false)), .pv (.lit (.bool false)), .pv (.lit (.bool false)), .pv (.lit (.bool false)), .pv (.lit (.bool false)), .pv (.lit (.bool false)), .pv (.lit (.bool false)), .pv (.lit (.bool false)), .pv (.lit (.bool false)), .pv (.lit (.bool false)), .pv (.lit (.bool false)), .pv (.lit (.bool false)), .pv (.lit (.bool false)), .pv (.lit (.bool false)), .pv (.lit (.bool false)), .pv (.lit (.bool false)), .pv (.lit (.bool false)), .pv (.lit (.bool false)), .pv (.lit (.bool false)), .pv (.lit (.bool false)), .pv (.lit (.bool false)), .pv (.lit (.bool false)), .pv (.lit (.bool false)), .pv (.lit (.bool false)), .pv (.lit (.bool false)), .pv (.lit (.bool false)), .pv (.lit (.bool false))]), (3, .cells [.pv (.lit (.bool (v.2 0))), .pv (.lit (.bool (v.2 1))), .pv (.lit (.bool (v.2 2))), .pv (.lit (.bool (v.2 3))), .pv (.lit (.bool (v.2 4))), .pv (.lit (.bool (v.2 5))), .pv (.lit (.bool (v.2 6))), .pv (.lit (.bool (v.2 7))), .pv (.lit (.bool (v.2 8))), .pv (.lit (.bool (v.2 9))), .pv (.lit (.bool (v.2 10))), .pv (.lit (.bool (v.2 11))), .pv (.lit (.bool (v.2 12))), .pv (.lit (.bool (v.2 13))), .pv (.lit (.bool (v.2 14))), .pv (.lit (.bool (v.2 15))), .pv (.lit (.bool (v.2 16))), .pv (.lit (.bool (v.2 17))), .pv (.lit (.bool (v.2 18))), .pv (.lit (.bool (v.2 19))), .pv (.lit (.bool (v.2 20))), .pv (.lit (.bool (v.2 21))), .pv (.lit (.bool (v.2 22))), .pv (.lit (.bool (v.2 23))), .pv (.lit (.bool (v.2 24))), .pv (.lit (.bool (v.2 25))), .pv (.lit (.bool (v.2 26))), .pv (.lit (.bool (v.2 27))), .pv (.lit (.bool (v.2 28))), .pv (.lit (.bool (v.2 29))), .pv (.lit (.bool (v.2 30))), .pv (.lit (.bool (v.2 31))), .pv (.lit (.bool (v.2 32))), .pv (.lit (.bool (v.2 33))), .pv (.lit (.bool (v.2 34))), .pv (.lit (.bool (v.2 35))), .pv (.lit (.bool (v.2 36))), .pv (.lit (.bool (v.2 37))), .pv (.lit (.bool (v.2 38))), .pv (.lit (.bool (v.2 39))), .pv (.lit (.bool (v.2 40))), .pv (.lit (.bool (v.2 41))), .pv (.lit (.bool (v.2 42))), .pv (.lit (.bool (v.2 43))), .pv (.lit (.bool (v.2 44))), .pv (.lit (.bool (v.2 45))), .pv (.lit (.bool (v.2 46))), .pv (.lit (.bool (v.2 47))), .pv (.lit (.bool (v.2 48))), .pv (.lit (.bool (v.2 49))), .pv (.lit (.bool (v.2 50))), .pv (.lit (.bool (v.2 51))), .pv (.lit (.bool (v.2 52))), .pv (.lit (.bool (v.2 53))), .pv (.lit (.bool (v.2 54))), .pv (.lit (.bool (v.2 55))), .pv (.lit (.bool (v.2 56))), .pv (.lit (.bool (v.2 57))), .pv (.lit (.bool (v.2 58))), .pv (.lit (.bool (v.2 59))), .pv (.lit (.bool (v.2 60))), .pv (.lit (.bool (v.2 61))), .pv (.lit (.bool (v.2 62))), .pv (.lit (.bool (v.2 63)))])]) [2, 3] (fun i v => fromW_l0 (64 - i) i v.1 v.2 = R) (w, (ofL [false, false, false, false, false, false, false, false, false, false, false, false, false, false, false, false, false, false, false, false, false, false, false, false, false, false, false, false, false, false, false, false, false, false, false, false, false, false, false, false, false, false, false, false, false, false, false, false, false, false, false, false, false, false, false, false, false, false, false, false, false, false, false, false])) ?_ ?_ (fun i v h1 hR => ?_)
 · exact hR
 · exact ⟨fun b => b, WeakerR.ofL (Ks := [2, 3]) hI ⟨⟨rfl, rfl⟩, ⟨rfl, rfl⟩, ⟨rfl, rfl⟩, ⟨rfl, rfl⟩, trivial⟩ (okH_cons rfl rfl rfl rfl (okH_cons rfl rfl rfl rfl (okH_nil))) rfl⟩
 obtain ⟨w1, vc⟩ := v
 refine Awp.consP C ?_
 refine rvP C (.pv (.lit (.bool (decide ((i : Int) < 64))))) ?_
 refine rvc_nil ?_
 refine Awp.seq ?_
 refine Awp.cond (b := (decide ((i : Int) < 64))) rfl (fun h2 => ?_) (fun h2 => ?_)
 ·
  have h3 : i < 64 := by have := of_decide_eq_true h2; omega
  obtain ⟨k, h4⟩ : ∃ k, 64 - i = k + 1 := ⟨64 - i - 1, by omega⟩
  rw [h4] at hR
  refine Awp.skip ?_
  refine Awp.seq ?_
  refine Awp.block ?_
  refine Awp.consP C ?_
  refine rvP C (.pv (.lit (.int .i64 (i : Int)))) ?_
  refine rvP C (.pv (.lit (.int .i64 (i : Int)))) ?_
  refine rvc_nil ?_
  refine Awp.consP C ?_
  refine rvP C (.pv (.lit (.int .i64 (i : Int)))) ?_
  refine rvP C (.pv (.lit (.int .u64 w1))) ?_
  refine rvc_un (rexec_prim C (δ := { v := .pv (.lit (.int .u64 (w1.tmod 2))) }) rfl rfl rfl rfl (by first | decide | omega) rfl ?_)
  refine rvP C (.pv (.lit (.bool ((w1.tmod 2) == 1)))) ?_
  refine rvc_un (rexec_prim C (δ := { v := .ptr 3 (0 + i * 1) }) rfl rfl rfl rfl ⟨(by have := of_decide_eq_true h2; omega), (by have := of_decide_eq_true h2; omega)⟩ rfl ?_)
  refine rvc_un (rexec_storeA C [] [] (fun z => .lit (.bool z)) vc 64 i ((w1.tmod 2) == 1) [.pv (.lit (.bool ((updA vc i ((w1.tmod 2) == 1)) 0))), .pv (.lit (.bool ((updA vc i ((w1.tmod 2) == 1)) 1))), .pv (.lit (.bool ((updA vc i ((w1.tmod 2) == 1)) 2))), .pv (.lit (.bool ((updA vc i ((w1.tmod 2) == 1)) 3))), .pv (.lit (.bool ((updA vc i ((w1.tmod 2) == 1)) 4))), .pv (.lit (.bool ((updA vc i ((w1.tmod 2) == 1)) 5))), .pv (.lit (.bool ((updA vc i ((w1.tmod 2) == 1)) 6))), .pv (.lit (.bool ((updA vc i ((w1.tmod 2) == 1)) 7))), .pv (.lit (.bool ((updA vc i ((w1.tmod 2) == 1)) 8))), .pv (.lit (.bool ((updA vc i ((w1.tmod 2) == 1)) 9))), .pv (.lit (.bool ((updA vc i ((w1.tmod 2) == 1)) 10))), .pv (.lit (.bool ((updA vc i ((w1.tmod 2) == 1)) 11))), .pv (.lit (.bool ((updA vc i ((w1.tmod 2) == 1)) 12))), .pv (.lit (.bool ((updA vc i ((w1.tmod 2) == 1)) 13))), .pv (.lit (.bool ((updA vc i ((w1.tmod 2) == 1)) 14))), .pv (.lit (.bool ((updA vc i ((w1.tmod 2) == 1)) 15))), .pv (.lit (.bool ((updA vc i ((w1.tmod 2) == 1)) 16))), .pv (.lit (.bool ((updA vc i ((w1.tmod 2) == 1)) 17))), .pv (.lit (.bool ((updA vc i ((w1.tmod 2) == 1)) 18))), .pv (.lit (.bool ((updA vc i ((w1.tmod 2) == 1)) 19))), .pv (.lit (.bool ((updA vc i ((w1.tmod 2) == 1)) 20))), .pv (.lit (.bool ((updA vc i ((w1.tmod 2) == 1)) 21))), .pv (.lit (.bool ((updA vc i ((w1.tmod 2) == 1)) 22))), .pv (.lit (.bool ((updA vc i ((w1.tmod 2) == 1)) 23))), .pv (.lit (.bool ((updA vc i ((w1.tmod 2) == 1)) 24))), .pv (.lit (.bool ((updA vc i ((w1.tmod 2) == 1)) 25))), .pv (.lit (.bool ((updA vc i ((w1.tmod 2) == 1)) 26))), .pv (.lit (.bool ((updA vc i ((w1.tmod 2) == 1)) 27))), .pv (.lit (.bool ((updA vc i ((w1.tmod 2) == 1)) 28))), .pv (.lit (.bool ((updA vc i ((w1.tmod 2) == 1)) 29))), .pv (.lit (.bool ((updA vc i ((w1.tmod 2) == 1)) 30))), .pv (.lit (.bool ((updA vc i ((w1.tmod 2) == 1)) 31))), .pv (.lit (.bool ((updA vc i ((w1.tmod 2) == 1)) 32))), .pv (.lit (.bool ((updA vc i ((w1.tmod 2) == 1)) 33))), .pv (.lit (.bool ((updA vc i ((w1.tmod 2) == 1)) 34))), .pv (.lit (.bool ((updA vc i ((w1.tmod 2) == 1)) 35))), .pv (.lit (.bool ((updA vc i ((w1.tmod 2) == 1)) 36))), .pv (.lit (.bool ((updA vc i ((w1.tmod 2) == 1)) 37))), .pv (.lit (.bool ((updA vc i ((w1.tmod 2) == 1)) 38))), .pv (.lit (.bool ((updA vc i ((w1.tmod 2) == 1)) 39))), .pv (.lit (.bool ((updA vc i ((w1.tmod 2) == 1)) 40))), .pv (.lit (.bool ((updA vc i ((w1.tmod 2) == 1)) 41))), .pv (.lit (.bool ((updA vc i ((w1.tmod 2) == 1)) 42))), .pv (.lit (.bool ((updA vc i ((w1.tmod 2) == 1)) 43))), .pv (.lit (.bool ((updA vc i ((w1.tmod 2) == 1)) 44))), .pv (.lit (.bool ((updA vc i ((w1.tmod 2) == 1)) 45))), .pv (.lit (.bool ((updA vc i ((w1.tmod 2) == 1)) 46))), .pv (.lit (.bool ((updA vc i ((w1.tmod 2) == 1)) 47))), .pv (.lit (.bool ((updA vc i ((w1.tmod 2) == 1)) 48))), .pv (.lit (.bool ((updA vc i ((w1.tmod 2) == 1)) 49))), .pv (.lit (.bool ((updA vc i ((w1.tmod 2) == 1)) 50))), .pv (.lit (.bool ((updA vc i ((w1.tmod 2) == 1)) 51))), .pv (.lit (.bool ((updA vc i ((w1.tmod 2) == 1)) 52))), .pv (.lit (.bool ((updA vc i ((w1.tmod 2) == 1)) 53))), .pv (.lit (.bool ((updA vc i ((w1.tmod 2) == 1)) 54))), .pv (.lit (.bool ((updA vc i ((w1.tmod 2) == 1)) 55))), .pv (.lit (.bool ((updA vc i ((w1.tmod 2) == 1)) 56))), .pv (.lit (.bool ((updA vc i ((w1.tmod 2) == 1)) 57))), .pv (.lit (.bool ((updA vc i ((w1.tmod 2) == 1)) 58))), .pv (.lit (.bool ((updA vc i ((w1.tmod 2) == 1)) 59))), .pv (.lit (.bool ((updA vc i ((w1.tmod 2) == 1)) 60))), .pv (.lit (.bool ((updA vc i ((w1.tmod 2) == 1)) 61))), .pv (.lit (.bool ((updA vc i ((w1.tmod 2) == 1)) 62))), .pv (.lit (.bool ((updA vc i ((w1.tmod 2) == 1)) 63)))] rfl rfl rfl rfl rfl rfl (by have := of_decide_eq_true h2; omega) rfl ?_)
  refine rvc_nil ?_
  refine Awp.regionP C ?_
  refine rvP C (.pv (.lit (.int .u64 w1))) ?_
  refine rvc_un (rexec_prim C (δ := { v := .pv (.lit (.int .u64 (IntKind.u64.wrap (w1.tdiv 2)))) }) rfl rfl rfl rfl (by first | decide | omega) rfl ?_)
  refine rvP C (.pv (.lit (.int .u64 (IntKind.u64.wrap (w1.tdiv 2))))) ?_
  refine rvc_nil ?_
  refine Awp.regionP C ?_
  refine rvP C (.pv (.lit (.int .i64 (IntKind.i64.wrap ((i : Int) + 1))))) ?_
  refine rvP C (.pv (.lit (.int .i64 (IntKind.i64.wrap ((i : Int) + 1))))) ?_
  refine rvc_nil ?_
  refine ⟨h3, ((IntKind.u64.wrap (w1.tdiv 2)), (updA vc i ((w1.tmod 2) == 1))), ?_, ?_⟩
  · exact (by rw [show 64 - (i + 1) = k by omega]; exact hR)
  · exact ⟨fun b => b, WeakerR.ofL (Ks := [2, 3]) hI ⟨⟨rfl, rfl⟩, ⟨rfl, rfl⟩, ⟨rfl, rfl⟩, ⟨lit_cast (wrap_i64 (by omega) (by omega)), rfl⟩, trivial⟩ (okH_cons rfl rfl rfl rfl (okH_cons rfl rfl rfl rfl (okH_nil))) rfl⟩
 ·
  rw [show 64 - i = 0 by have := of_decide_eq_false h2; omega] at hR
  refine Awp.exit ?_
  refine Awp.consP C ?_
  refine rvP C (.agg [.pv (.lit (.bool (vc 0))), .pv (.lit (.bool (vc 1))), .pv (.lit (.bool (vc 2))), .pv (.lit (.bool (vc 3))), .pv (.lit (.bool (vc 4))), .pv (.lit (.bool (vc 5))), .pv (.lit (.bool (vc 6))), .pv (.lit (.bool (vc 7))), .pv (.lit (.bool (vc 8))), .pv (.lit (.bool (vc 9))), .pv (.lit (.bool (vc 10))), .pv (.lit (.bool (vc 11))), .pv (.lit (.bool (vc 12))), .pv (.lit (.bool (vc 13))), .pv (.lit (.bool (vc 14))), .pv (.lit (.bool (vc 15))), .pv (.lit (.bool (vc 16))), .pv (.lit (.bool (vc 17))), .pv (.lit (.bool (vc 18))), .pv (.lit (.bool (vc 19))), .pv (.lit (.bool (vc 20))), .pv (.lit (.bool (vc 21))), .pv (.lit (.bool (vc 22))), .pv (.lit (.bool (vc 23))), .pv (.lit (.bool (vc 24))), .pv (.lit (.bool (vc 25))), .pv (.lit (.bool (vc 26))), .pv (.lit (.bool (vc 27))), .pv (.lit (.bool (vc 28))), .pv (.lit (.bool (vc 29))), .pv (.lit (.bool (vc 30))), .pv (.lit (.bool (vc 31))), .pv (.lit (.bool (vc 32))), .pv (.lit (.bool (vc 33))), .pv (.lit (.bool (vc 34))), .pv (.lit (.bool (vc 35))), .pv (.lit (.bool (vc 36))), .pv (.lit (.bool (vc 37))), .pv (.lit (.bool (vc 38))), .pv (.lit (.bool (vc 39))), .pv (.lit (.bool (vc 40))), .pv (.lit (.bool (vc 41))), .pv (.lit (.bool (vc 42))), .pv (.lit (.bool (vc 43))), .pv (.lit (.bool (vc 44))), .pv (.lit (.bool (vc 45))), .pv (.lit (.bool (vc 46))), .pv (.lit (.bool (vc 47))), .pv (.lit (.bool (vc 48))), .pv (.lit (.bool (vc 49))), .pv (.lit (.bool (vc 50))), .pv (.lit (.bool (vc 51))), .pv (.lit (.bool (vc 52))), .pv (.lit (.bool (vc 53))), .pv (.lit (.bool (vc 54))), .pv (.lit (.bool (vc 55))), .pv (.lit (.bool (vc 56))), .pv (.lit (.bool (vc 57))), .pv (.lit (.bool (vc 58))), .pv (.lit (.bool (vc 59))), .pv (.lit (.bool (vc 60))), .pv (.lit (.bool (vc 61))), .pv (.lit (.bool (vc 62))), .pv (.lit (.bool (vc 63)))]) ?_
  refine rvc_un (rexec_prim C (δ := { v := .undef, wr := [(2, some (.cells [.pv (.lit (.bool (vc 0))), .pv (.lit (.bool (vc 1))), .pv (.lit (.bool (vc 2))), .pv (.lit (.bool (vc 3))), .pv (.lit (.bool (vc 4))), .pv (.lit (.bool (vc 5))), .pv (.lit (.bool (vc 6))), .pv (.lit (.bool (vc 7))), .pv (.lit (.bool (vc 8))), .pv (.lit (.bool (vc 9))), .pv (.lit (.bool (vc 10))), .pv (.lit (.bool (vc 11))), .pv (.lit (.bool (vc 12))), .pv (.lit (.bool (vc 13))), .pv (.lit (.bool (vc 14))), .pv (.lit (.bool (vc 15))), .pv (.lit (.bool (vc 16))), .pv (.lit (.bool (vc 17))), .pv (.lit (.bool (vc 18))), .pv (.lit (.bool (vc 19))), .pv (.lit (.bool (vc 20))), .pv (.lit (.bool (vc 21))), .pv (.lit (.bool (vc 22))), .pv (.lit (.bool (vc 23))), .pv (.lit (.bool (vc 24))), .pv (.lit (.bool (vc 25))), .pv (.lit (.bool (vc 26))), .pv (.lit (.bool (vc 27))), .pv (.lit (.bool (vc 28))), .pv (.lit (.bool (vc 29))), .pv (.lit (.bool (vc 30))), .pv (.lit (.bool (vc 31))), .pv (.lit (.bool (vc 32))), .pv (.lit (.bool (vc 33))), .pv (.lit (.bool (vc 34))), .pv (.lit (.bool (vc 35))), .pv (.lit (.bool (vc 36))), .pv (.lit (.bool (vc 37))), .pv (.lit (.bool (vc 38))), .pv (.lit (.bool (vc 39))), .pv (.lit (.bool (vc 40))), .pv (.lit (.bool (vc 41))), .pv (.lit (.bool (vc 42))), .pv (.lit (.bool (vc 43))), .pv (.lit (.bool (vc 44))), .pv (.lit (.bool (vc 45))), .pv (.lit (.bool (vc 46))), .pv (.lit (.bool (vc 47))), .pv (.lit (.bool (vc 48))), .pv (.lit (.bool (vc 49))), .pv (.lit (.bool (vc 50))), .pv (.lit (.bool (vc 51))), .pv (.lit (.bool (vc 52))), .pv (.lit (.bool (vc 53))), .pv (.lit (.bool (vc 54))), .pv (.lit (.bool (vc 55))), .pv (.lit (.bool (vc 56))), .pv (.lit (.bool (vc 57))), .pv (.lit (.bool (vc 58))), .pv (.lit (.bool (vc 59))), .pv (.lit (.bool (vc 60))), .pv (.lit (.bool (vc 61))), .pv (.lit (.bool (vc 62))), .pv (.lit (.bool (vc 63)))]))] }) rfl rfl rfl rfl trivial rfl ?_)
  refine rvc_nil ?_
  refine Awp.ret ?_
  subst hR
  exact ⟨.inl rfl, rfl⟩
def rSend (n : Net51) (l : Link) (b : (Sl Int)) : Net51 × Int :=
  (bif (!(rRight l)) then (n, 40) else (bif (decide ((b.D.length : Int) > 8192)) then (n, 4) else (bif (decide ((rLen n l) ≥ 8)) then ((Net51.mk n.items n.side (IntKind.i64.wrap (n.lost + 1))), 7) else ((Net51.mk (Sl.mk false (n.items.D ++ [(Item.mk l (strOf b.D))])) n.side n.lost), 0))))
theorem rSend_calls (n : Net51) (l : Link) (b : (Sl Int)) (hl1 : n.items.D.length ≤ 1000000) : MCalls Try.prog 44 [.ptr 0 0, .agg [.pv (.lit (.int .i64 l.from_)), .pv (.lit (.int .i64 l.to))], sS (some b.nil) (eI .u8) b.D] (.cells [sS (some n.items.nil) eItem n.items.D, .pv (.lit (.bool (n.side 0))), .pv (.lit (.bool (n.side 1))), .pv (.lit (.bool (n.side 2))), .pv (.lit (.bool (n.side 3))), .pv (.lit (.bool (n.side 4))), .pv (.lit (.bool (n.side 5))), .pv (.lit (.bool (n.side 6))), .pv (.lit (.bool (n.side 7))), .pv (.lit (.bool (n.side 8))), .pv (.lit (.bool (n.side 9))), .pv (.lit (.bool (n.side 10))), .pv (.lit (.bool (n.side 11))), .pv (.lit (.bool (n.side 12))), .pv (.lit (.bool (n.side 13))), .pv (.lit (.bool (n.side 14))), .pv (.lit (.bool (n.side 15))), .pv (.lit (.bool (n.side 16))), .pv (.lit (.bool (n.side 17))), .pv (.lit (.bool (n.side 18))), .pv (.lit (.bool (n.side 19))), .pv (.lit (.bool (n.side 20))), .pv (.lit (.bool (n.side 21))), .pv (.lit (.bool (n.side 22))), .pv (.lit (.bool (n.side 23))), .pv (.lit (.bool (n.side 24))), .pv (.lit (.bool (n.side 25))), .pv (.lit (.bool (n.side 26))), .pv (.lit (.bool (n.side 27))), .pv (.lit (.bool (n.side 28))), .pv (.lit (.bool (n.side 29))), .pv (.lit (.bool (n.side 30))), .pv (.lit (.bool (n.side 31))), .pv (.lit (.bool (n.side 32))), .pv (.lit (.bool (n.side 33))), .pv (.lit (.bool (n.side 34))), .pv (.lit (.bool (n.side 35))), .pv (.lit (.bool (n.side 36))), .pv (.lit (.bool (n.side 37))), .pv (.lit (.bool (n.side 38))), .pv (.lit (.bool (n.side 39))), .pv (.lit (.bool (n.side 40))), .pv (.lit (.bool (n.side 41))), .pv (.lit (.bool (n.side 42))), .pv (.lit (.bool (n.side 43))), .pv (.lit (.bool (n.side 44))), .pv (.lit (.bool (n.side 45))), .pv (.lit (.bool (n.side 46))), .pv (.lit (.bool (n.side 47))), .pv (.lit (.bool (n.side 48))), .pv (.lit (.bool (n.side 49))), .pv (.lit (.bool (n.side 50))), .pv (.lit (.bool (n.side 51))), .pv (.lit (.bool (n.side 52))), .pv (.lit (.bool (n.side 53))), .pv (.lit (.bool (n.side 54))), .pv (.lit (.bool (n.side 55))), .pv (.lit (.bool (n.side 56))), .pv (.lit (.bool (n.side 57))), .pv (.lit (.bool (n.side 58))), .pv (.lit (.bool (n.side 59))), .pv (.lit (.bool (n.side 60))), .pv (.lit (.bool (n.side 61))), .pv (.lit (.bool (n.side 62))), .pv (.lit (.bool (n.side 63))), .pv (.lit (.int .i64 n.lost))]) (.pv (.lit (.int .i64 ((rSend n l b).2)))) (.cells [sS (some (rSend n l b).1.items.nil) eItem ((rSend n l b).1.items.D), .pv (.lit (.bool ((rSend n l b).1.side 0))), .pv (.lit (.bool ((rSend n l b).1.side 1))), .pv (.lit (.bool ((rSend n l b).1.side 2))), .pv (.lit (.bool ((rSend n l b).1.side 3))), .pv (.lit (.bool ((rSend n l b).1.side 4))), .pv (.lit (.bool ((rSend n l b).1.side 5))), .pv (.lit (.bool ((rSend n l b).1.side 6))), .pv (.lit (.bool ((rSend n l b).1.side 7))), .pv (.lit (.bool ((rSend n l b).1.side 8))), .pv (.lit (.bool ((rSend n l b).1.side 9))), .pv (.lit (.bool ((rSend n l b).1.side 10))), .pv (.lit (.bool ((rSend n l b).1.side 11))), .pv (.lit (.bool ((rSend n l b).1.side 12))), .pv (.lit (.bool ((rSend n l b).1.side 13))), .pv (.lit (.bool ((rSend n l b).1.side 14))), .pv (.lit (.bool ((rSend n l b).1.side 15))), .pv (.lit (.bool ((rSend n l b).1.side 16))), .pv (.lit (.bool ((rSend n l b).1.side 17))), .pv (.lit (.bool ((rSend n l b).1.side 18))), .pv (.lit (.bool ((rSend n l b).1.side 19))), .pv (.lit (.bool ((rSend n l b).1.side 20))), .pv (.lit (.bool ((rSend n l b).1.side 21))), .pv (.lit (.bool ((rSend n l b).1.side 22))), .pv (.lit (.bool ((rSend n l b).1.side 23))), .pv (.lit (.bool ((rSend n l b).1.side 24))), .pv (.lit (.bool ((rSend n l b).1.side 25))), .pv (.lit (.bool ((rSend n l b).1.side 26))), .pv (.lit (.bool ((rSend n l b).1.side 27))), .pv (.lit (.bool ((rSend n l b).1.side 28))), .pv (.lit (.bool ((rSend n l b).1.side 29))), .pv (.lit (.bool ((rSend n l b).1.side 30))), .pv (.lit (.bool ((rSend n l b).1.side 31))), .pv (.lit (.bool ((rSend n l b).1.side 32))), .pv (.lit (.bool ((rSend n l b).1.side 33))), .pv (.lit (.bool ((rSend n l b).1.side 34))), .pv (.lit (.bool ((rSend n l b).1.side 35))), .pv (.lit (.bool ((rSend n l b).1.side 36))), .pv (.lit (.bool ((rSend n l b).1.side 37))), .pv (.lit (.bool ((rSend n l b).1.side 38))), .pv (.lit (.bool ((rSend n l b).1.side 39))), .pv (.lit (.bool ((rSend n l b).1.side 40))), .pv (.lit (.bool ((rSend n l b).1.side 41))), .pv (.lit (.bool ((rSend n l b).1.side 42))), .pv (.lit (.bool ((rSend n l b).1.side 43))), .pv (.lit (.bool ((rSend n l b).1.side 44))), .pv (.lit (.bool ((rSend n l b).1.side 45))), .pv (.lit (.bool ((rSend n l b).1.side 46))), .pv (.lit (.bool ((rSend n l b).1.side 47))), .pv (.lit (.bool ((rSend n l b).1.side 48))), .pv (.lit (.bool ((rSend n l b).1.side 49))), .pv (.lit (.bool ((rSend n l b).1.side 50))), .pv (.lit (.bool ((rSend n l b).1.side 51))), .pv (.lit (.bool ((rSend n l b).1.side 52))), .pv (.lit (.bool ((rSend n l b).1.side 53))), .pv (.lit (.bool ((rSend n l b).1.side 54))), .pv (.lit (.bool ((rSend n l b).1.side 55))), .pv (.lit (.bool ((rSend n l b).1.side 56))), .pv (.lit (.bool ((rSend n l b).1.side 57))), .pv (.lit (.bool ((rSend n l b).1.side 58))), .pv (.lit (.bool ((rSend n l b).1.side 59))), .pv (.lit (.bool ((rSend n l b).1.side 60))), .pv (.lit (.bool ((rSend n l b).1.side 61))), .pv (.lit (.bool ((rSend n l b).1.side 62))), .pv (.lit (.bool ((rSend n l b).1.side 63))), .pv (.lit (.int .i64 ((rSend n l b).1.lost)))]) := by
 generalize hR : rSend n l b = R
 refine MCalls.of_body tabOk Try.func44 rfl rfl rfl rfl rfl rfl rfl mixed fun E hP C hI => ?_
 refine Awp.consP C ?_
 refine rvc_un (rexec_prim C (δ := { v := .ptr 4 0, new := [(4, .cells [.pv (.lit (.int .i64 l.from_)), .pv (.lit (.int .i64 l.to))])] }) rfl rfl rfl rfl trivial rfl ?_)
 refine rvP C (.pv (.lit (.int .i64 0))) ?_
 refine rvc_nil ?_
 refine Awp.seq ?_
 refine Awp.consP C ?_
 refine rvP C (.agg [.pv (.lit (.int .i64 l.from_)), .pv (.lit (.int .i64 l.to))]) ?_
 refine rvc_un (rexec_call hP C rfl rfl rfl (rRight_calls l) ?_)
 refine rvP C (.pv (.lit (.bool (!(rRight l))))) ?_
 refine rvc_nil ?_
 refine Awp.cond (b := (!(rRight l))) rfl (fun h1 => ?_) (fun h1 => ?_)
 ·
  replace hR := of_true h1 hR
  refine Awp.consP C ?_
  refine rvP C (.pv (.lit (.int .i64 40))) ?_
  refine rvc_nil ?_
  refine Awp.ret ?_
  subst hR
  exact ⟨.inl rfl, rfl, rfl⟩
 ·
  replace hR := of_false h1 hR
  refine Awp.skip ?_
  refine Awp.seq ?_
  refine Awp.consP C ?_
  refine rvP C (sS (some b.nil) (eI .u8) b.D) ?_
  refine rvP C (.pv (.lit (.int .i64 (b.D.length : Int)))) ?_
  refine rvP C (.pv (.lit (.bool (decide ((b.D.length : Int) > 8192))))) ?_
  refine rvc_nil ?_
  refine Awp.cond (b := (decide ((b.D.length : Int) > 8192))) rfl (fun h2 => ?_) (fun h2 => ?_)
  ·
   replace hR := of_true h2 hR
   refine Awp.consP C ?_
   refine rvP C (.pv (.lit (.int .i64 4))) ?_
   refine rvc_nil ?_
   refine Awp.ret ?_
   subst hR
   exact ⟨.inl rfl, rfl, rfl⟩
  ·
   replace hR := of_false h2 hR
   refine Awp.skip ?_
   refine Awp.seq ?_
   refine Awp.cons C (fun _ => .writer) (by kernel_rfl) ?_
   refine rvP C (.ptr 0 0) ?_
   refine rvP C (.agg [.pv (.lit (.int .i64 l.from_)), .pv (.lit (.int .i64 l.to))]) ?_
   refine rvc_un (rexec_callM hP C (b := 0) rfl rfl rfl (rLen_calls n l hl1) rfl rfl ?_)
   refine rvP C (.pv (.lit (.bool (decide ((rLen n l) ≥ 8))))) ?_
   refine rvc_nil ?_
   refine Awp.cond (b := (decide ((rLen n l) ≥ 8))) rfl (fun h3 => ?_) (fun h3 => ?_)
   ·
    replace hR := of_true h3 hR
    refine Awp.consP C ?_
    refine rvP C (.ptr 0 0) ?_
    refine rvP C (.ptr 0 0) ?_
    refine rvP C (.ptr 0 65) ?_
    refine rvP C (.pv (.lit (.int .i64 n.lost))) ?_
    refine rvP C (.pv (.lit (.int .i64 (IntKind.i64.wrap (n.lost + 1))))) ?_
    refine rvP C (.ptr 0 0) ?_
    refine rvP C (.ptr 0 65) ?_
    refine rvc_un (rexec_prim C (δ := { v := .undef, wr := [(0, some (.cells [sS (some n.items.nil) eItem n.items.D, .pv (.lit (.bool (n.side 0))), .pv (.lit (.bool (n.side 1))), .pv (.lit (.bool (n.side 2))), .pv (.lit (.bool (n.side 3))), .pv (.lit (.bool (n.side 4))), .pv (.lit (.bool (n.side 5))), .pv (.lit (.bool (n.side 6))), .pv (.lit (.bool (n.side 7))), .pv (.lit (.bool (n.side 8))), .pv (.lit (.bool (n.side 9))), .pv (.lit (.bool (n.side 10))), .pv (.lit (.bool (n.side 11))), .pv (.lit (.bool (n.side 12))), .pv (.lit (.bool (n.side 13))), .pv (.lit (.bool (n.side 14))), .pv (.lit (.bool (n.side 15))), .pv (.lit (.bool (n.side 16))), .pv (.lit (.bool (n.side 17))), .pv (.lit (.bool (n.side 18))), .pv (.lit (.bool (n.side 19))), .pv (.lit (.bool (n.side 20))), .pv (.lit (.bool (n.side 21))), .pv (.lit (.bool (n.side 22))), .pv (.lit (.bool (n.side 23))), .pv (.lit (.bool (n.side 24))), .pv (.lit (.bool (n.side 25))), .pv (.lit (.bool (n.side 26))), .pv (.lit (.bool (n.side 27))), .pv (.lit (.bool (n.side 28))), .pv (.lit (.bool (n.side 29))), .pv (.lit (.bool (n.side 30))), .pv (.lit (.bool (n.side 31))), .pv (.lit (.bool (n.side 32))), .pv (.lit (.bool (n.side 33))), .pv (.lit (.bool (n.side 34))), .pv (.lit (.bool (n.side 35))), .pv (.lit (.bool (n.side 36))), .pv (.lit (.bool (n.side 37))), .pv (.lit (.bool (n.side 38))), .pv (.lit (.bool (n.side 39))), .pv (.lit (.bool (n.side 40))), .pv (.lit (.bool (n.side 41))), .pv (.lit (.bool (n.side 42))), .pv (.lit (.bool (n.side 43))), .pv (.lit (.bool (n.side 44))), .pv (.lit (.bool (n.side 45))), .pv (.lit (.bool (n.side 46))), .pv (.lit (.bool (n.side 47))), .pv (.lit (.bool (n.side 48))), .pv (.lit (.bool (n.side 49))), .pv (.lit (.bool (n.side 50))), .pv (.lit (.bool (n.side 51))), .pv (.lit (.bool (n.side 52))), .pv (.lit (.bool (n.side 53))), .pv (.lit (.bool (n.side 54))), .pv (.lit (.bool (n.side 55))), .pv (.lit (.bool (n.side 56))), .pv (.lit (.bool (n.side 57))), .pv (.lit (.bool (n.side 58))), .pv (.lit (.bool (n.side 59))), .pv (.lit (.bool (n.side 60))), .pv (.lit (.bool (n.side 61))), .pv (.lit (.bool (n.side 62))), .pv (.lit (.bool (n.side 63))), .pv (.lit (.int .i64 (IntKind.i64.wrap (n.lost + 1))))]))] }) rfl rfl rfl rfl trivial rfl ?_)
    refine rvc_nil ?_
    refine Awp.consP C ?_
    refine rvP C (.pv (.lit (.int .i64 7))) ?_
    refine rvc_nil ?_
    refine Awp.ret ?_
    subst hR
    exact ⟨.inl rfl, rfl, rfl⟩
   ·
    replace hR := of_false h3 hR
    refine Awp.skip ?_
    refine Awp.cons C (fun o => match o.dst with | some 29 => .reads [0] | some 31 => .reads [4] | some 25 => .writes [25] | some 30 => .writes [25, 30] | some 36 => .writes [30, 36] | some 35 => .writes [] | none => .writer | _ => .pure) (by kernel_rfl) ?_
    refine rvP C (.ptr 0 0) ?_
    refine rvc_un (rexec_prim C (δ := { v := .sl 25 0 0 3 true, new := [(25, .cells (encC eItem []))] }) rfl rfl rfl rfl trivial rfl ?_)
    refine rvP C (.ptr 0 0) ?_
    refine rvP C (.ptr 0 0) ?_
    refine rvP C (.ptr 0 0) ?_
    refine rvP C (sS (some n.items.nil) eItem n.items.D) ?_
    refine rvc_un (rexec_append C rfl rfl rfl rfl rfl rfl rfl rfl (fun _ h => by cases h) rfl (en := eItem) (D0 := []) (D := n.items.D) rfl rfl rfl rfl (by have := of_decide_eq_false h2; have := of_decide_eq_false h3; first | omega | (simp <;> omega)) (by decide) (nn := n.items.D.length) (by simp) ?_)
    refine rvP C (.agg [.pv (.lit (.int .i64 l.from_)), .pv (.lit (.int .i64 l.to))]) ?_
    refine rvP C (sS (some b.nil) (eI .u8) b.D) ?_
    refine rvc_un (rexec_convS C rfl rfl rfl rfl rfl rfl rfl rfl ?_)
    refine rvP C (.agg [.pv (.lit (.int .i64 l.from_)), .pv (.lit (.int .i64 l.to)), .pv (.lit (.string (strOf b.D)))]) ?_
    refine rvc_un (rexec_buildSliceF C eItem [(Item.mk l (strOf b.D))] rfl rfl rfl rfl rfl rfl rfl (by decide) rfl ?_)
    refine rvc_un (rexec_append C rfl rfl rfl rfl rfl rfl rfl rfl (fun _ h => by cases h) rfl (en := eItem) (D0 := n.items.D) (D := [(Item.mk l (strOf b.D))]) rfl rfl rfl rfl (by have := of_decide_eq_false h2; have := of_decide_eq_false h3; first | omega | (simp <;> omega)) (by decide) (nn := (n.items.D ++ [(Item.mk l (strOf b.D))]).length) (by simp) ?_)
    refine rvP C (.ptr 0 0) ?_
    refine rvP C (.ptr 0 0) ?_
    refine rvc_un (rexec_prim C (δ := { v := .undef, wr := [(0, some (.cells [.sl 36 0 ((n.items.D ++ [(Item.mk l (strOf b.D))]).length) 3 false, .pv (.lit (.bool (n.side 0))), .pv (.lit (.bool (n.side 1))), .pv (.lit (.bool (n.side 2))), .pv (.lit (.bool (n.side 3))), .pv (.lit (.bool (n.side 4))), .pv (.lit (.bool (n.side 5))), .pv (.lit (.bool (n.side 6))), .pv (.lit (.bool (n.side 7))), .pv (.lit (.bool (n.side 8))), .pv (.lit (.bool (n.side 9))), .pv (.lit (.bool (n.side 10))), .pv (.lit (.bool (n.side 11))), .pv (.lit (.bool (n.side 12))), .pv (.lit (.bool (n.side 13))), .pv (.lit (.bool (n.side 14))), .pv (.lit (.bool (n.side 15))), .pv (.lit (.bool (n.side 16))), .pv (.lit (.bool (n.side 17))), .pv (.lit (.bool (n.side 18))), .pv (.lit (.bool (n.side 19))), .pv (.lit (.bool (n.side 20))), .pv (.lit (.bool (n.side 21))), .pv (.lit (.bool (n.side 22))), .pv (.lit (.bool (n.side 23))), .pv (.lit (.bool (n.side 24))), .pv (.lit (.bool (n.side 25))), .pv (.lit (.bool (n.side 26))), .pv (.lit (.bool (n.side 27))), .pv (.lit (.bool (n.side 28))), .pv (.lit (.bool (n.side 29))), .pv (.lit (.bool (n.side 30))), .pv (.lit (.bool (n.side 31))), .pv (.lit (.bool (n.side 32))), .pv (.lit (.bool (n.side 33))), .pv (.lit (.bool (n.side 34))), .pv (.lit (.bool (n.side 35))), .pv (.lit (.bool (n.side 36))), .pv (.lit (.bool (n.side 37))), .pv (.lit (.bool (n.side 38))), .pv (.lit (.bool (n.side 39))), .pv (.lit (.bool (n.side 40))), .pv (.lit (.bool (n.side 41))), .pv (.lit (.bool (n.side 42))), .pv (.lit (.bool (n.side 43))), .pv (.lit (.bool (n.side 44))), .pv (.lit (.bool (n.side 45))), .pv (.lit (.bool (n.side 46))), .pv (.lit (.bool (n.side 47))), .pv (.lit (.bool (n.side 48))), .pv (.lit (.bool (n.side 49))), .pv (.lit (.bool (n.side 50))), .pv (.lit (.bool (n.side 51))), .pv (.lit (.bool (n.side 52))), .pv (.lit (.bool (n.side 53))), .pv (.lit (.bool (n.side 54))), .pv (.lit (.bool (n.side 55))), .pv (.lit (.bool (n.side 56))), .pv (.lit (.bool (n.side 57))), .pv (.lit (.bool (n.side 58))), .pv (.lit (.bool (n.side 59))), .pv (.lit (.bool (n.side 60))), .pv (.lit (.bool (n.side 61))), .pv (.lit (.bool (n.side 62))), .pv (.lit (.bool (n.side 63))), .pv (.lit (.int .i64 n.lost))]))] }) rfl rfl rfl rfl trivial rfl ?_)
    refine rvc_nil ?_
    refine Awp.consP C ?_
    refine rvP C (.pv (.lit (.int .i64 0))) ?_
    refine rvc_nil ?_
    refine Awp.freezeW 36 (encL eItem (n.items.D ++ [(Item.mk l (strOf b.D))])) ?_ [(6, .pv (.lit (.int .i64 0)))] [(0, .cells [sS (some false) eItem (n.items.D ++ [(Item.mk l (strOf b.D))]), .pv (.lit (.bool (n.side 0))), .pv (.lit (.bool (n.side 1))), .pv (.lit (.bool (n.side 2))), .pv (.lit (.bool (n.side 3))), .pv (.lit (.bool (n.side 4))), .pv (.lit (.bool (n.side 5))), .pv (.lit (.bool (n.side 6))), .pv (.lit (.bool (n.side 7))), .pv (.lit (.bool (n.side 8))), .pv (.lit (.bool (n.side 9))), .pv (.lit (.bool (n.side 10))), .pv (.lit (.bool (n.side 11))), .pv (.lit (.bool (n.side 12))), .pv (.lit (.bool (n.side 13))), .pv (.lit (.bool (n.side 14))), .pv (.lit (.bool (n.side 15))), .pv (.lit (.bool (n.side 16))), .pv (.lit (.bool (n.side 17))), .pv (.lit (.bool (n.side 18))), .pv (.lit (.bool (n.side 19))), .pv (.lit (.bool (n.side 20))), .pv (.lit (.bool (n.side 21))), .pv (.lit (.bool (n.side 22))), .pv (.lit (.bool (n.side 23))), .pv (.lit (.bool (n.side 24))), .pv (.lit (.bool (n.side 25))), .pv (.lit (.bool (n.side 26))), .pv (.lit (.bool (n.side 27))), .pv (.lit (.bool (n.side 28))), .pv (.lit (.bool (n.side 29))), .pv (.lit (.bool (n.side 30))), .pv (.lit (.bool (n.side 31))), .pv (.lit (.bool (n.side 32))), .pv (.lit (.bool (n.side 33))), .pv (.lit (.bool (n.side 34))), .pv (.lit (.bool (n.side 35))), .pv (.lit (.bool (n.side 36))), .pv (.lit (.bool (n.side 37))), .pv (.lit (.bool (n.side 38))), .pv (.lit (.bool (n.side 39))), .pv (.lit (.bool (n.side 40))), .pv (.lit (.bool (n.side 41))), .pv (.lit (.bool (n.side 42))), .pv (.lit (.bool (n.side 43))), .pv (.lit (.bool (n.side 44))), .pv (.lit (.bool (n.side 45))), .pv (.lit (.bool (n.side 46))), .pv (.lit (.bool (n.side 47))), .pv (.lit (.bool (n.side 48))), .pv (.lit (.bool (n.side 49))), .pv (.lit (.bool (n.side 50))), .pv (.lit (.bool (n.side 51))), .pv (.lit (.bool (n.side 52))), .pv (.lit (.bool (n.side 53))), .pv (.lit (.bool (n.side 54))), .pv (.lit (.bool (n.side 55))), .pv (.lit (.bool (n.side 56))), .pv (.lit (.bool (n.side 57))), .pv (.lit (.bool (n.side 58))), .pv (.lit (.bool (n.side 59))), .pv (.lit (.bool (n.side 60))), .pv (.lit (.bool (n.side 61))), .pv (.lit (.bool (n.side 62))), .pv (.lit (.bool (n.side 63))), .pv (.lit (.int .i64 n.lost))]), (4, .cells [.pv (.lit (.int .i64 l.from_)), .pv (.lit (.int .i64 l.to))])] ?_ ?_ ?_
    · rfl
    · exact ⟨⟨_, rfl, .inl (.inl rfl)⟩, trivial⟩
    · exact ⟨⟨(by show (0 : Nat) ≠ 36; decide), .inr ⟨_, _, rfl, rfl, ⟨.inr ⟨_, _, _, rfl, rfl⟩, .inl rfl, .inl rfl, .inl rfl, .inl rfl, .inl rfl, .inl rfl, .inl rfl, .inl rfl, .inl rfl, .inl rfl, .inl rfl, .inl rfl, .inl rfl, .inl rfl, .inl rfl, .inl rfl, .inl rfl, .inl rfl, .inl rfl, .inl rfl, .inl rfl, .inl rfl, .inl rfl, .inl rfl, .inl rfl, .inl rfl, .inl rfl, .inl rfl, .inl rfl, .inl rfl, .inl rfl, .inl rfl, .inl rfl, .inl rfl, .inl rfl, .inl rfl, .inl rfl, .inl rfl, .inl rfl, .inl rfl, .inl rfl, .inl rfl, .inl rfl, .inl rfl, .inl rfl, .inl rfl, .inl rfl, .inl rfl, .inl rfl, .inl rfl, .inl rfl, .inl rfl, .inl rfl, .inl rfl, .inl rfl, .inl rfl, .inl rfl, .inl rfl, .inl rfl, .inl rfl, .inl rfl, .inl rfl, .inl rfl, .inl rfl, .inl rfl, trivial⟩⟩⟩, ⟨(by show (4 : Nat) ≠ 36; decide), .inl rfl⟩, trivial⟩
    refine Awp.ret ?_
    subst hR
    exact ⟨.inl rfl, rfl, rfl⟩
def rTake (n : Net51) (l : Link) (i : Int) : Net51 × ByteArray × Bool × Int :=
  (bif (decide ((rPlace n l i) < 0)) then (n, ⟨#[]⟩, false, 40) else (bif (!((n.side l.from_.toNat) == (n.side l.to.toNat))) then ((Net51.mk (Sl.mk false ((n.items.D.take ((rPlace n l i).toNat)) ++ (n.items.D.drop ((IntKind.i64.wrap ((rPlace n l i) + 1)).toNat)))) n.side n.lost), ⟨#[]⟩, false, 0) else ((Net51.mk (Sl.mk false ((n.items.D.take ((rPlace n l i).toNat)) ++ (n.items.D.drop ((IntKind.i64.wrap ((rPlace n l i) + 1)).toNat)))) n.side n.lost), n.items.D[(rPlace n l i).toNat]!.b, true, 0)))
theorem rTake_calls (n : Net51) (l : Link) (i : Int) (ho : okR n) (hl1 : n.items.D.length ≤ 1000000) : MCalls Try.prog 39 [.ptr 0 0, .agg [.pv (.lit (.int .i64 l.from_)), .pv (.lit (.int .i64 l.to))], .pv (.lit (.int .i64 i))] (.cells [sS (some n.items.nil) eItem n.items.D, .pv (.lit (.bool (n.side 0))), .pv (.lit (.bool (n.side 1))), .pv (.lit (.bool (n.side 2))), .pv (.lit (.bool (n.side 3))), .pv (.lit (.bool (n.side 4))), .pv (.lit (.bool (n.side 5))), .pv (.lit (.bool (n.side 6))), .pv (.lit (.bool (n.side 7))), .pv (.lit (.bool (n.side 8))), .pv (.lit (.bool (n.side 9))), .pv (.lit (.bool (n.side 10))), .pv (.lit (.bool (n.side 11))), .pv (.lit (.bool (n.side 12))), .pv (.lit (.bool (n.side 13))), .pv (.lit (.bool (n.side 14))), .pv (.lit (.bool (n.side 15))), .pv (.lit (.bool (n.side 16))), .pv (.lit (.bool (n.side 17))), .pv (.lit (.bool (n.side 18))), .pv (.lit (.bool (n.side 19))), .pv (.lit (.bool (n.side 20))), .pv (.lit (.bool (n.side 21))), .pv (.lit (.bool (n.side 22))), .pv (.lit (.bool (n.side 23))), .pv (.lit (.bool (n.side 24))), .pv (.lit (.bool (n.side 25))), .pv (.lit (.bool (n.side 26))), .pv (.lit (.bool (n.side 27))), .pv (.lit (.bool (n.side 28))), .pv (.lit (.bool (n.side 29))), .pv (.lit (.bool (n.side 30))), .pv (.lit (.bool (n.side 31))), .pv (.lit (.bool (n.side 32))), .pv (.lit (.bool (n.side 33))), .pv (.lit (.bool (n.side 34))), .pv (.lit (.bool (n.side 35))), .pv (.lit (.bool (n.side 36))), .pv (.lit (.bool (n.side 37))), .pv (.lit (.bool (n.side 38))), .pv (.lit (.bool (n.side 39))), .pv (.lit (.bool (n.side 40))), .pv (.lit (.bool (n.side 41))), .pv (.lit (.bool (n.side 42))), .pv (.lit (.bool (n.side 43))), .pv (.lit (.bool (n.side 44))), .pv (.lit (.bool (n.side 45))), .pv (.lit (.bool (n.side 46))), .pv (.lit (.bool (n.side 47))), .pv (.lit (.bool (n.side 48))), .pv (.lit (.bool (n.side 49))), .pv (.lit (.bool (n.side 50))), .pv (.lit (.bool (n.side 51))), .pv (.lit (.bool (n.side 52))), .pv (.lit (.bool (n.side 53))), .pv (.lit (.bool (n.side 54))), .pv (.lit (.bool (n.side 55))), .pv (.lit (.bool (n.side 56))), .pv (.lit (.bool (n.side 57))), .pv (.lit (.bool (n.side 58))), .pv (.lit (.bool (n.side 59))), .pv (.lit (.bool (n.side 60))), .pv (.lit (.bool (n.side 61))), .pv (.lit (.bool (n.side 62))), .pv (.lit (.bool (n.side 63))), .pv (.lit (.int .i64 n.lost))]) (.tup [.pv (.lit (.string ((rTake n l i).2.1))), .pv (.lit (.bool ((rTake n l i).2.2.1))), .pv (.lit (.int .i64 ((rTake n l i).2.2.2)))]) (.cells [sS (some (rTake n l i).1.items.nil) eItem ((rTake n l i).1.items.D), .pv (.lit (.bool ((rTake n l i).1.side 0))), .pv (.lit (.bool ((rTake n l i).1.side 1))), .pv (.lit (.bool ((rTake n l i).1.side 2))), .pv (.lit (.bool ((rTake n l i).1.side 3))), .pv (.lit (.bool ((rTake n l i).1.side 4))), .pv (.lit (.bool ((rTake n l i).1.side 5))), .pv (.lit (.bool ((rTake n l i).1.side 6))), .pv (.lit (.bool ((rTake n l i).1.side 7))), .pv (.lit (.bool ((rTake n l i).1.side 8))), .pv (.lit (.bool ((rTake n l i).1.side 9))), .pv (.lit (.bool ((rTake n l i).1.side 10))), .pv (.lit (.bool ((rTake n l i).1.side 11))), .pv (.lit (.bool ((rTake n l i).1.side 12))), .pv (.lit (.bool ((rTake n l i).1.side 13))), .pv (.lit (.bool ((rTake n l i).1.side 14))), .pv (.lit (.bool ((rTake n l i).1.side 15))), .pv (.lit (.bool ((rTake n l i).1.side 16))), .pv (.lit (.bool ((rTake n l i).1.side 17))), .pv (.lit (.bool ((rTake n l i).1.side 18))), .pv (.lit (.bool ((rTake n l i).1.side 19))), .pv (.lit (.bool ((rTake n l i).1.side 20))), .pv (.lit (.bool ((rTake n l i).1.side 21))), .pv (.lit (.bool ((rTake n l i).1.side 22))), .pv (.lit (.bool ((rTake n l i).1.side 23))), .pv (.lit (.bool ((rTake n l i).1.side 24))), .pv (.lit (.bool ((rTake n l i).1.side 25))), .pv (.lit (.bool ((rTake n l i).1.side 26))), .pv (.lit (.bool ((rTake n l i).1.side 27))), .pv (.lit (.bool ((rTake n l i).1.side 28))), .pv (.lit (.bool ((rTake n l i).1.side 29))), .pv (.lit (.bool ((rTake n l i).1.side 30))), .pv (.lit (.bool ((rTake n l i).1.side 31))), .pv (.lit (.bool ((rTake n l i).1.side 32))), .pv (.lit (.bool ((rTake n l i).1.side 33))), .pv (.lit (.bool ((rTake n l i).1.side 34))), .pv (.lit (.bool ((rTake n l i).1.side 35))), .pv (.lit (.bool ((rTake n l i).1.side 36))), .pv (.lit (.bool ((rTake n l i).1.side 37))), .pv (.lit (.bool ((rTake n l i).1.side 38))), .pv (.lit (.bool ((rTake n l i).1.side 39))), .pv (.lit (.bool ((rTake n l i).1.side 40))), .pv (.lit (.bool ((rTake n l i).1.side 41))), .pv (.lit (.bool ((rTake n l i).1.side 42))), .pv (.lit (.bool ((rTake n l i).1.side 43))), .pv (.lit (.bool ((rTake n l i).1.side 44))), .pv (.lit (.bool ((rTake n l i).1.side 45))), .pv (.lit (.bool ((rTake n l i).1.side 46))), .pv (.lit (.bool ((rTake n l i).1.side 47))), .pv (.lit (.bool ((rTake n l i).1.side 48))), .pv (.lit (.bool ((rTake n l i).1.side 49))), .pv (.lit (.bool ((rTake n l i).1.side 50))), .pv (.lit (.bool ((rTake n l i).1.side 51))), .pv (.lit (.bool ((rTake n l i).1.side 52))), .pv (.lit (.bool ((rTake n l i).1.side 53))), .pv (.lit (.bool ((rTake n l i).1.side 54))), .pv (.lit (.bool ((rTake n l i).1.side 55))), .pv (.lit (.bool ((rTake n l i).1.side 56))), .pv (.lit (.bool ((rTake n l i).1.side 57))), .pv (.lit (.bool ((rTake n l i).1.side 58))), .pv (.lit (.bool ((rTake n l i).1.side 59))), .pv (.lit (.bool ((rTake n l i).1.side 60))), .pv (.lit (.bool ((rTake n l i).1.side 61))), .pv (.lit (.bool ((rTake n l i).1.side 62))), .pv (.lit (.bool ((rTake n l i).1.side 63))), .pv (.lit (.int .i64 ((rTake n l i).1.lost)))]) := by
 generalize hR : rTake n l i = R
 refine MCalls.of_body tabOk Try.func39 rfl rfl rfl rfl rfl rfl rfl mixed fun E hP C hI => ?_
 refine Awp.consP C ?_
 refine rvc_un (rexec_prim C (δ := { v := .ptr 4 0, new := [(4, .cells [.pv (.lit (.int .i64 l.from_)), .pv (.lit (.int .i64 l.to))])] }) rfl rfl rfl rfl trivial rfl ?_)
 refine rvP C (.pv (.lit (.string ⟨#[]⟩))) ?_
 refine rvP C (.pv (.lit (.bool false))) ?_
 refine rvP C (.pv (.lit (.int .i64 0))) ?_
 refine rvc_nil ?_
 refine Awp.cons C (fun _ => .writer) (by kernel_rfl) ?_
 refine rvP C (.ptr 0 0) ?_
 refine rvP C (.agg [.pv (.lit (.int .i64 l.from_)), .pv (.lit (.int .i64 l.to))]) ?_
 refine rvP C (.pv (.lit (.int .i64 i))) ?_
 refine rvc_un (rexec_callM hP C (b := 0) rfl rfl rfl (rPlace_calls n l i hl1) rfl rfl ?_)
 refine rvP C (.pv (.lit (.int .i64 (rPlace n l i)))) ?_
 refine rvc_nil ?_
 refine Awp.seq ?_
 refine Awp.consP C ?_
 refine rvP C (.pv (.lit (.int .i64 (rPlace n l i)))) ?_
 refine rvP C (.pv (.lit (.bool (decide ((rPlace n l i) < 0))))) ?_
 refine rvc_nil ?_
 refine Awp.cond (b := (decide ((rPlace n l i) < 0))) rfl (fun h1 => ?_) (fun h1 => ?_)
 ·
  replace hR := of_true h1 hR
  refine Awp.consP C ?_
  refine rvP C (.pv (.lit (.string ⟨#[]⟩))) ?_
  refine rvP C (.pv (.lit (.bool false))) ?_
  refine rvP C (.pv (.lit (.int .i64 40))) ?_
  refine rvc_nil ?_
  refine Awp.ret ?_
  subst hR
  exact ⟨.inl rfl, rfl, rfl⟩
 ·
  replace hR := of_false h1 hR
  refine Awp.skip ?_
  refine Awp.consP C ?_
  refine rvP C (.ptr 0 0) ?_
  refine rvP C (.ptr 0 0) ?_
  refine rvP C (.ptr 0 0) ?_
  refine rvP C (sS (some n.items.nil) eItem n.items.D) ?_
  refine rvP C (.pv (.lit (.int .i64 (rPlace n l i)))) ?_
  have h2 : n.items.D[(rPlace n l i).toNat]? = some n.items.D[(rPlace n l i).toNat]! := getE (by have := rPlace_lt n l i; have := wrapI (rPlace n l i + 1); have := of_decide_eq_false h1; omega)
  refine rvc_un (rexec_idxS C rfl rfl rfl rfl rfl rfl (n.items.D[(rPlace n l i).toNat]!) (by have := rPlace_lt n l i; have := wrapI (rPlace n l i + 1); have := of_decide_eq_false h1; omega) h2 ?_)
  refine rvP C (.rp [.lit (.string (n.items.D[(rPlace n l i).toNat]!.b))]) ?_
  refine rvP C (.pv (.lit (.string (n.items.D[(rPlace n l i).toNat]!.b)))) ?_
  refine rvP C (.pv (.lit (.string (n.items.D[(rPlace n l i).toNat]!.b)))) ?_
  refine rvc_nil ?_
  refine Awp.cons C (fun o => match o.dst with | some 30 => .reads [0] | some 37 => .reads [0] | some 32 => .reads [] | some 40 => .reads [] | some 26 => .writes [26] | some 33 => .writes [26, 33] | some 41 => .writes [33, 41] | none => .writer | _ => .pure) (by kernel_rfl) ?_
  refine rvP C (.ptr 0 0) ?_
  refine rvc_un (rexec_prim C (δ := { v := .sl 26 0 0 3 true, new := [(26, .cells (encC eItem []))] }) rfl rfl rfl rfl trivial rfl ?_)
  refine rvP C (.ptr 0 0) ?_
  refine rvP C (.ptr 0 0) ?_
  refine rvP C (.ptr 0 0) ?_
  refine rvP C (sS (some n.items.nil) eItem n.items.D) ?_
  refine rvP C (.pv (.lit (.int .i64 (rPlace n l i)))) ?_
  refine rvc_un (rexec_sliceS C (e := eItem) (D := n.items.D) 0 ((rPlace n l i).toNat) rfl rfl rfl rfl rfl rfl rfl rfl rfl (by have := rPlace_lt n l i; have := wrapI (rPlace n l i + 1); have := of_decide_eq_false h1; simp; omega) (by have := rPlace_lt n l i; have := wrapI (rPlace n l i + 1); have := of_decide_eq_false h1; omega) (by have := rPlace_lt n l i; have := wrapI (rPlace n l i + 1); have := of_decide_eq_false h1; omega) (n.items.D.take ((rPlace n l i).toNat)) (by simp) ?_)
  refine rvc_un (rexec_append C rfl rfl rfl rfl rfl rfl rfl rfl (fun _ h => by cases h) rfl (en := eItem) (D0 := []) (D := (n.items.D.take ((rPlace n l i).toNat))) rfl rfl rfl rfl (by have := rPlace_lt n l i; have := wrapI (rPlace n l i + 1); have := of_decide_eq_false h1; first | omega | (simp <;> omega)) (by decide) (nn := (n.items.D.take ((rPlace n l i).toNat)).length) (by simp) ?_)
  refine rvP C (.ptr 0 0) ?_
  refine rvP C (.ptr 0 0) ?_
  refine rvP C (.ptr 0 0) ?_
  refine rvP C (sS (some n.items.nil) eItem n.items.D) ?_
  refine rvP C (.pv (.lit (.int .i64 (rPlace n l i)))) ?_
  refine rvP C (.pv (.lit (.int .i64 (IntKind.i64.wrap ((rPlace n l i) + 1))))) ?_
  refine rvc_un (rexec_sliceS C (e := eItem) (D := n.items.D) ((IntKind.i64.wrap ((rPlace n l i) + 1)).toNat) n.items.D.length rfl rfl rfl rfl rfl rfl rfl rfl (by have := rPlace_lt n l i; have := wrapI (rPlace n l i + 1); have := of_decide_eq_false h1; simp; omega) rfl (by have := rPlace_lt n l i; have := wrapI (rPlace n l i + 1); have := of_decide_eq_false h1; omega) (by have := rPlace_lt n l i; have := wrapI (rPlace n l i + 1); have := of_decide_eq_false h1; omega) (n.items.D.drop ((IntKind.i64.wrap ((rPlace n l i) + 1)).toNat)) (by rw [List.take_of_length_le (by simp)]) ?_)
  refine rvc_un (rexec_append C rfl rfl rfl rfl rfl rfl rfl rfl (fun _ h => by cases h) rfl (en := eItem) (D0 := (n.items.D.take ((rPlace n l i).toNat))) (D := (n.items.D.drop ((IntKind.i64.wrap ((rPlace n l i) + 1)).toNat))) rfl rfl rfl rfl (by have := rPlace_lt n l i; have := wrapI (rPlace n l i + 1); have := of_decide_eq_false h1; first | omega | (simp <;> omega)) (by decide) (nn := ((n.items.D.take ((rPlace n l i).toNat)) ++ (n.items.D.drop ((IntKind.i64.wrap ((rPlace n l i) + 1)).toNat))).length) (by simp) ?_)
  refine rvP C (.ptr 0 0) ?_
  refine rvP C (.ptr 0 0) ?_
  refine rvc_un (rexec_prim C (δ := { v := .undef, wr := [(0, some (.cells [.sl 41 0 (((n.items.D.take ((rPlace n l i).toNat)) ++ (n.items.D.drop ((IntKind.i64.wrap ((rPlace n l i) + 1)).toNat))).length) 3 false, .pv (.lit (.bool (n.side 0))), .pv (.lit (.bool (n.side 1))), .pv (.lit (.bool (n.side 2))), .pv (.lit (.bool (n.side 3))), .pv (.lit (.bool (n.side 4))), .pv (.lit (.bool (n.side 5))), .pv (.lit (.bool (n.side 6))), .pv (.lit (.bool (n.side 7))), .pv (.lit (.bool (n.side 8))), .pv (.lit (.bool (n.side 9))), .pv (.lit (.bool (n.side 10))), .pv (.lit (.bool (n.side 11))), .pv (.lit (.bool (n.side 12))), .pv (.lit (.bool (n.side 13))), .pv (.lit (.bool (n.side 14))), .pv (.lit (.bool (n.side 15))), .pv (.lit (.bool (n.side 16))), .pv (.lit (.bool (n.side 17))), .pv (.lit (.bool (n.side 18))), .pv (.lit (.bool (n.side 19))), .pv (.lit (.bool (n.side 20))), .pv (.lit (.bool (n.side 21))), .pv (.lit (.bool (n.side 22))), .pv (.lit (.bool (n.side 23))), .pv (.lit (.bool (n.side 24))), .pv (.lit (.bool (n.side 25))), .pv (.lit (.bool (n.side 26))), .pv (.lit (.bool (n.side 27))), .pv (.lit (.bool (n.side 28))), .pv (.lit (.bool (n.side 29))), .pv (.lit (.bool (n.side 30))), .pv (.lit (.bool (n.side 31))), .pv (.lit (.bool (n.side 32))), .pv (.lit (.bool (n.side 33))), .pv (.lit (.bool (n.side 34))), .pv (.lit (.bool (n.side 35))), .pv (.lit (.bool (n.side 36))), .pv (.lit (.bool (n.side 37))), .pv (.lit (.bool (n.side 38))), .pv (.lit (.bool (n.side 39))), .pv (.lit (.bool (n.side 40))), .pv (.lit (.bool (n.side 41))), .pv (.lit (.bool (n.side 42))), .pv (.lit (.bool (n.side 43))), .pv (.lit (.bool (n.side 44))), .pv (.lit (.bool (n.side 45))), .pv (.lit (.bool (n.side 46))), .pv (.lit (.bool (n.side 47))), .pv (.lit (.bool (n.side 48))), .pv (.lit (.bool (n.side 49))), .pv (.lit (.bool (n.side 50))), .pv (.lit (.bool (n.side 51))), .pv (.lit (.bool (n.side 52))), .pv (.lit (.bool (n.side 53))), .pv (.lit (.bool (n.side 54))), .pv (.lit (.bool (n.side 55))), .pv (.lit (.bool (n.side 56))), .pv (.lit (.bool (n.side 57))), .pv (.lit (.bool (n.side 58))), .pv (.lit (.bool (n.side 59))), .pv (.lit (.bool (n.side 60))), .pv (.lit (.bool (n.side 61))), .pv (.lit (.bool (n.side 62))), .pv (.lit (.bool (n.side 63))), .pv (.lit (.int .i64 n.lost))]))] }) rfl rfl rfl rfl trivial rfl ?_)
  refine rvc_nil ?_
  refine Awp.seq ?_
  refine Awp.consP C ?_
  refine rvP C (.ptr 0 0) ?_
  refine rvP C (.ptr 4 0) ?_
  refine rvP C (.pv (.lit (.int .i64 l.from_))) ?_
  refine rvP C (.ptr 0 0) ?_
  refine rvP C (.ptr 0 1) ?_
  refine rvc_un (rexec_prim C (δ := { v := .ptr 0 (1 + l.from_.toNat * 1) }) rfl rfl rfl rfl ⟨(by have h_ := rTake_ix (l := l) (i := i) ho (by assumption); omega), (by have h_ := rTake_ix (l := l) (i := i) ho (by assumption); omega)⟩ rfl ?_)
  refine rvc_un (rexec_loadA C [.sl 41 0 (((n.items.D.take ((rPlace n l i).toNat)) ++ (n.items.D.drop ((IntKind.i64.wrap ((rPlace n l i) + 1)).toNat))).length) 3 false] [.pv (.lit (.int .i64 n.lost))] (fun j => .pv (.lit (.bool (n.side j)))) 64 l.from_.toNat (.pv (.lit (.bool (n.side l.from_.toNat)))) rfl rfl rfl rfl rfl rfl rfl (by have h_ := rTake_ix (l := l) (i := i) ho (by assumption); omega) rfl ?_)
  refine rvP C (.ptr 0 0) ?_
  refine rvP C (.ptr 4 1) ?_
  refine rvP C (.pv (.lit (.int .i64 l.to))) ?_
  refine rvP C (.ptr 0 0) ?_
  refine rvP C (.ptr 0 1) ?_
  refine rvc_un (rexec_prim C (δ := { v := .ptr 0 (1 + l.to.toNat * 1) }) rfl rfl rfl rfl ⟨(by have h_ := rTake_ix (l := l) (i := i) ho (by assumption); omega), (by have h_ := rTake_ix (l := l) (i := i) ho (by assumption); omega)⟩ rfl ?_)
  refine rvc_un (rexec_loadA C [.sl 41 0 (((n.items.D.take ((rPlace n l i).toNat)) ++ (n.items.D.drop ((IntKind.i64.wrap ((rPlace n l i) + 1)).toNat))).length) 3 false] [.pv (.lit (.int .i64 n.lost))] (fun j => .pv (.lit (.bool (n.side j)))) 64 l.to.toNat (.pv (.lit (.bool (n.side l.to.toNat)))) rfl rfl rfl rfl rfl rfl rfl (by have h_ := rTake_ix (l := l) (i := i) ho (by assumption); omega) rfl ?_)
  refine rvP C (.pv (.lit (.bool (!((n.side l.from_.toNat) == (n.side l.to.toNat)))))) ?_
  refine rvc_nil ?_
  refine Awp.cond (b := (!((n.side l.from_.toNat) == (n.side l.to.toNat)))) rfl (fun h3 => ?_) (fun h3 => ?_)
  ·
   replace hR := of_true h3 hR
   refine Awp.consP C ?_
   refine rvP C (.pv (.lit (.string ⟨#[]⟩))) ?_
   refine rvP C (.pv (.lit (.bool false))) ?_
   refine rvP C (.pv (.lit (.int .i64 0))) ?_
   refine rvc_nil ?_
   refine Awp.freezeW 41 (encL eItem ((n.items.D.take ((rPlace n l i).toNat)) ++ (n.items.D.drop ((IntKind.i64.wrap ((rPlace n l i) + 1)).toNat)))) ?_ [(6, .pv (.lit (.string ⟨#[]⟩))), (7, .pv (.lit (.bool false))), (8, .pv (.lit (.int .i64 0)))] [(0, .cells [sS (some false) eItem ((n.items.D.take ((rPlace n l i).toNat)) ++ (n.items.D.drop ((IntKind.i64.wrap ((rPlace n l i) + 1)).toNat))), .pv (.lit (.bool (n.side 0))), .pv (.lit (.bool (n.side 1))), .pv (.lit (.bool (n.side 2))), .pv (.lit (.bool (n.side 3))), .pv (.lit (.bool (n.side 4))), .pv (.lit (.bool (n.side 5))), .pv (.lit (.bool (n.side 6))), .pv (.lit (.bool (n.side 7))), .pv (.lit (.bool (n.side 8))), .pv (.lit (.bool (n.side 9))), .pv (.lit (.bool (n.side 10))), .pv (.lit (.bool (n.side 11))), .pv (.lit (.bool (n.side 12))), .pv (.lit (.bool (n.side 13))), .pv (.lit (.bool (n.side 14))), .pv (.lit (.bool (n.side 15))), .pv (.lit (.bool (n.side 16))), .pv (.lit (.bool (n.side 17))), .pv (.lit (.bool (n.side 18))), .pv (.lit (.bool (n.side 19))), .pv (.lit (.bool (n.side 20))), .pv (.lit (.bool (n.side 21))), .pv (.lit (.bool (n.side 22))), .pv (.lit (.bool (n.side 23))), .pv (.lit (.bool (n.side 24))), .pv (.lit (.bool (n.side 25))), .pv (.lit (.bool (n.side 26))), .pv (.lit (.bool (n.side 27))), .pv (.lit (.bool (n.side 28))), .pv (.lit (.bool (n.side 29))), .pv (.lit (.bool (n.side 30))), .pv (.lit (.bool (n.side 31))), .pv (.lit (.bool (n.side 32))), .pv (.lit (.bool (n.side 33))), .pv (.lit (.bool (n.side 34))), .pv (.lit (.bool (n.side 35))), .pv (.lit (.bool (n.side 36))), .pv (.lit (.bool (n.side 37))), .pv (.lit (.bool (n.side 38))), .pv (.lit (.bool (n.side 39))), .pv (.lit (.bool (n.side 40))), .pv (.lit (.bool (n.side 41))), .pv (.lit (.bool (n.side 42))), .pv (.lit (.bool (n.side 43))), .pv (.lit (.bool (n.side 44))), .pv (.lit (.bool (n.side 45))), .pv (.lit (.bool (n.side 46))), .pv (.lit (.bool (n.side 47))), .pv (.lit (.bool (n.side 48))), .pv (.lit (.bool (n.side 49))), .pv (.lit (.bool (n.side 50))), .pv (.lit (.bool (n.side 51))), .pv (.lit (.bool (n.side 52))), .pv (.lit (.bool (n.side 53))), .pv (.lit (.bool (n.side 54))), .pv (.lit (.bool (n.side 55))), .pv (.lit (.bool (n.side 56))), .pv (.lit (.bool (n.side 57))), .pv (.lit (.bool (n.side 58))), .pv (.lit (.bool (n.side 59))), .pv (.lit (.bool (n.side 60))), .pv (.lit (.bool (n.side 61))), .pv (.lit (.bool (n.side 62))), .pv (.lit (.bool (n.side 63))), .pv (.lit (.int .i64 n.lost))]), (4, .cells [.pv (.lit (.int .i64 l.from_)), .pv (.lit (.int .i64 l.to))])] ?_ ?_ ?_
   · rfl
   · exact ⟨⟨_, rfl, .inl (.inl rfl)⟩, ⟨_, rfl, .inl (.inl rfl)⟩, ⟨_, rfl, .inl (.inl rfl)⟩, trivial⟩
   · exact ⟨⟨(by show (0 : Nat) ≠ 41; decide), .inr ⟨_, _, rfl, rfl, ⟨.inr ⟨_, _, _, rfl, rfl⟩, .inl rfl, .inl rfl, .inl rfl, .inl rfl, .inl rfl, .inl rfl, .inl rfl, .inl rfl, .inl rfl, .inl rfl, .inl rfl, .inl rfl, .inl rfl, .inl rfl, .inl rfl, .inl rfl, .inl rfl, .inl rfl, .inl rfl, .inl rfl, .inl rfl, .inl rfl, .inl rfl, .inl rfl, .inl rfl, .inl rfl, .inl rfl, .inl rfl, .inl rfl, .inl rfl, .inl rfl, .inl rfl, .inl rfl, .inl rfl, .inl rfl, .inl rfl, .inl rfl, .inl rfl, .inl rfl, .inl rfl, .inl rfl, .inl rfl, .inl rfl, .inl rfl, .inl rfl, .inl rfl, .inl rfl, .inl rfl, .inl rfl, .inl rfl, .inl rfl, .inl rfl, .inl rfl, .inl rfl, .inl rfl, .inl rfl, .inl rfl, .inl rfl, .inl rfl, .inl rfl, .inl rfl, .inl rfl, .inl rfl, .inl rfl, .inl rfl, trivial⟩⟩⟩, ⟨(by show (4 : Nat) ≠ 41; decide), .inl rfl⟩, trivial⟩
   refine Awp.ret ?_
   subst hR
   exact ⟨.inl rfl, rfl, rfl⟩
  ·
   replace hR := of_false h3 hR
   refine Awp.skip ?_
   refine Awp.consP C ?_
   refine rvP C (.pv (.lit (.string (n.items.D[(rPlace n l i).toNat]!.b)))) ?_
   refine rvP C (.pv (.lit (.string (n.items.D[(rPlace n l i).toNat]!.b)))) ?_
   refine rvP C (.pv (.lit (.bool true))) ?_
   refine rvP C (.pv (.lit (.int .i64 0))) ?_
   refine rvc_nil ?_
   refine Awp.freezeW 41 (encL eItem ((n.items.D.take ((rPlace n l i).toNat)) ++ (n.items.D.drop ((IntKind.i64.wrap ((rPlace n l i) + 1)).toNat)))) ?_ [(6, .pv (.lit (.string (n.items.D[(rPlace n l i).toNat]!.b)))), (7, .pv (.lit (.bool true))), (8, .pv (.lit (.int .i64 0)))] [(0, .cells [sS (some false) eItem ((n.items.D.take ((rPlace n l i).toNat)) ++ (n.items.D.drop ((IntKind.i64.wrap ((rPlace n l i) + 1)).toNat))), .pv (.lit (.bool (n.side 0))), .pv (.lit (.bool (n.side 1))), .pv (.lit (.bool (n.side 2))), .pv (.lit (.bool (n.side 3))), .pv (.lit (.bool (n.side 4))), .pv (.lit (.bool (n.side 5))), .pv (.lit (.bool (n.side 6))), .pv (.lit (.bool (n.side 7))), .pv (.lit (.bool (n.side 8))), .pv (.lit (.bool (n.side 9))), .pv (.lit (.bool (n.side 10))), .pv (.lit (.bool (n.side 11))), .pv (.lit (.bool (n.side 12))), .pv (.lit (.bool (n.side 13))), .pv (.lit (.bool (n.side 14))), .pv (.lit (.bool (n.side 15))), .pv (.lit (.bool (n.side 16))), .pv (.lit (.bool (n.side 17))), .pv (.lit (.bool (n.side 18))), .pv (.lit (.bool (n.side 19))), .pv (.lit (.bool (n.side 20))), .pv (.lit (.bool (n.side 21))), .pv (.lit (.bool (n.side 22))), .pv (.lit (.bool (n.side 23))), .pv (.lit (.bool (n.side 24))), .pv (.lit (.bool (n.side 25))), .pv (.lit (.bool (n.side 26))), .pv (.lit (.bool (n.side 27))), .pv (.lit (.bool (n.side 28))), .pv (.lit (.bool (n.side 29))), .pv (.lit (.bool (n.side 30))), .pv (.lit (.bool (n.side 31))), .pv (.lit (.bool (n.side 32))), .pv (.lit (.bool (n.side 33))), .pv (.lit (.bool (n.side 34))), .pv (.lit (.bool (n.side 35))), .pv (.lit (.bool (n.side 36))), .pv (.lit (.bool (n.side 37))), .pv (.lit (.bool (n.side 38))), .pv (.lit (.bool (n.side 39))), .pv (.lit (.bool (n.side 40))), .pv (.lit (.bool (n.side 41))), .pv (.lit (.bool (n.side 42))), .pv (.lit (.bool (n.side 43))), .pv (.lit (.bool (n.side 44))), .pv (.lit (.bool (n.side 45))), .pv (.lit (.bool (n.side 46))), .pv (.lit (.bool (n.side 47))), .pv (.lit (.bool (n.side 48))), .pv (.lit (.bool (n.side 49))), .pv (.lit (.bool (n.side 50))), .pv (.lit (.bool (n.side 51))), .pv (.lit (.bool (n.side 52))), .pv (.lit (.bool (n.side 53))), .pv (.lit (.bool (n.side 54))), .pv (.lit (.bool (n.side 55))), .pv (.lit (.bool (n.side 56))), .pv (.lit (.bool (n.side 57))), .pv (.lit (.bool (n.side 58))), .pv (.lit (.bool (n.side 59))), .pv (.lit (.bool (n.side 60))), .pv (.lit (.bool (n.side 61))), .pv (.lit (.bool (n.side 62))), .pv (.lit (.bool (n.side 63))), .pv (.lit (.int .i64 n.lost))]), (4, .cells [.pv (.lit (.int .i64 l.from_)), .pv (.lit (.int .i64 l.to))])] ?_ ?_ ?_
   · rfl
   · exact ⟨⟨_, rfl, .inl (.inl rfl)⟩, ⟨_, rfl, .inl (.inl rfl)⟩, ⟨_, rfl, .inl (.inl rfl)⟩, trivial⟩
   · exact ⟨⟨(by show (0 : Nat) ≠ 41; decide), .inr ⟨_, _, rfl, rfl, ⟨.inr ⟨_, _, _, rfl, rfl⟩, .inl rfl, .inl rfl, .inl rfl, .inl rfl, .inl rfl, .inl rfl, .inl rfl, .inl rfl, .inl rfl, .inl rfl, .inl rfl, .inl rfl, .inl rfl, .inl rfl, .inl rfl, .inl rfl, .inl rfl, .inl rfl, .inl rfl, .inl rfl, .inl rfl, .inl rfl, .inl rfl, .inl rfl, .inl rfl, .inl rfl, .inl rfl, .inl rfl, .inl rfl, .inl rfl, .inl rfl, .inl rfl, .inl rfl, .inl rfl, .inl rfl, .inl rfl, .inl rfl, .inl rfl, .inl rfl, .inl rfl, .inl rfl, .inl rfl, .inl rfl, .inl rfl, .inl rfl, .inl rfl, .inl rfl, .inl rfl, .inl rfl, .inl rfl, .inl rfl, .inl rfl, .inl rfl, .inl rfl, .inl rfl, .inl rfl, .inl rfl, .inl rfl, .inl rfl, .inl rfl, .inl rfl, .inl rfl, .inl rfl, .inl rfl, .inl rfl, trivial⟩⟩⟩, ⟨(by show (4 : Nat) ≠ 41; decide), .inl rfl⟩, trivial⟩
   refine Awp.ret ?_
   subst hR
   exact ⟨.inl rfl, rfl, rfl⟩
def rLose (n : Net51) (l : Link) (i : Int) : Net51 × Int :=
  (bif (decide ((rPlace n l i) < 0)) then (n, 40) else ((Net51.mk (Sl.mk false ((n.items.D.take ((rPlace n l i).toNat)) ++ (n.items.D.drop ((IntKind.i64.wrap ((rPlace n l i) + 1)).toNat)))) n.side n.lost), 0))
theorem rLose_calls (n : Net51) (l : Link) (i : Int) (hl1 : n.items.D.length ≤ 1000000) : MCalls Try.prog 40 [.ptr 0 0, .agg [.pv (.lit (.int .i64 l.from_)), .pv (.lit (.int .i64 l.to))], .pv (.lit (.int .i64 i))] (.cells [sS (some n.items.nil) eItem n.items.D, .pv (.lit (.bool (n.side 0))), .pv (.lit (.bool (n.side 1))), .pv (.lit (.bool (n.side 2))), .pv (.lit (.bool (n.side 3))), .pv (.lit (.bool (n.side 4))), .pv (.lit (.bool (n.side 5))), .pv (.lit (.bool (n.side 6))), .pv (.lit (.bool (n.side 7))), .pv (.lit (.bool (n.side 8))), .pv (.lit (.bool (n.side 9))), .pv (.lit (.bool (n.side 10))), .pv (.lit (.bool (n.side 11))), .pv (.lit (.bool (n.side 12))), .pv (.lit (.bool (n.side 13))), .pv (.lit (.bool (n.side 14))), .pv (.lit (.bool (n.side 15))), .pv (.lit (.bool (n.side 16))), .pv (.lit (.bool (n.side 17))), .pv (.lit (.bool (n.side 18))), .pv (.lit (.bool (n.side 19))), .pv (.lit (.bool (n.side 20))), .pv (.lit (.bool (n.side 21))), .pv (.lit (.bool (n.side 22))), .pv (.lit (.bool (n.side 23))), .pv (.lit (.bool (n.side 24))), .pv (.lit (.bool (n.side 25))), .pv (.lit (.bool (n.side 26))), .pv (.lit (.bool (n.side 27))), .pv (.lit (.bool (n.side 28))), .pv (.lit (.bool (n.side 29))), .pv (.lit (.bool (n.side 30))), .pv (.lit (.bool (n.side 31))), .pv (.lit (.bool (n.side 32))), .pv (.lit (.bool (n.side 33))), .pv (.lit (.bool (n.side 34))), .pv (.lit (.bool (n.side 35))), .pv (.lit (.bool (n.side 36))), .pv (.lit (.bool (n.side 37))), .pv (.lit (.bool (n.side 38))), .pv (.lit (.bool (n.side 39))), .pv (.lit (.bool (n.side 40))), .pv (.lit (.bool (n.side 41))), .pv (.lit (.bool (n.side 42))), .pv (.lit (.bool (n.side 43))), .pv (.lit (.bool (n.side 44))), .pv (.lit (.bool (n.side 45))), .pv (.lit (.bool (n.side 46))), .pv (.lit (.bool (n.side 47))), .pv (.lit (.bool (n.side 48))), .pv (.lit (.bool (n.side 49))), .pv (.lit (.bool (n.side 50))), .pv (.lit (.bool (n.side 51))), .pv (.lit (.bool (n.side 52))), .pv (.lit (.bool (n.side 53))), .pv (.lit (.bool (n.side 54))), .pv (.lit (.bool (n.side 55))), .pv (.lit (.bool (n.side 56))), .pv (.lit (.bool (n.side 57))), .pv (.lit (.bool (n.side 58))), .pv (.lit (.bool (n.side 59))), .pv (.lit (.bool (n.side 60))), .pv (.lit (.bool (n.side 61))), .pv (.lit (.bool (n.side 62))), .pv (.lit (.bool (n.side 63))), .pv (.lit (.int .i64 n.lost))]) (.pv (.lit (.int .i64 ((rLose n l i).2)))) (.cells [sS (some (rLose n l i).1.items.nil) eItem ((rLose n l i).1.items.D), .pv (.lit (.bool ((rLose n l i).1.side 0))), .pv (.lit (.bool ((rLose n l i).1.side 1))), .pv (.lit (.bool ((rLose n l i).1.side 2))), .pv (.lit (.bool ((rLose n l i).1.side 3))), .pv (.lit (.bool ((rLose n l i).1.side 4))), .pv (.lit (.bool ((rLose n l i).1.side 5))), .pv (.lit (.bool ((rLose n l i).1.side 6))), .pv (.lit (.bool ((rLose n l i).1.side 7))), .pv (.lit (.bool ((rLose n l i).1.side 8))), .pv (.lit (.bool ((rLose n l i).1.side 9))), .pv (.lit (.bool ((rLose n l i).1.side 10))), .pv (.lit (.bool ((rLose n l i).1.side 11))), .pv (.lit (.bool ((rLose n l i).1.side 12))), .pv (.lit (.bool ((rLose n l i).1.side 13))), .pv (.lit (.bool ((rLose n l i).1.side 14))), .pv (.lit (.bool ((rLose n l i).1.side 15))), .pv (.lit (.bool ((rLose n l i).1.side 16))), .pv (.lit (.bool ((rLose n l i).1.side 17))), .pv (.lit (.bool ((rLose n l i).1.side 18))), .pv (.lit (.bool ((rLose n l i).1.side 19))), .pv (.lit (.bool ((rLose n l i).1.side 20))), .pv (.lit (.bool ((rLose n l i).1.side 21))), .pv (.lit (.bool ((rLose n l i).1.side 22))), .pv (.lit (.bool ((rLose n l i).1.side 23))), .pv (.lit (.bool ((rLose n l i).1.side 24))), .pv (.lit (.bool ((rLose n l i).1.side 25))), .pv (.lit (.bool ((rLose n l i).1.side 26))), .pv (.lit (.bool ((rLose n l i).1.side 27))), .pv (.lit (.bool ((rLose n l i).1.side 28))), .pv (.lit (.bool ((rLose n l i).1.side 29))), .pv (.lit (.bool ((rLose n l i).1.side 30))), .pv (.lit (.bool ((rLose n l i).1.side 31))), .pv (.lit (.bool ((rLose n l i).1.side 32))), .pv (.lit (.bool ((rLose n l i).1.side 33))), .pv (.lit (.bool ((rLose n l i).1.side 34))), .pv (.lit (.bool ((rLose n l i).1.side 35))), .pv (.lit (.bool ((rLose n l i).1.side 36))), .pv (.lit (.bool ((rLose n l i).1.side 37))), .pv (.lit (.bool ((rLose n l i).1.side 38))), .pv (.lit (.bool ((rLose n l i).1.side 39))), .pv (.lit (.bool ((rLose n l i).1.side 40))), .pv (.lit (.bool ((rLose n l i).1.side 41))), .pv (.lit (.bool ((rLose n l i).1.side 42))), .pv (.lit (.bool ((rLose n l i).1.side 43))), .pv (.lit (.bool ((rLose n l i).1.side 44))), .pv (.lit (.bool ((rLose n l i).1.side 45))), .pv (.lit (.bool ((rLose n l i).1.side 46))), .pv (.lit (.bool ((rLose n l i).1.side 47))), .pv (.lit (.bool ((rLose n l i).1.side 48))), .pv (.lit (.bool ((rLose n l i).1.side 49))), .pv (.lit (.bool ((rLose n l i).1.side 50))), .pv (.lit (.bool ((rLose n l i).1.side 51))), .pv (.lit (.bool ((rLose n l i).1.side 52))), .pv (.lit (.bool ((rLose n l i).1.side 53))), .pv (.lit (.bool ((rLose n l i).1.side 54))), .pv (.lit (.bool ((rLose n l i).1.side 55))), .pv (.lit (.bool ((rLose n l i).1.side 56))), .pv (.lit (.bool ((rLose n l i).1.side 57))), .pv (.lit (.bool ((rLose n l i).1.side 58))), .pv (.lit (.bool ((rLose n l i).1.side 59))), .pv (.lit (.bool ((rLose n l i).1.side 60))), .pv (.lit (.bool ((rLose n l i).1.side 61))), .pv (.lit (.bool ((rLose n l i).1.side 62))), .pv (.lit (.bool ((rLose n l i).1.side 63))), .pv (.lit (.int .i64 ((rLose n l i).1.lost)))]) := by
 generalize hR : rLose n l i = R
 refine MCalls.of_body tabOk Try.func40 rfl rfl rfl rfl rfl rfl rfl mixed fun E hP C hI => ?_
 refine Awp.consP C ?_
 refine rvc_un (rexec_prim C (δ := { v := .ptr 4 0, new := [(4, .cells [.pv (.lit (.int .i64 l.from_)), .pv (.lit (.int .i64 l.to))])] }) rfl rfl rfl rfl trivial rfl ?_)
 refine rvP C (.pv (.lit (.int .i64 0))) ?_
 refine rvc_nil ?_
 refine Awp.cons C (fun _ => .writer) (by kernel_rfl) ?_
 refine rvP C (.ptr 0 0) ?_
 refine rvP C (.agg [.pv (.lit (.int .i64 l.from_)), .pv (.lit (.int .i64 l.to))]) ?_
 refine rvP C (.pv (.lit (.int .i64 i))) ?_
 refine rvc_un (rexec_callM hP C (b := 0) rfl rfl rfl (rPlace_calls n l i hl1) rfl rfl ?_)
 refine rvP C (.pv (.lit (.int .i64 (rPlace n l i)))) ?_
 refine rvc_nil ?_
 refine Awp.seq ?_
 refine Awp.consP C ?_
 refine rvP C (.pv (.lit (.int .i64 (rPlace n l i)))) ?_
 refine rvP C (.pv (.lit (.bool (decide ((rPlace n l i) < 0))))) ?_
 refine rvc_nil ?_
 refine Awp.cond (b := (decide ((rPlace n l i) < 0))) rfl (fun h1 => ?_) (fun h1 => ?_)
 ·
  replace hR := of_true h1 hR
  refine Awp.consP C ?_
  refine rvP C (.pv (.lit (.int .i64 40))) ?_
  refine rvc_nil ?_
  refine Awp.ret ?_
  subst hR
  exact ⟨.inl rfl, rfl, rfl⟩
 ·
  replace hR := of_false h1 hR
  refine Awp.skip ?_
  refine Awp.cons C (fun o => match o.dst with | some 19 => .reads [0] | some 26 => .reads [0] | some 21 => .reads [] | some 29 => .reads [] | some 15 => .writes [15] | some 22 => .writes [15, 22] | some 30 => .writes [22, 30] | none => .writer | _ => .pure) (by kernel_rfl) ?_
  refine rvP C (.ptr 0 0) ?_
  refine rvc_un (rexec_prim C (δ := { v := .sl 15 0 0 3 true, new := [(15, .cells (encC eItem []))] }) rfl rfl rfl rfl trivial rfl ?_)
  refine rvP C (.ptr 0 0) ?_
  refine rvP C (.ptr 0 0) ?_
  refine rvP C (.ptr 0 0) ?_
  refine rvP C (sS (some n.items.nil) eItem n.items.D) ?_
  refine rvP C (.pv (.lit (.int .i64 (rPlace n l i)))) ?_
  refine rvc_un (rexec_sliceS C (e := eItem) (D := n.items.D) 0 ((rPlace n l i).toNat) rfl rfl rfl rfl rfl rfl rfl rfl rfl (by have := rPlace_lt n l i; have := wrapI (rPlace n l i + 1); have := of_decide_eq_false h1; simp; omega) (by have := rPlace_lt n l i; have := wrapI (rPlace n l i + 1); have := of_decide_eq_false h1; omega) (by have := rPlace_lt n l i; have := wrapI (rPlace n l i + 1); have := of_decide_eq_false h1; omega) (n.items.D.take ((rPlace n l i).toNat)) (by simp) ?_)
  refine rvc_un (rexec_append C rfl rfl rfl rfl rfl rfl rfl rfl (fun _ h => by cases h) rfl (en := eItem) (D0 := []) (D := (n.items.D.take ((rPlace n l i).toNat))) rfl rfl rfl rfl (by have := rPlace_lt n l i; have := wrapI (rPlace n l i + 1); have := of_decide_eq_false h1; first | omega | (simp <;> omega)) (by decide) (nn := (n.items.D.take ((rPlace n l i).toNat)).length) (by simp) ?_)
  refine rvP C (.ptr 0 0) ?_
  refine rvP C (.ptr 0 0) ?_
  refine rvP C (.ptr 0 0) ?_
  refine rvP C (sS (some n.items.nil) eItem n.items.D) ?_
  refine rvP C (.pv (.lit (.int .i64 (rPlace n l i)))) ?_
  refine rvP C (.pv (.lit (.int .i64 (IntKind.i64.wrap ((rPlace n l i) + 1))))) ?_
  refine rvc_un (rexec_sliceS C (e := eItem) (D := n.items.D) ((IntKind.i64.wrap ((rPlace n l i) + 1)).toNat) n.items.D.length rfl rfl rfl rfl rfl rfl rfl rfl (by have := rPlace_lt n l i; have := wrapI (rPlace n l i + 1); have := of_decide_eq_false h1; simp; omega) rfl (by have := rPlace_lt n l i; have := wrapI (rPlace n l i + 1); have := of_decide_eq_false h1; omega) (by have := rPlace_lt n l i; have := wrapI (rPlace n l i + 1); have := of_decide_eq_false h1; omega) (n.items.D.drop ((IntKind.i64.wrap ((rPlace n l i) + 1)).toNat)) (by rw [List.take_of_length_le (by simp)]) ?_)
  refine rvc_un (rexec_append C rfl rfl rfl rfl rfl rfl rfl rfl (fun _ h => by cases h) rfl (en := eItem) (D0 := (n.items.D.take ((rPlace n l i).toNat))) (D := (n.items.D.drop ((IntKind.i64.wrap ((rPlace n l i) + 1)).toNat))) rfl rfl rfl rfl (by have := rPlace_lt n l i; have := wrapI (rPlace n l i + 1); have := of_decide_eq_false h1; first | omega | (simp <;> omega)) (by decide) (nn := ((n.items.D.take ((rPlace n l i).toNat)) ++ (n.items.D.drop ((IntKind.i64.wrap ((rPlace n l i) + 1)).toNat))).length) (by simp) ?_)
  refine rvP C (.ptr 0 0) ?_
  refine rvP C (.ptr 0 0) ?_
  refine rvc_un (rexec_prim C (δ := { v := .undef, wr := [(0, some (.cells [.sl 30 0 (((n.items.D.take ((rPlace n l i).toNat)) ++ (n.items.D.drop ((IntKind.i64.wrap ((rPlace n l i) + 1)).toNat))).length) 3 false, .pv (.lit (.bool (n.side 0))), .pv (.lit (.bool (n.side 1))), .pv (.lit (.bool (n.side 2))), .pv (.lit (.bool (n.side 3))), .pv (.lit (.bool (n.side 4))), .pv (.lit (.bool (n.side 5))), .pv (.lit (.bool (n.side 6))), .pv (.lit (.bool (n.side 7))), .pv (.lit (.bool (n.side 8))), .pv (.lit (.bool (n.side 9))), .pv (.lit (.bool (n.side 10))), .pv (.lit (.bool (n.side 11))), .pv (.lit (.bool (n.side 12))), .pv (.lit (.bool (n.side 13))), .pv (.lit (.bool (n.side 14))), .pv (.lit (.bool (n.side 15))), .pv (.lit (.bool (n.side 16))), .pv (.lit (.bool (n.side 17))), .pv (.lit (.bool (n.side 18))), .pv (.lit (.bool (n.side 19))), .pv (.lit (.bool (n.side 20))), .pv (.lit (.bool (n.side 21))), .pv (.lit (.bool (n.side 22))), .pv (.lit (.bool (n.side 23))), .pv (.lit (.bool (n.side 24))), .pv (.lit (.bool (n.side 25))), .pv (.lit (.bool (n.side 26))), .pv (.lit (.bool (n.side 27))), .pv (.lit (.bool (n.side 28))), .pv (.lit (.bool (n.side 29))), .pv (.lit (.bool (n.side 30))), .pv (.lit (.bool (n.side 31))), .pv (.lit (.bool (n.side 32))), .pv (.lit (.bool (n.side 33))), .pv (.lit (.bool (n.side 34))), .pv (.lit (.bool (n.side 35))), .pv (.lit (.bool (n.side 36))), .pv (.lit (.bool (n.side 37))), .pv (.lit (.bool (n.side 38))), .pv (.lit (.bool (n.side 39))), .pv (.lit (.bool (n.side 40))), .pv (.lit (.bool (n.side 41))), .pv (.lit (.bool (n.side 42))), .pv (.lit (.bool (n.side 43))), .pv (.lit (.bool (n.side 44))), .pv (.lit (.bool (n.side 45))), .pv (.lit (.bool (n.side 46))), .pv (.lit (.bool (n.side 47))), .pv (.lit (.bool (n.side 48))), .pv (.lit (.bool (n.side 49))), .pv (.lit (.bool (n.side 50))), .pv (.lit (.bool (n.side 51))), .pv (.lit (.bool (n.side 52))), .pv (.lit (.bool (n.side 53))), .pv (.lit (.bool (n.side 54))), .pv (.lit (.bool (n.side 55))), .pv (.lit (.bool (n.side 56))), .pv (.lit (.bool (n.side 57))), .pv (.lit (.bool (n.side 58))), .pv (.lit (.bool (n.side 59))), .pv (.lit (.bool (n.side 60))), .pv (.lit (.bool (n.side 61))), .pv (.lit (.bool (n.side 62))), .pv (.lit (.bool (n.side 63))), .pv (.lit (.int .i64 n.lost))]))] }) rfl rfl rfl rfl trivial rfl ?_)
  refine rvc_nil ?_
  refine Awp.consP C ?_
  refine rvP C (.pv (.lit (.int .i64 0))) ?_
  refine rvc_nil ?_
  refine Awp.freezeW 30 (encL eItem ((n.items.D.take ((rPlace n l i).toNat)) ++ (n.items.D.drop ((IntKind.i64.wrap ((rPlace n l i) + 1)).toNat)))) ?_ [(6, .pv (.lit (.int .i64 0)))] [(0, .cells [sS (some false) eItem ((n.items.D.take ((rPlace n l i).toNat)) ++ (n.items.D.drop ((IntKind.i64.wrap ((rPlace n l i) + 1)).toNat))), .pv (.lit (.bool (n.side 0))), .pv (.lit (.bool (n.side 1))), .pv (.lit (.bool (n.side 2))), .pv (.lit (.bool (n.side 3))), .pv (.lit (.bool (n.side 4))), .pv (.lit (.bool (n.side 5))), .pv (.lit (.bool (n.side 6))), .pv (.lit (.bool (n.side 7))), .pv (.lit (.bool (n.side 8))), .pv (.lit (.bool (n.side 9))), .pv (.lit (.bool (n.side 10))), .pv (.lit (.bool (n.side 11))), .pv (.lit (.bool (n.side 12))), .pv (.lit (.bool (n.side 13))), .pv (.lit (.bool (n.side 14))), .pv (.lit (.bool (n.side 15))), .pv (.lit (.bool (n.side 16))), .pv (.lit (.bool (n.side 17))), .pv (.lit (.bool (n.side 18))), .pv (.lit (.bool (n.side 19))), .pv (.lit (.bool (n.side 20))), .pv (.lit (.bool (n.side 21))), .pv (.lit (.bool (n.side 22))), .pv (.lit (.bool (n.side 23))), .pv (.lit (.bool (n.side 24))), .pv (.lit (.bool (n.side 25))), .pv (.lit (.bool (n.side 26))), .pv (.lit (.bool (n.side 27))), .pv (.lit (.bool (n.side 28))), .pv (.lit (.bool (n.side 29))), .pv (.lit (.bool (n.side 30))), .pv (.lit (.bool (n.side 31))), .pv (.lit (.bool (n.side 32))), .pv (.lit (.bool (n.side 33))), .pv (.lit (.bool (n.side 34))), .pv (.lit (.bool (n.side 35))), .pv (.lit (.bool (n.side 36))), .pv (.lit (.bool (n.side 37))), .pv (.lit (.bool (n.side 38))), .pv (.lit (.bool (n.side 39))), .pv (.lit (.bool (n.side 40))), .pv (.lit (.bool (n.side 41))), .pv (.lit (.bool (n.side 42))), .pv (.lit (.bool (n.side 43))), .pv (.lit (.bool (n.side 44))), .pv (.lit (.bool (n.side 45))), .pv (.lit (.bool (n.side 46))), .pv (.lit (.bool (n.side 47))), .pv (.lit (.bool (n.side 48))), .pv (.lit (.bool (n.side 49))), .pv (.lit (.bool (n.side 50))), .pv (.lit (.bool (n.side 51))), .pv (.lit (.bool (n.side 52))), .pv (.lit (.bool (n.side 53))), .pv (.lit (.bool (n.side 54))), .pv (.lit (.bool (n.side 55))), .pv (.lit (.bool (n.side 56))), .pv (.lit (.bool (n.side 57))), .pv (.lit (.bool (n.side 58))), .pv (.lit (.bool (n.side 59))), .pv (.lit (.bool (n.side 60))), .pv (.lit (.bool (n.side 61))), .pv (.lit (.bool (n.side 62))), .pv (.lit (.bool (n.side 63))), .pv (.lit (.int .i64 n.lost))]), (4, .cells [.pv (.lit (.int .i64 l.from_)), .pv (.lit (.int .i64 l.to))])] ?_ ?_ ?_
  · rfl
  · exact ⟨⟨_, rfl, .inl (.inl rfl)⟩, trivial⟩
  · exact ⟨⟨(by show (0 : Nat) ≠ 30; decide), .inr ⟨_, _, rfl, rfl, ⟨.inr ⟨_, _, _, rfl, rfl⟩, .inl rfl, .inl rfl, .inl rfl, .inl rfl, .inl rfl, .inl rfl, .inl rfl, .inl rfl, .inl rfl, .inl rfl, .inl rfl, .inl rfl, .inl rfl, .inl rfl, .inl rfl, .inl rfl, .inl rfl, .inl rfl, .inl rfl, .inl rfl, .inl rfl, .inl rfl, .inl rfl, .inl rfl, .inl rfl, .inl rfl, .inl rfl, .inl rfl, .inl rfl, .inl rfl, .inl rfl, .inl rfl, .inl rfl, .inl rfl, .inl rfl, .inl rfl, .inl rfl, .inl rfl, .inl rfl, .inl rfl, .inl rfl, .inl rfl, .inl rfl, .inl rfl, .inl rfl, .inl rfl, .inl rfl, .inl rfl, .inl rfl, .inl rfl, .inl rfl, .inl rfl, .inl rfl, .inl rfl, .inl rfl, .inl rfl, .inl rfl, .inl rfl, .inl rfl, .inl rfl, .inl rfl, .inl rfl, .inl rfl, .inl rfl, .inl rfl, trivial⟩⟩⟩, ⟨(by show (4 : Nat) ≠ 30; decide), .inl rfl⟩, trivial⟩
  refine Awp.ret ?_
  subst hR
  exact ⟨.inl rfl, rfl, rfl⟩
def rDouble (n : Net51) (l : Link) (i : Int) : Net51 × Int :=
  (bif (decide ((rPlace n l i) < 0)) then (n, 40) else (bif (decide ((rLen n l) ≥ 8)) then (n, 7) else ((Net51.mk (Sl.mk false (n.items.D ++ [n.items.D[(rPlace n l i).toNat]!])) n.side n.lost), 0)))
theorem rDouble_calls (n : Net51) (l : Link) (i : Int) (hl1 : n.items.D.length ≤ 1000000) : MCalls Try.prog 41 [.ptr 0 0, .agg [.pv (.lit (.int .i64 l.from_)), .pv (.lit (.int .i64 l.to))], .pv (.lit (.int .i64 i))] (.cells [sS (some n.items.nil) eItem n.items.D, .pv (.lit (.bool (n.side 0))), .pv (.lit (.bool (n.side 1))), .pv (.lit (.bool (n.side 2))), .pv (.lit (.bool (n.side 3))), .pv (.lit (.bool (n.side 4))), .pv (.lit (.bool (n.side 5))), .pv (.lit (.bool (n.side 6))), .pv (.lit (.bool (n.side 7))), .pv (.lit (.bool (n.side 8))), .pv (.lit (.bool (n.side 9))), .pv (.lit (.bool (n.side 10))), .pv (.lit (.bool (n.side 11))), .pv (.lit (.bool (n.side 12))), .pv (.lit (.bool (n.side 13))), .pv (.lit (.bool (n.side 14))), .pv (.lit (.bool (n.side 15))), .pv (.lit (.bool (n.side 16))), .pv (.lit (.bool (n.side 17))), .pv (.lit (.bool (n.side 18))), .pv (.lit (.bool (n.side 19))), .pv (.lit (.bool (n.side 20))), .pv (.lit (.bool (n.side 21))), .pv (.lit (.bool (n.side 22))), .pv (.lit (.bool (n.side 23))), .pv (.lit (.bool (n.side 24))), .pv (.lit (.bool (n.side 25))), .pv (.lit (.bool (n.side 26))), .pv (.lit (.bool (n.side 27))), .pv (.lit (.bool (n.side 28))), .pv (.lit (.bool (n.side 29))), .pv (.lit (.bool (n.side 30))), .pv (.lit (.bool (n.side 31))), .pv (.lit (.bool (n.side 32))), .pv (.lit (.bool (n.side 33))), .pv (.lit (.bool (n.side 34))), .pv (.lit (.bool (n.side 35))), .pv (.lit (.bool (n.side 36))), .pv (.lit (.bool (n.side 37))), .pv (.lit (.bool (n.side 38))), .pv (.lit (.bool (n.side 39))), .pv (.lit (.bool (n.side 40))), .pv (.lit (.bool (n.side 41))), .pv (.lit (.bool (n.side 42))), .pv (.lit (.bool (n.side 43))), .pv (.lit (.bool (n.side 44))), .pv (.lit (.bool (n.side 45))), .pv (.lit (.bool (n.side 46))), .pv (.lit (.bool (n.side 47))), .pv (.lit (.bool (n.side 48))), .pv (.lit (.bool (n.side 49))), .pv (.lit (.bool (n.side 50))), .pv (.lit (.bool (n.side 51))), .pv (.lit (.bool (n.side 52))), .pv (.lit (.bool (n.side 53))), .pv (.lit (.bool (n.side 54))), .pv (.lit (.bool (n.side 55))), .pv (.lit (.bool (n.side 56))), .pv (.lit (.bool (n.side 57))), .pv (.lit (.bool (n.side 58))), .pv (.lit (.bool (n.side 59))), .pv (.lit (.bool (n.side 60))), .pv (.lit (.bool (n.side 61))), .pv (.lit (.bool (n.side 62))), .pv (.lit (.bool (n.side 63))), .pv (.lit (.int .i64 n.lost))]) (.pv (.lit (.int .i64 ((rDouble n l i).2)))) (.cells [sS (some (rDouble n l i).1.items.nil) eItem ((rDouble n l i).1.items.D), .pv (.lit (.bool ((rDouble n l i).1.side 0))), .pv (.lit (.bool ((rDouble n l i).1.side 1))), .pv (.lit (.bool ((rDouble n l i).1.side 2))), .pv (.lit (.bool ((rDouble n l i).1.side 3))), .pv (.lit (.bool ((rDouble n l i).1.side 4))), .pv (.lit (.bool ((rDouble n l i).1.side 5))), .pv (.lit (.bool ((rDouble n l i).1.side 6))), .pv (.lit (.bool ((rDouble n l i).1.side 7))), .pv (.lit (.bool ((rDouble n l i).1.side 8))), .pv (.lit (.bool ((rDouble n l i).1.side 9))), .pv (.lit (.bool ((rDouble n l i).1.side 10))), .pv (.lit (.bool ((rDouble n l i).1.side 11))), .pv (.lit (.bool ((rDouble n l i).1.side 12))), .pv (.lit (.bool ((rDouble n l i).1.side 13))), .pv (.lit (.bool ((rDouble n l i).1.side 14))), .pv (.lit (.bool ((rDouble n l i).1.side 15))), .pv (.lit (.bool ((rDouble n l i).1.side 16))), .pv (.lit (.bool ((rDouble n l i).1.side 17))), .pv (.lit (.bool ((rDouble n l i).1.side 18))), .pv (.lit (.bool ((rDouble n l i).1.side 19))), .pv (.lit (.bool ((rDouble n l i).1.side 20))), .pv (.lit (.bool ((rDouble n l i).1.side 21))), .pv (.lit (.bool ((rDouble n l i).1.side 22))), .pv (.lit (.bool ((rDouble n l i).1.side 23))), .pv (.lit (.bool ((rDouble n l i).1.side 24))), .pv (.lit (.bool ((rDouble n l i).1.side 25))), .pv (.lit (.bool ((rDouble n l i).1.side 26))), .pv (.lit (.bool ((rDouble n l i).1.side 27))), .pv (.lit (.bool ((rDouble n l i).1.side 28))), .pv (.lit (.bool ((rDouble n l i).1.side 29))), .pv (.lit (.bool ((rDouble n l i).1.side 30))), .pv (.lit (.bool ((rDouble n l i).1.side 31))), .pv (.lit (.bool ((rDouble n l i).1.side 32))), .pv (.lit (.bool ((rDouble n l i).1.side 33))), .pv (.lit (.bool ((rDouble n l i).1.side 34))), .pv (.lit (.bool ((rDouble n l i).1.side 35))), .pv (.lit (.bool ((rDouble n l i).1.side 36))), .pv (.lit (.bool ((rDouble n l i).1.side 37))), .pv (.lit (.bool ((rDouble n l i).1.side 38))), .pv (.lit (.bool ((rDouble n l i).1.side 39))), .pv (.lit (.bool ((rDouble n l i).1.side 40))), .pv (.lit (.bool ((rDouble n l i).1.side 41))), .pv (.lit (.bool ((rDouble n l i).1.side 42))), .pv (.lit (.bool ((rDouble n l i).1.side 43))), .pv (.lit (.bool ((rDouble n l i).1.side 44))), .pv (.lit (.bool ((rDouble n l i).1.side 45))), .pv (.lit (.bool ((rDouble n l i).1.side 46))), .pv (.lit (.bool ((rDouble n l i).1.side 47))), .pv (.lit (.bool ((rDouble n l i).1.side 48))), .pv (.lit (.bool ((rDouble n l i).1.side 49))), .pv (.lit (.bool ((rDouble n l i).1.side 50))), .pv (.lit (.bool ((rDouble n l i).1.side 51))), .pv (.lit (.bool ((rDouble n l i).1.side 52))), .pv (.lit (.bool ((rDouble n l i).1.side 53))), .pv (.lit (.bool ((rDouble n l i).1.side 54))), .pv (.lit (.bool ((rDouble n l i).1.side 55))), .pv (.lit (.bool ((rDouble n l i).1.side 56))), .pv (.lit (.bool ((rDouble n l i).1.side 57))), .pv (.lit (.bool ((rDouble n l i).1.side 58))), .pv (.lit (.bool ((rDouble n l i).1.side 59))), .pv (.lit (.bool ((rDouble n l i).1.side 60))), .pv (.lit (.bool ((rDouble n l i).1.side 61))), .pv (.lit (.bool ((rDouble n l i).1.side 62))), .pv (.lit (.bool ((rDouble n l i).1.side 63))), .pv (.lit (.int .i64 ((rDouble n l i).1.lost)))]) := by
 generalize hR : rDouble n l i = R
 refine MCalls.of_body tabOk Try.func41 rfl rfl rfl rfl rfl rfl rfl mixed fun E hP C hI => ?_
 refine Awp.consP C ?_
 refine rvc_un (rexec_prim C (δ := { v := .ptr 4 0, new := [(4, .cells [.pv (.lit (.int .i64 l.from_)), .pv (.lit (.int .i64 l.to))])] }) rfl rfl rfl rfl trivial rfl ?_)
 refine rvP C (.pv (.lit (.int .i64 0))) ?_
 refine rvc_nil ?_
 refine Awp.cons C (fun _ => .writer) (by kernel_rfl) ?_
 refine rvP C (.ptr 0 0) ?_
 refine rvP C (.agg [.pv (.lit (.int .i64 l.from_)), .pv (.lit (.int .i64 l.to))]) ?_
 refine rvP C (.pv (.lit (.int .i64 i))) ?_
 refine rvc_un (rexec_callM hP C (b := 0) rfl rfl rfl (rPlace_calls n l i hl1) rfl rfl ?_)
 refine rvP C (.pv (.lit (.int .i64 (rPlace n l i)))) ?_
 refine rvc_nil ?_
 refine Awp.seq ?_
 refine Awp.consP C ?_
 refine rvP C (.pv (.lit (.int .i64 (rPlace n l i)))) ?_
 refine rvP C (.pv (.lit (.bool (decide ((rPlace n l i) < 0))))) ?_
 refine rvc_nil ?_
 refine Awp.cond (b := (decide ((rPlace n l i) < 0))) rfl (fun h1 => ?_) (fun h1 => ?_)
 ·
  replace hR := of_true h1 hR
  refine Awp.consP C ?_
  refine rvP C (.pv (.lit (.int .i64 40))) ?_
  refine rvc_nil ?_
  refine Awp.ret ?_
  subst hR
  exact ⟨.inl rfl, rfl, rfl⟩
 ·
  replace hR := of_false h1 hR
  refine Awp.skip ?_
  refine Awp.seq ?_
  refine Awp.cons C (fun _ => .writer) (by kernel_rfl) ?_
  refine rvP C (.ptr 0 0) ?_
  refine rvP C (.agg [.pv (.lit (.int .i64 l.from_)), .pv (.lit (.int .i64 l.to))]) ?_
  refine rvc_un (rexec_callM hP C (b := 0) rfl rfl rfl (rLen_calls n l hl1) rfl rfl ?_)
  refine rvP C (.pv (.lit (.bool (decide ((rLen n l) ≥ 8))))) ?_
  refine rvc_nil ?_
  refine Awp.cond (b := (decide ((rLen n l) ≥ 8))) rfl (fun h2 => ?_) (fun h2 => ?_)
  ·
   replace hR := of_true h2 hR
   refine Awp.consP C ?_
   refine rvP C (.pv (.lit (.int .i64 7))) ?_
   refine rvc_nil ?_
   refine Awp.ret ?_
   subst hR
   exact ⟨.inl rfl, rfl, rfl⟩
  ·
   replace hR := of_false h2 hR
   refine Awp.skip ?_
   refine Awp.cons C (fun o => match o.dst with | some 23 => .reads [0] | some 28 => .reads [0] | some 31 => .reads [0] | some 19 => .writes [19] | some 24 => .writes [19, 24] | some 33 => .writes [24, 33] | some 32 => .writes [] | none => .writer | _ => .pure) (by kernel_rfl) ?_
   refine rvP C (.ptr 0 0) ?_
   refine rvc_un (rexec_prim C (δ := { v := .sl 19 0 0 3 true, new := [(19, .cells (encC eItem []))] }) rfl rfl rfl rfl trivial rfl ?_)
   refine rvP C (.ptr 0 0) ?_
   refine rvP C (.ptr 0 0) ?_
   refine rvP C (.ptr 0 0) ?_
   refine rvP C (sS (some n.items.nil) eItem n.items.D) ?_
   refine rvc_un (rexec_append C rfl rfl rfl rfl rfl rfl rfl rfl (fun _ h => by cases h) rfl (en := eItem) (D0 := []) (D := n.items.D) rfl rfl rfl rfl (by have := rPlace_lt n l i; have := wrapI (rPlace n l i + 1); have := of_decide_eq_false h1; have := of_decide_eq_false h2; first | omega | (simp <;> omega)) (by decide) (nn := n.items.D.length) (by simp) ?_)
   refine rvP C (.ptr 0 0) ?_
   refine rvP C (.ptr 0 0) ?_
   refine rvP C (.ptr 0 0) ?_
   refine rvP C (sS (some n.items.nil) eItem n.items.D) ?_
   refine rvP C (.pv (.lit (.int .i64 (rPlace n l i)))) ?_
   have h3 : n.items.D[(rPlace n l i).toNat]? = some n.items.D[(rPlace n l i).toNat]! := getE (by have := rPlace_lt n l i; have := wrapI (rPlace n l i + 1); have := of_decide_eq_false h1; have := of_decide_eq_false h2; omega)
   refine rvc_un (rexec_idxS C rfl rfl rfl rfl rfl rfl (n.items.D[(rPlace n l i).toNat]!) (by have := rPlace_lt n l i; have := wrapI (rPlace n l i + 1); have := of_decide_eq_false h1; have := of_decide_eq_false h2; omega) h3 ?_)
   refine rvP C (.agg [.pv (.lit (.int .i64 (n.items.D[(rPlace n l i).toNat]!.l.from_))), .pv (.lit (.int .i64 (n.items.D[(rPlace n l i).toNat]!.l.to))), .pv (.lit (.string (n.items.D[(rPlace n l i).toNat]!.b)))]) ?_
   refine rvc_un (rexec_buildSliceF C eItem [n.items.D[(rPlace n l i).toNat]!] rfl rfl rfl rfl rfl rfl rfl (by decide) rfl ?_)
   refine rvc_un (rexec_append C rfl rfl rfl rfl rfl rfl rfl rfl (fun _ h => by cases h) rfl (en := eItem) (D0 := n.items.D) (D := [n.items.D[(rPlace n l i).toNat]!]) rfl rfl rfl rfl (by have := rPlace_lt n l i; have := wrapI (rPlace n l i + 1); have := of_decide_eq_false h1; have := of_decide_eq_false h2; first | omega | (simp <;> omega)) (by decide) (nn := (n.items.D ++ [n.items.D[(rPlace n l i).toNat]!]).length) (by simp) ?_)
   refine rvP C (.ptr 0 0) ?_
   refine rvP C (.ptr 0 0) ?_
   refine rvc_un (rexec_prim C (δ := { v := .undef, wr := [(0, some (.cells [.sl 33 0 ((n.items.D ++ [n.items.D[(rPlace n l i).toNat]!]).length) 3 false, .pv (.lit (.bool (n.side 0))), .pv (.lit (.bool (n.side 1))), .pv (.lit (.bool (n.side 2))), .pv (.lit (.bool (n.side 3))), .pv (.lit (.bool (n.side 4))), .pv (.lit (.bool (n.side 5))), .pv (.lit (.bool (n.side 6))), .pv (.lit (.bool (n.side 7))), .pv (.lit (.bool (n.side 8))), .pv (.lit (.bool (n.side 9))), .pv (.lit (.bool (n.side 10))), .pv (.lit (.bool (n.side 11))), .pv (.lit (.bool (n.side 12))), .pv (.lit (.bool (n.side 13))), .pv (.lit (.bool (n.side 14))), .pv (.lit (.bool (n.side 15))), .pv (.lit (.bool (n.side 16))), .pv (.lit (.bool (n.side 17))), .pv (.lit (.bool (n.side 18))), .pv (.lit (.bool (n.side 19))), .pv (.lit (.bool (n.side 20))), .pv (.lit (.bool (n.side 21))), .pv (.lit (.bool (n.side 22))), .pv (.lit (.bool (n.side 23))), .pv (.lit (.bool (n.side 24))), .pv (.lit (.bool (n.side 25))), .pv (.lit (.bool (n.side 26))), .pv (.lit (.bool (n.side 27))), .pv (.lit (.bool (n.side 28))), .pv (.lit (.bool (n.side 29))), .pv (.lit (.bool (n.side 30))), .pv (.lit (.bool (n.side 31))), .pv (.lit (.bool (n.side 32))), .pv (.lit (.bool (n.side 33))), .pv (.lit (.bool (n.side 34))), .pv (.lit (.bool (n.side 35))), .pv (.lit (.bool (n.side 36))), .pv (.lit (.bool (n.side 37))), .pv (.lit (.bool (n.side 38))), .pv (.lit (.bool (n.side 39))), .pv (.lit (.bool (n.side 40))), .pv (.lit (.bool (n.side 41))), .pv (.lit (.bool (n.side 42))), .pv (.lit (.bool (n.side 43))), .pv (.lit (.bool (n.side 44))), .pv (.lit (.bool (n.side 45))), .pv (.lit (.bool (n.side 46))), .pv (.lit (.bool (n.side 47))), .pv (.lit (.bool (n.side 48))), .pv (.lit (.bool (n.side 49))), .pv (.lit (.bool (n.side 50))), .pv (.lit (.bool (n.side 51))), .pv (.lit (.bool (n.side 52))), .pv (.lit (.bool (n.side 53))), .pv (.lit (.bool (n.side 54))), .pv (.lit (.bool (n.side 55))), .pv (.lit (.bool (n.side 56))), .pv (.lit (.bool (n.side 57))), .pv (.lit (.bool (n.side 58))), .pv (.lit (.bool (n.side 59))), .pv (.lit (.bool (n.side 60))), .pv (.lit (.bool (n.side 61))), .pv (.lit (.bool (n.side 62))), .pv (.lit (.bool (n.side 63))), .pv (.lit (.int .i64 n.lost))]))] }) rfl rfl rfl rfl trivial rfl ?_)
   refine rvc_nil ?_
   refine Awp.consP C ?_
   refine rvP C (.pv (.lit (.int .i64 0))) ?_
   refine rvc_nil ?_
   refine Awp.freezeW 33 (encL eItem (n.items.D ++ [n.items.D[(rPlace n l i).toNat]!])) ?_ [(6, .pv (.lit (.int .i64 0)))] [(0, .cells [sS (some false) eItem (n.items.D ++ [n.items.D[(rPlace n l i).toNat]!]), .pv (.lit (.bool (n.side 0))), .pv (.lit (.bool (n.side 1))), .pv (.lit (.bool (n.side 2))), .pv (.lit (.bool (n.side 3))), .pv (.lit (.bool (n.side 4))), .pv (.lit (.bool (n.side 5))), .pv (.lit (.bool (n.side 6))), .pv (.lit (.bool (n.side 7))), .pv (.lit (.bool (n.side 8))), .pv (.lit (.bool (n.side 9))), .pv (.lit (.bool (n.side 10))), .pv (.lit (.bool (n.side 11))), .pv (.lit (.bool (n.side 12))), .pv (.lit (.bool (n.side 13))), .pv (.lit (.bool (n.side 14))), .pv (.lit (.bool (n.side 15))), .pv (.lit (.bool (n.side 16))), .pv (.lit (.bool (n.side 17))), .pv (.lit (.bool (n.side 18))), .pv (.lit (.bool (n.side 19))), .pv (.lit (.bool (n.side 20))), .pv (.lit (.bool (n.side 21))), .pv (.lit (.bool (n.side 22))), .pv (.lit (.bool (n.side 23))), .pv (.lit (.bool (n.side 24))), .pv (.lit (.bool (n.side 25))), .pv (.lit (.bool (n.side 26))), .pv (.lit (.bool (n.side 27))), .pv (.lit (.bool (n.side 28))), .pv (.lit (.bool (n.side 29))), .pv (.lit (.bool (n.side 30))), .pv (.lit (.bool (n.side 31))), .pv (.lit (.bool (n.side 32))), .pv (.lit (.bool (n.side 33))), .pv (.lit (.bool (n.side 34))), .pv (.lit (.bool (n.side 35))), .pv (.lit (.bool (n.side 36))), .pv (.lit (.bool (n.side 37))), .pv (.lit (.bool (n.side 38))), .pv (.lit (.bool (n.side 39))), .pv (.lit (.bool (n.side 40))), .pv (.lit (.bool (n.side 41))), .pv (.lit (.bool (n.side 42))), .pv (.lit (.bool (n.side 43))), .pv (.lit (.bool (n.side 44))), .pv (.lit (.bool (n.side 45))), .pv (.lit (.bool (n.side 46))), .pv (.lit (.bool (n.side 47))), .pv (.lit (.bool (n.side 48))), .pv (.lit (.bool (n.side 49))), .pv (.lit (.bool (n.side 50))), .pv (.lit (.bool (n.side 51))), .pv (.lit (.bool (n.side 52))), .pv (.lit (.bool (n.side 53))), .pv (.lit (.bool (n.side 54))), .pv (.lit (.bool (n.side 55))), .pv (.lit (.bool (n.side 56))), .pv (.lit (.bool (n.side 57))), .pv (.lit (.bool (n.side 58))), .pv (.lit (.bool (n.side 59))), .pv (.lit (.bool (n.side 60))), .pv (.lit (.bool (n.side 61))), .pv (.lit (.bool (n.side 62))), .pv (.lit (.bool (n.side 63))), .pv (.lit (.int .i64 n.lost))]), (4, .cells [.pv (.lit (.int .i64 l.from_)), .pv (.lit (.int .i64 l.to))])] ?_ ?_ ?_
   · rfl
   · exact ⟨⟨_, rfl, .inl (.inl rfl)⟩, trivial⟩
   · exact ⟨⟨(by show (0 : Nat) ≠ 33; decide), .inr ⟨_, _, rfl, rfl, ⟨.inr ⟨_, _, _, rfl, rfl⟩, .inl rfl, .inl rfl, .inl rfl, .inl rfl, .inl rfl, .inl rfl, .inl rfl, .inl rfl, .inl rfl, .inl rfl, .inl rfl, .inl rfl, .inl rfl, .inl rfl, .inl rfl, .inl rfl, .inl rfl, .inl rfl, .inl rfl, .inl rfl, .inl rfl, .inl rfl, .inl rfl, .inl rfl, .inl rfl, .inl rfl, .inl rfl, .inl rfl, .inl rfl, .inl rfl, .inl rfl, .inl rfl, .inl rfl, .inl rfl, .inl rfl, .inl rfl, .inl rfl, .inl rfl, .inl rfl, .inl rfl, .inl rfl, .inl rfl, .inl rfl, .inl rfl, .inl rfl, .inl rfl, .inl rfl, .inl rfl, .inl rfl, .inl rfl, .inl rfl, .inl rfl, .inl rfl, .inl rfl, .inl rfl, .inl rfl, .inl rfl, .inl rfl, .inl rfl, .inl rfl, .inl rfl, .inl rfl, .inl rfl, .inl rfl, .inl rfl, trivial⟩⟩⟩, ⟨(by show (4 : Nat) ≠ 33; decide), .inl rfl⟩, trivial⟩
   refine Awp.ret ?_
   subst hR
   exact ⟨.inl rfl, rfl, rfl⟩
def rForget_l0 (n : Net51) (place : Int) : List Item → Nat → (List Item) → Net51
  | [], _, out => (Net51.mk (Sl.mk out.isEmpty out) n.side n.lost)
  | x :: xs, i, out => (bif (x.l.from_ != place) then (bif (x.l.to != place) then rForget_l0 n place xs (i + 1) (out ++ [x]) else rForget_l0 n place xs (i + 1) out) else rForget_l0 n place xs (i + 1) out)
def rForget (n : Net51) (place : Int) : Net51 :=
  rForget_l0 n place n.items.D 0 []
theorem rForget_calls (n : Net51) (place : Int) (hl1 : n.items.D.length ≤ 1000000) : MCalls Try.prog 43 [.ptr 0 0, .pv (.lit (.int .i64 place))] (.cells [sS (some n.items.nil) eItem n.items.D, .pv (.lit (.bool (n.side 0))), .pv (.lit (.bool (n.side 1))), .pv (.lit (.bool (n.side 2))), .pv (.lit (.bool (n.side 3))), .pv (.lit (.bool (n.side 4))), .pv (.lit (.bool (n.side 5))), .pv (.lit (.bool (n.side 6))), .pv (.lit (.bool (n.side 7))), .pv (.lit (.bool (n.side 8))), .pv (.lit (.bool (n.side 9))), .pv (.lit (.bool (n.side 10))), .pv (.lit (.bool (n.side 11))), .pv (.lit (.bool (n.side 12))), .pv (.lit (.bool (n.side 13))), .pv (.lit (.bool (n.side 14))), .pv (.lit (.bool (n.side 15))), .pv (.lit (.bool (n.side 16))), .pv (.lit (.bool (n.side 17))), .pv (.lit (.bool (n.side 18))), .pv (.lit (.bool (n.side 19))), .pv (.lit (.bool (n.side 20))), .pv (.lit (.bool (n.side 21))), .pv (.lit (.bool (n.side 22))), .pv (.lit (.bool (n.side 23))), .pv (.lit (.bool (n.side 24))), .pv (.lit (.bool (n.side 25))), .pv (.lit (.bool (n.side 26))), .pv (.lit (.bool (n.side 27))), .pv (.lit (.bool (n.side 28))), .pv (.lit (.bool (n.side 29))), .pv (.lit (.bool (n.side 30))), .pv (.lit (.bool (n.side 31))), .pv (.lit (.bool (n.side 32))), .pv (.lit (.bool (n.side 33))), .pv (.lit (.bool (n.side 34))), .pv (.lit (.bool (n.side 35))), .pv (.lit (.bool (n.side 36))), .pv (.lit (.bool (n.side 37))), .pv (.lit (.bool (n.side 38))), .pv (.lit (.bool (n.side 39))), .pv (.lit (.bool (n.side 40))), .pv (.lit (.bool (n.side 41))), .pv (.lit (.bool (n.side 42))), .pv (.lit (.bool (n.side 43))), .pv (.lit (.bool (n.side 44))), .pv (.lit (.bool (n.side 45))), .pv (.lit (.bool (n.side 46))), .pv (.lit (.bool (n.side 47))), .pv (.lit (.bool (n.side 48))), .pv (.lit (.bool (n.side 49))), .pv (.lit (.bool (n.side 50))), .pv (.lit (.bool (n.side 51))), .pv (.lit (.bool (n.side 52))), .pv (.lit (.bool (n.side 53))), .pv (.lit (.bool (n.side 54))), .pv (.lit (.bool (n.side 55))), .pv (.lit (.bool (n.side 56))), .pv (.lit (.bool (n.side 57))), .pv (.lit (.bool (n.side 58))), .pv (.lit (.bool (n.side 59))), .pv (.lit (.bool (n.side 60))), .pv (.lit (.bool (n.side 61))), .pv (.lit (.bool (n.side 62))), .pv (.lit (.bool (n.side 63))), .pv (.lit (.int .i64 n.lost))]) (.tup []) (.cells [sS (some (rForget n place).items.nil) eItem ((rForget n place).items.D), .pv (.lit (.bool ((rForget n place).side 0))), .pv (.lit (.bool ((rForget n place).side 1))), .pv (.lit (.bool ((rForget n place).side 2))), .pv (.lit (.bool ((rForget n place).side 3))), .pv (.lit (.bool ((rForget n place).side 4))), .pv (.lit (.bool ((rForget n place).side 5))), .pv (.lit (.bool ((rForget n place).side 6))), .pv (.lit (.bool ((rForget n place).side 7))), .pv (.lit (.bool ((rForget n place).side 8))), .pv (.lit (.bool ((rForget n place).side 9))), .pv (.lit (.bool ((rForget n place).side 10))), .pv (.lit (.bool ((rForget n place).side 11))), .pv (.lit (.bool ((rForget n place).side 12))), .pv (.lit (.bool ((rForget n place).side 13))), .pv (.lit (.bool ((rForget n place).side 14))), .pv (.lit (.bool ((rForget n place).side 15))), .pv (.lit (.bool ((rForget n place).side 16))), .pv (.lit (.bool ((rForget n place).side 17))), .pv (.lit (.bool ((rForget n place).side 18))), .pv (.lit (.bool ((rForget n place).side 19))), .pv (.lit (.bool ((rForget n place).side 20))), .pv (.lit (.bool ((rForget n place).side 21))), .pv (.lit (.bool ((rForget n place).side 22))), .pv (.lit (.bool ((rForget n place).side 23))), .pv (.lit (.bool ((rForget n place).side 24))), .pv (.lit (.bool ((rForget n place).side 25))), .pv (.lit (.bool ((rForget n place).side 26))), .pv (.lit (.bool ((rForget n place).side 27))), .pv (.lit (.bool ((rForget n place).side 28))), .pv (.lit (.bool ((rForget n place).side 29))), .pv (.lit (.bool ((rForget n place).side 30))), .pv (.lit (.bool ((rForget n place).side 31))), .pv (.lit (.bool ((rForget n place).side 32))), .pv (.lit (.bool ((rForget n place).side 33))), .pv (.lit (.bool ((rForget n place).side 34))), .pv (.lit (.bool ((rForget n place).side 35))), .pv (.lit (.bool ((rForget n place).side 36))), .pv (.lit (.bool ((rForget n place).side 37))), .pv (.lit (.bool ((rForget n place).side 38))), .pv (.lit (.bool ((rForget n place).side 39))), .pv (.lit (.bool ((rForget n place).side 40))), .pv (.lit (.bool ((rForget n place).side 41))), .pv (.lit (.bool ((rForget n place).side 42))), .pv (.lit (.bool ((rForget n place).side 43))), .pv (.lit (.bool ((rForget n place).side 44))), .pv (.lit (.bool ((rForget n place).side 45))), .pv (.lit (.bool ((rForget n place).side 46))), .pv (.lit (.bool ((rForget n place).side 47))), .pv (.lit (.bool ((rForget n place).side 48))), .pv (.lit (.bool ((rForget n place).side 49))), .pv (.lit (.bool ((rForget n place).side 50))), .pv (.lit (.bool ((rForget n place).side 51))), .pv (.lit (.bool ((rForget n place).side 52))), .pv (.lit (.bool ((rForget n place).side 53))), .pv (.lit (.bool ((rForget n place).side 54))), .pv (.lit (.bool ((rForget n place).side 55))), .pv (.lit (.bool ((rForget n place).side 56))), .pv (.lit (.bool ((rForget n place).side 57))), .pv (.lit (.bool ((rForget n place).side 58))), .pv (.lit (.bool ((rForget n place).side 59))), .pv (.lit (.bool ((rForget n place).side 60))), .pv (.lit (.bool ((rForget n place).side 61))), .pv (.lit (.bool ((rForget n place).side 62))), .pv (.lit (.bool ((rForget n place).side 63))), .pv (.lit (.int .i64 ((rForget n place).lost)))]) := by
 generalize hR : rForget n place = R
 refine MCalls.of_body tabOk Try.func43 rfl rfl rfl rfl rfl rfl rfl mixed fun E hP C hI => ?_
 refine Awp.orFreeze ?_
 refine Awp.consP C ?_
 refine rvP C (sS (some true) eItem []) ?_
 refine rvc_nil ?_
 refine Awp.seq ?_
 refine Awp.consP C ?_
 refine rvP C (.ptr 0 0) ?_
 refine rvP C (.ptr 0 0) ?_
 refine rvP C (.ptr 0 0) ?_
 refine rvP C (sS (some n.items.nil) eItem n.items.D) ?_
 refine rvP C (.pv (.lit (.int .i64 (n.items.D.length : Int)))) ?_
 refine rvP C (.pv (.lit (.int .i64 0))) ?_
 refine rvc_nil ?_
 refine Awp.block ?_
 refine Awp.forR (σ := ((List Item))) (n.items.D.length) (fun i v => [(0, .ptr 0 0), (1, .pv (.lit (.int .i64 place))), (4, grow 900 eItem v), (10, sS (some n.items.nil) eItem n.items.D), (11, .pv (.lit (.int .i64 (n.items.D.length : Int)))), (12, .pv (.lit (.int .i64 (i : Int))))]) (fun i v => (growH 900 eItem v ++ ([(0, .cells [sS (some n.items.nil) eItem n.items.D, .pv (.lit (.bool (n.side 0))), .pv (.lit (.bool (n.side 1))), .pv (.lit (.bool (n.side 2))), .pv (.lit (.bool (n.side 3))), .pv (.lit (.bool (n.side 4))), .pv (.lit (.bool (n.side 5))), .pv (.lit (.bool (n.side 6))), .pv (.lit (.bool (n.side 7))), .pv (.lit (.bool (n.side 8))), .pv (.lit (.bool (n.side 9))), .pv (.lit (.bool (n.side 10))), .pv (.lit (.bool (n.side 11))), .pv (.lit (.bool (n.side 12))), .pv (.lit (.bool (n.side 13))), .pv (.lit (.bool (n.side 14))), .pv (.lit (.bool (n.side 15))), .pv (.lit (.bool (n.side 16))), .pv (.lit (.bool (n.side 17))), .pv (.lit (.bool (n.side 18))), .pv (.lit (.bool (n.side 19))), .pv (.lit (.bool (n.side 20))), .pv (.lit (.bool (n.side 21))), .pv (.lit (.bool (n.side 22))), .pv (.lit (.bool (n.side 23))), .pv (.lit (.bool (n.side 24))), .pv (.lit (.bool (n.side 25))), .pv (.lit (.bool (n.side 26))), .pv (.lit (.bool (n.side 27))), .pv (.lit (.bool (n.side 28))), .pv (.lit (.bool (n.side 29))), .pv (.lit (.bool (n.side 30))), .pv (.lit (.bool (n.side 31))), .pv (.lit (.bool (n.side 32))), .pv (.lit (.bool (n.side 33))), .pv (.lit (.bool (n.side 34))), .pv (.lit (.bool (n.side 35))), .pv (.lit (.bool (n.side 36))), .pv (.lit (.bool (n.side 37))), .pv (.lit (.bool (n.side 38))), .pv (.lit (.bool (n.side 39))), .pv (.lit (.bool (n.side 40))), .pv (.lit (.bool (n.side 41))), .pv (.lit (.bool (n.side 42))), .pv (.lit (.bool (n.side 43))), .pv (.lit (.bool (n.side 44))), .pv (.lit (.bool (n.side 45))), .pv (.lit (.bool (n.side 46))), .pv (.lit (.bool (n.side 47))), .pv (.lit (.bool (n.side 48))), .pv (.lit (.bool (n.side 49))), .pv (.lit (.bool (n.side 50))), .pv (.lit (.bool (n.side 51))), .pv (.lit (.bool (n.side 52))), .pv (.lit (.bool (n.side 53))), .pv (.lit (.bool (n.side 54))), .pv (.lit (.bool (n.side 55))), .pv (.lit (.bool (n.side 56))), .pv (.lit (.bool (n.side 57))), .pv (.lit (.bool (n.side 58))), .pv (.lit (.bool (n.side 59))), .pv (.lit (.bool (n.side 60))), .pv (.lit (.bool (n.side 61))), .pv (.lit (.bool (n.side 62))), .pv (.lit (.bool (n.side 63))), .pv (.lit (.int .i64 n.lost))])]))) [0, 900] (fun i v => (rForget_l0 n place (n.items.D.drop i) i v = R) ∧ (v.length ≤ i)) [] ?_ ?_ (fun i out h1 hR => ?_)
 · exact ⟨hR, (by first | omega | (simp <;> omega))⟩
 · exact ⟨fun b => b, WeakerR.ofLI (I := [0]) (Ks := [0, 900]) hI ⟨⟨rfl, rfl⟩, ⟨rfl, rfl⟩, ⟨rfl, rfl⟩, ⟨rfl, rfl⟩, ⟨rfl, rfl⟩, ⟨rfl, rfl⟩, trivial⟩ (okH_grow (fun hne => absurd rfl hne) rfl rfl (okH_cons rfl rfl rfl rfl (okH_nil))) rfl rfl⟩
 obtain ⟨hR, hi_out⟩ := hR
 replace hi_out : out.length ≤ i := hi_out
 by_cases h2 : out = []
 ·
  refine Awp.wordsR [(0, .ptr 0 0), (1, .pv (.lit (.int .i64 place))), (4, sS (some out.isEmpty) eItem out), (10, sS (some n.items.nil) eItem n.items.D), (11, .pv (.lit (.int .i64 (n.items.D.length : Int)))), (12, .pv (.lit (.int .i64 (i : Int))))] [(0, .cells [sS (some n.items.nil) eItem n.items.D, .pv (.lit (.bool (n.side 0))), .pv (.lit (.bool (n.side 1))), .pv (.lit (.bool (n.side 2))), .pv (.lit (.bool (n.side 3))), .pv (.lit (.bool (n.side 4))), .pv (.lit (.bool (n.side 5))), .pv (.lit (.bool (n.side 6))), .pv (.lit (.bool (n.side 7))), .pv (.lit (.bool (n.side 8))), .pv (.lit (.bool (n.side 9))), .pv (.lit (.bool (n.side 10))), .pv (.lit (.bool (n.side 11))), .pv (.lit (.bool (n.side 12))), .pv (.lit (.bool (n.side 13))), .pv (.lit (.bool (n.side 14))), .pv (.lit (.bool (n.side 15))), .pv (.lit (.bool (n.side 16))), .pv (.lit (.bool (n.side 17))), .pv (.lit (.bool (n.side 18))), .pv (.lit (.bool (n.side 19))), .pv (.lit (.bool (n.side 20))), .pv (.lit (.bool (n.side 21))), .pv (.lit (.bool (n.side 22))), .pv (.lit (.bool (n.side 23))), .pv (.lit (.bool (n.side 24))), .pv (.lit (.bool (n.side 25))), .pv (.lit (.bool (n.side 26))), .pv (.lit (.bool (n.side 27))), .pv (.lit (.bool (n.side 28))), .pv (.lit (.bool (n.side 29))), .pv (.lit (.bool (n.side 30))), .pv (.lit (.bool (n.side 31))), .pv (.lit (.bool (n.side 32))), .pv (.lit (.bool (n.side 33))), .pv (.lit (.bool (n.side 34))), .pv (.lit (.bool (n.side 35))), .pv (.lit (.bool (n.side 36))), .pv (.lit (.bool (n.side 37))), .pv (.lit (.bool (n.side 38))), .pv (.lit (.bool (n.side 39))), .pv (.lit (.bool (n.side 40))), .pv (.lit (.bool (n.side 41))), .pv (.lit (.bool (n.side 42))), .pv (.lit (.bool (n.side 43))), .pv (.lit (.bool (n.side 44))), .pv (.lit (.bool (n.side 45))), .pv (.lit (.bool (n.side 46))), .pv (.lit (.bool (n.side 47))), .pv (.lit (.bool (n.side 48))), .pv (.lit (.bool (n.side 49))), .pv (.lit (.bool (n.side 50))), .pv (.lit (.bool (n.side 51))), .pv (.lit (.bool (n.side 52))), .pv (.lit (.bool (n.side 53))), .pv (.lit (.bool (n.side 54))), .pv (.lit (.bool (n.side 55))), .pv (.lit (.bool (n.side 56))), .pv (.lit (.bool (n.side 57))), .pv (.lit (.bool (n.side 58))), .pv (.lit (.bool (n.side 59))), .pv (.lit (.bool (n.side 60))), .pv (.lit (.bool (n.side 61))), .pv (.lit (.bool (n.side 62))), .pv (.lit (.bool (n.side 63))), .pv (.lit (.int .i64 n.lost))])] [0] (WeakerR.ofLI (I := [0]) (Ks := [0]) hI ⟨⟨rfl, rfl⟩, ⟨rfl, rfl⟩, ⟨(by exact grow_at_nil (b := 900) (e := eItem) (l := out) rfl h2), rfl⟩, ⟨rfl, rfl⟩, ⟨rfl, rfl⟩, ⟨rfl, rfl⟩, trivial⟩ (okH_cons (look_nil h2 rfl) rfl rfl rfl (okH_nil)) rfl rfl) ?_
  refine Awp.consP C ?_
  refine rvP C (.pv (.lit (.bool (decide ((i : Int) < (n.items.D.length : Int)))))) ?_
  refine rvc_nil ?_
  refine Awp.seq ?_
  refine Awp.cond (b := (decide ((i : Int) < (n.items.D.length : Int)))) rfl (fun h3 => ?_) (fun h3 => ?_)
  ·
   have h4 : i < n.items.D.length := by have := of_decide_eq_true h3; omega
   obtain ⟨x, h5⟩ := getX h4
   rw [drop_at h5] at hR
   refine Awp.skip ?_
   refine Awp.seq ?_
   refine Awp.block ?_
   refine Awp.consP C ?_
   refine rvc_un (rexec_idxS C rfl rfl rfl rfl rfl rfl x (Int.natCast_nonneg _) h5 ?_)
   refine rvP C (.agg [.pv (.lit (.int .i64 x.l.from_)), .pv (.lit (.int .i64 x.l.to)), .pv (.lit (.string x.b))]) ?_
   refine rvc_un (rexec_prim C (δ := { v := .ptr 6 0, new := [(6, .cells [.pv (.lit (.int .i64 0)), .pv (.lit (.int .i64 0)), .pv (.lit (.string ⟨#[]⟩))])] }) rfl rfl rfl rfl trivial rfl ?_)
   refine rvc_un (rexec_prim C (δ := { v := .undef, wr := [(6, some (.cells [.pv (.lit (.int .i64 x.l.from_)), .pv (.lit (.int .i64 x.l.to)), .pv (.lit (.string x.b))]))] }) rfl rfl rfl rfl trivial rfl ?_)
   refine rvc_nil ?_
   refine Awp.consP C ?_
   refine rvP C (.ptr 6 0) ?_
   refine rvP C (.ptr 6 0) ?_
   refine rvP C (.pv (.lit (.int .i64 x.l.from_))) ?_
   refine rvP C (.pv (.lit (.int .i64 place))) ?_
   refine rvP C (.pv (.lit (.bool (x.l.from_ != place)))) ?_
   refine rvP C (.pv (.lit (.bool (x.l.from_ != place)))) ?_
   refine rvc_case 21 (x.l.from_ != place) rfl (fun h6 => ?_) (fun h6 => ?_)
   ·
    replace hR := of_true h6 hR
    refine rvO C (.ptr 6 0) ?_
    refine rvO C (.ptr 6 1) ?_
    refine rvO C (.pv (.lit (.int .i64 x.l.to))) ?_
    refine rvO C (.pv (.lit (.int .i64 place))) ?_
    refine rvO C (.pv (.lit (.bool (x.l.to != place)))) ?_
    refine rvP C (.pv (.lit (.bool (x.l.to != place)))) ?_
    refine rvc_nil ?_
    refine Awp.cond (b := (x.l.to != place)) rfl (fun h7 => ?_) (fun h7 => ?_)
    ·
     replace hR := of_true h7 hR
     refine Awp.regionP C ?_
     refine rvP C (sS (some out.isEmpty) eItem out) ?_
     refine rvP C (.agg [.pv (.lit (.int .i64 x.l.from_)), .pv (.lit (.int .i64 x.l.to)), .pv (.lit (.string x.b))]) ?_
     refine rvc_un (rexec_buildSliceF C eItem [x] rfl rfl rfl rfl rfl rfl rfl (by decide) rfl ?_)
     refine rvc_un (rexec_appendG C rfl rfl rfl rfl rfl rfl rfl rfl (fun _ h => by cases h) rfl (en := eItem) (l := out) (D := [x]) rfl rfl h2 (by rw [h2]; rfl) (by simp) (by have := of_decide_eq_true h3; have := bne_iff_ne.1 h6; have := bne_iff_ne.1 h7; first | omega | (simp <;> omega)) (by decide) (nn := (out ++ [x]).length) (by simp) ?_)
     refine rvP C (.sl 31 0 ((out ++ [x]).length) 3 false) ?_
     refine rvc_nil ?_
     refine Awp.regionP C ?_
     refine rvP C (.pv (.lit (.int .i64 (IntKind.i64.wrap ((i : Int) + 1))))) ?_
     refine rvP C (.pv (.lit (.int .i64 (IntKind.i64.wrap ((i : Int) + 1))))) ?_
     refine rvc_nil ?_
     refine ⟨h4, (out ++ [x]), ?_, ?_⟩
     · exact ⟨hR, (by first | omega | (simp <;> omega))⟩
     · exact ⟨fun b => bif b == 900 then 31 else (fun b => b) b, WeakerR.ofLI (I := [0]) (Ks := [0, 900]) hI ⟨⟨rfl, rfl⟩, ⟨rfl, rfl⟩, ⟨grow_to rfl rfl app_ne rfl rfl, grow_within rfl⟩, ⟨rfl, rfl⟩, ⟨rfl, rfl⟩, ⟨lit_cast (wrap_i64 (by omega) (by omega)), rfl⟩, trivial⟩ (okH_grow (fun _ => rfl) rfl rfl (okH_cons rfl rfl rfl rfl (okH_nil))) rfl rfl⟩
    ·
     replace hR := of_false h7 hR
     refine Awp.skip ?_
     refine Awp.regionP C ?_
     refine rvP C (.pv (.lit (.int .i64 (IntKind.i64.wrap ((i : Int) + 1))))) ?_
     refine rvP C (.pv (.lit (.int .i64 (IntKind.i64.wrap ((i : Int) + 1))))) ?_
     refine rvc_nil ?_
     refine ⟨h4, out, ?_, ?_⟩
     · exact ⟨hR, (by first | omega | (simp <;> omega))⟩
     · exact ⟨fun b => b, WeakerR.ofLI (I := [0]) (Ks := [0, 900]) hI ⟨⟨rfl, rfl⟩, ⟨rfl, rfl⟩, ⟨grow_to_nil rfl h2 (.inr rfl), grow_within rfl⟩, ⟨rfl, rfl⟩, ⟨rfl, rfl⟩, ⟨lit_cast (wrap_i64 (by omega) (by omega)), rfl⟩, trivial⟩ (okH_grow (fun hne => absurd h2 hne) rfl rfl (okH_cons rfl rfl rfl rfl (okH_nil))) rfl rfl⟩
   ·
    replace hR := of_false h6 hR
    refine rvS ?_
    refine rvS ?_
    refine rvS ?_
    refine rvS ?_
    refine rvS ?_
    refine rvP C (.pv (.lit (.bool false))) ?_
    refine rvc_nil ?_
    refine Awp.condF (b := false) rfl rfl ?_
    refine Awp.skip ?_
    refine Awp.regionP C ?_
    refine rvP C (.pv (.lit (.int .i64 (IntKind.i64.wrap ((i : Int) + 1))))) ?_
    refine rvP C (.pv (.lit (.int .i64 (IntKind.i64.wrap ((i : Int) + 1))))) ?_
    refine rvc_nil ?_
    refine ⟨h4, out, ?_, ?_⟩
    · exact ⟨hR, (by first | omega | (simp <;> omega))⟩
    · exact ⟨fun b => b, WeakerR.ofLI (I := [0]) (Ks := [0, 900]) hI ⟨⟨rfl, rfl⟩, ⟨rfl, rfl⟩, ⟨grow_to_nil rfl h2 (.inr rfl), grow_within rfl⟩, ⟨rfl, rfl⟩, ⟨rfl, rfl⟩, ⟨lit_cast (wrap_i64 (by omega) (by omega)), rfl⟩, trivial⟩ (okH_grow (fun hne => absurd h2 hne) rfl rfl (okH_cons rfl rfl rfl rfl (okH_nil))) rfl rfl⟩
  ·
   have h4 : ¬ i < n.items.D.length := by have := of_decide_eq_false h3; omega
   rw [drop_end h4] at hR
   refine Awp.exit ?_
   refine Awp.regionP C ?_
   refine rvP C (.ptr 0 0) ?_
   refine rvP C (sS (some out.isEmpty) eItem out) ?_
   refine rvP C (.ptr 0 0) ?_
   refine rvP C (.ptr 0 0) ?_
   refine rvc_un (rexec_prim C (δ := { v := .undef, wr := [(0, some (.cells [sS (some out.isEmpty) eItem out, .pv (.lit (.bool (n.side 0))), .pv (.lit (.bool (n.side 1))), .pv (.lit (.bool (n.side 2))), .pv (.lit (.bool (n.side 3))), .pv (.lit (.bool (n.side 4))), .pv (.lit (.bool (n.side 5))), .pv (.lit (.bool (n.side 6))), .pv (.lit (.bool (n.side 7))), .pv (.lit (.bool (n.side 8))), .pv (.lit (.bool (n.side 9))), .pv (.lit (.bool (n.side 10))), .pv (.lit (.bool (n.side 11))), .pv (.lit (.bool (n.side 12))), .pv (.lit (.bool (n.side 13))), .pv (.lit (.bool (n.side 14))), .pv (.lit (.bool (n.side 15))), .pv (.lit (.bool (n.side 16))), .pv (.lit (.bool (n.side 17))), .pv (.lit (.bool (n.side 18))), .pv (.lit (.bool (n.side 19))), .pv (.lit (.bool (n.side 20))), .pv (.lit (.bool (n.side 21))), .pv (.lit (.bool (n.side 22))), .pv (.lit (.bool (n.side 23))), .pv (.lit (.bool (n.side 24))), .pv (.lit (.bool (n.side 25))), .pv (.lit (.bool (n.side 26))), .pv (.lit (.bool (n.side 27))), .pv (.lit (.bool (n.side 28))), .pv (.lit (.bool (n.side 29))), .pv (.lit (.bool (n.side 30))), .pv (.lit (.bool (n.side 31))), .pv (.lit (.bool (n.side 32))), .pv (.lit (.bool (n.side 33))), .pv (.lit (.bool (n.side 34))), .pv (.lit (.bool (n.side 35))), .pv (.lit (.bool (n.side 36))), .pv (.lit (.bool (n.side 37))), .pv (.lit (.bool (n.side 38))), .pv (.lit (.bool (n.side 39))), .pv (.lit (.bool (n.side 40))), .pv (.lit (.bool (n.side 41))), .pv (.lit (.bool (n.side 42))), .pv (.lit (.bool (n.side 43))), .pv (.lit (.bool (n.side 44))), .pv (.lit (.bool (n.side 45))), .pv (.lit (.bool (n.side 46))), .pv (.lit (.bool (n.side 47))), .pv (.lit (.bool (n.side 48))), .pv (.lit (.bool (n.side 49))), .pv (.lit (.bool (n.side 50))), .pv (.lit (.bool (n.side 51))), .pv (.lit (.bool (n.side 52))), .pv (.lit (.bool (n.side 53))), .pv (.lit (.bool (n.side 54))), .pv (.lit (.bool (n.side 55))), .pv (.lit (.bool (n.side 56))), .pv (.lit (.bool (n.side 57))), .pv (.lit (.bool (n.side 58))), .pv (.lit (.bool (n.side 59))), .pv (.lit (.bool (n.side 60))), .pv (.lit (.bool (n.side 61))), .pv (.lit (.bool (n.side 62))), .pv (.lit (.bool (n.side 63))), .pv (.lit (.int .i64 n.lost))]))] }) rfl rfl rfl rfl trivial rfl ?_)
   refine rvc_nil ?_
   subst hR
   exact .inl ⟨.inr rfl, rfl, rfl⟩
 ·
  refine Awp.wordsR [(0, .ptr 0 0), (1, .pv (.lit (.int .i64 place))), (4, .sl 900 0 out.length 3 false), (10, sS (some n.items.nil) eItem n.items.D), (11, .pv (.lit (.int .i64 (n.items.D.length : Int)))), (12, .pv (.lit (.int .i64 (i : Int))))] [(900, .cells (encC eItem out)), (0, .cells [sS (some n.items.nil) eItem n.items.D, .pv (.lit (.bool (n.side 0))), .pv (.lit (.bool (n.side 1))), .pv (.lit (.bool (n.side 2))), .pv (.lit (.bool (n.side 3))), .pv (.lit (.bool (n.side 4))), .pv (.lit (.bool (n.side 5))), .pv (.lit (.bool (n.side 6))), .pv (.lit (.bool (n.side 7))), .pv (.lit (.bool (n.side 8))), .pv (.lit (.bool (n.side 9))), .pv (.lit (.bool (n.side 10))), .pv (.lit (.bool (n.side 11))), .pv (.lit (.bool (n.side 12))), .pv (.lit (.bool (n.side 13))), .pv (.lit (.bool (n.side 14))), .pv (.lit (.bool (n.side 15))), .pv (.lit (.bool (n.side 16))), .pv (.lit (.bool (n.side 17))), .pv (.lit (.bool (n.side 18))), .pv (.lit (.bool (n.side 19))), .pv (.lit (.bool (n.side 20))), .pv (.lit (.bool (n.side 21))), .pv (.lit (.bool (n.side 22))), .pv (.lit (.bool (n.side 23))), .pv (.lit (.bool (n.side 24))), .pv (.lit (.bool (n.side 25))), .pv (.lit (.bool (n.side 26))), .pv (.lit (.bool (n.side 27))), .pv (.lit (.bool (n.side 28))), .pv (.lit (.bool (n.side 29))), .pv (.lit (.bool (n.side 30))), .pv (.lit (.bool (n.side 31))), .pv (.lit (.bool (n.side 32))), .pv (.lit (.bool (n.side 33))), .pv (.lit (.bool (n.side 34))), .pv (.lit (.bool (n.side 35))), .pv (.lit (.bool (n.side 36))), .pv (.lit (.bool (n.side 37))), .pv (.lit (.bool (n.side 38))), .pv (.lit (.bool (n.side 39))), .pv (.lit (.bool (n.side 40))), .pv (.lit (.bool (n.side 41))), .pv (.lit (.bool (n.side 42))), .pv (.lit (.bool (n.side 43))), .pv (.lit (.bool (n.side 44))), .pv (.lit (.bool (n.side 45))), .pv (.lit (.bool (n.side 46))), .pv (.lit (.bool (n.side 47))), .pv (.lit (.bool (n.side 48))), .pv (.lit (.bool (n.side 49))), .pv (.lit (.bool (n.side 50))), .pv (.lit (.bool (n.side 51))), .pv (.lit (.bool (n.side 52))), .pv (.lit (.bool (n.side 53))), .pv (.lit (.bool (n.side 54))), .pv (.lit (.bool (n.side 55))), .pv (.lit (.bool (n.side 56))), .pv (.lit (.bool (n.side 57))), .pv (.lit (.bool (n.side 58))), .pv (.lit (.bool (n.side 59))), .pv (.lit (.bool (n.side 60))), .pv (.lit (.bool (n.side 61))), .pv (.lit (.bool (n.side 62))), .pv (.lit (.bool (n.side 63))), .pv (.lit (.int .i64 n.lost))])] [0, 900] (WeakerR.ofLI (I := [0]) (Ks := [0, 900]) hI ⟨⟨rfl, rfl⟩, ⟨rfl, rfl⟩, ⟨(by exact grow_at_cons (b := 900) (b' := 900) (e := eItem) (l := out) rfl h2 rfl rfl rfl), rfl⟩, ⟨rfl, rfl⟩, ⟨rfl, rfl⟩, ⟨rfl, rfl⟩, trivial⟩ (okH_list (look_cons h2 rfl) rfl rfl (okH_cons (look_cons h2 rfl) rfl rfl rfl (okH_nil))) rfl rfl) ?_
  refine Awp.consP C ?_
  refine rvP C (.pv (.lit (.bool (decide ((i : Int) < (n.items.D.length : Int)))))) ?_
  refine rvc_nil ?_
  refine Awp.seq ?_
  refine Awp.cond (b := (decide ((i : Int) < (n.items.D.length : Int)))) rfl (fun h8 => ?_) (fun h8 => ?_)
  ·
   have h9 : i < n.items.D.length := by have := of_decide_eq_true h8; omega
   obtain ⟨x, h10⟩ := getX h9
   rw [drop_at h10] at hR
   refine Awp.skip ?_
   refine Awp.seq ?_
   refine Awp.block ?_
   refine Awp.consP C ?_
   refine rvc_un (rexec_idxS C rfl rfl rfl rfl rfl rfl x (Int.natCast_nonneg _) h10 ?_)
   refine rvP C (.agg [.pv (.lit (.int .i64 x.l.from_)), .pv (.lit (.int .i64 x.l.to)), .pv (.lit (.string x.b))]) ?_
   refine rvc_un (rexec_prim C (δ := { v := .ptr 6 0, new := [(6, .cells [.pv (.lit (.int .i64 0)), .pv (.lit (.int .i64 0)), .pv (.lit (.string ⟨#[]⟩))])] }) rfl rfl rfl rfl trivial rfl ?_)
   refine rvc_un (rexec_prim C (δ := { v := .undef, wr := [(6, some (.cells [.pv (.lit (.int .i64 x.l.from_)), .pv (.lit (.int .i64 x.l.to)), .pv (.lit (.string x.b))]))] }) rfl rfl rfl rfl trivial rfl ?_)
   refine rvc_nil ?_
   refine Awp.consP C ?_
   refine rvP C (.ptr 6 0) ?_
   refine rvP C (.ptr 6 0) ?_
   refine rvP C (.pv (.lit (.int .i64 x.l.from_))) ?_
   refine rvP C (.pv (.lit (.int .i64 place))) ?_
   refine rvP C (.pv (.lit (.bool (x.l.from_ != place)))) ?_
   refine rvP C (.pv (.lit (.bool (x.l.from_ != place)))) ?_
   refine rvc_case 21 (x.l.from_ != place) rfl (fun h11 => ?_) (fun h11 => ?_)
   ·
    replace hR := of_true h11 hR
    refine rvO C (.ptr 6 0) ?_
    refine rvO C (.ptr 6 1) ?_
    refine rvO C (.pv (.lit (.int .i64 x.l.to))) ?_
    refine rvO C (.pv (.lit (.int .i64 place))) ?_
    refine rvO C (.pv (.lit (.bool (x.l.to != place)))) ?_
    refine rvP C (.pv (.lit (.bool (x.l.to != place)))) ?_
    refine rvc_nil ?_
    refine Awp.cond (b := (x.l.to != place)) rfl (fun h12 => ?_) (fun h12 => ?_)
    ·
     replace hR := of_true h12 hR
     refine Awp.regionP C ?_
     refine rvP C (.sl 900 0 out.length 3 false) ?_
     refine rvP C (.agg [.pv (.lit (.int .i64 x.l.from_)), .pv (.lit (.int .i64 x.l.to)), .pv (.lit (.string x.b))]) ?_
     refine rvc_un (rexec_buildSliceF C eItem [x] rfl rfl rfl rfl rfl rfl rfl (by decide) rfl ?_)
     refine rvc_un (rexec_append C rfl rfl rfl rfl rfl rfl rfl rfl (fun _ h => by cases h) rfl (en := eItem) (D0 := out) (D := [x]) rfl rfl rfl rfl (by have := of_decide_eq_true h8; have := bne_iff_ne.1 h11; have := bne_iff_ne.1 h12; first | omega | (simp <;> omega)) (by decide) (nn := (out ++ [x]).length) (by simp) ?_)
     refine rvP C (.sl 31 0 ((out ++ [x]).length) 3 false) ?_
     refine rvc_nil ?_
     refine Awp.regionP C ?_
     refine rvP C (.pv (.lit (.int .i64 (IntKind.i64.wrap ((i : Int) + 1))))) ?_
     refine rvP C (.pv (.lit (.int .i64 (IntKind.i64.wrap ((i : Int) + 1))))) ?_
     refine rvc_nil ?_
     refine ⟨h9, (out ++ [x]), ?_, ?_⟩
     · exact ⟨hR, (by first | omega | (simp <;> omega))⟩
     · exact ⟨fun b => bif b == 900 then 31 else (fun b => b) b, WeakerR.ofLI (I := [0]) (Ks := [0, 900]) hI ⟨⟨rfl, rfl⟩, ⟨rfl, rfl⟩, ⟨grow_to rfl rfl app_ne rfl rfl, grow_within rfl⟩, ⟨rfl, rfl⟩, ⟨rfl, rfl⟩, ⟨lit_cast (wrap_i64 (by omega) (by omega)), rfl⟩, trivial⟩ (okH_grow (fun _ => rfl) rfl rfl (okH_cons rfl rfl rfl rfl (okH_nil))) rfl rfl⟩
    ·
     replace hR := of_false h12 hR
     refine Awp.skip ?_
     refine Awp.regionP C ?_
     refine rvP C (.pv (.lit (.int .i64 (IntKind.i64.wrap ((i : Int) + 1))))) ?_
     refine rvP C (.pv (.lit (.int .i64 (IntKind.i64.wrap ((i : Int) + 1))))) ?_
     refine rvc_nil ?_
     refine ⟨h9, out, ?_, ?_⟩
     · exact ⟨hR, (by first | omega | (simp <;> omega))⟩
     · exact ⟨fun b => b, WeakerR.ofLI (I := [0]) (Ks := [0, 900]) hI ⟨⟨rfl, rfl⟩, ⟨rfl, rfl⟩, ⟨grow_to rfl rfl h2 rfl rfl, grow_within rfl⟩, ⟨rfl, rfl⟩, ⟨rfl, rfl⟩, ⟨lit_cast (wrap_i64 (by omega) (by omega)), rfl⟩, trivial⟩ (okH_grow (fun _ => rfl) rfl rfl (okH_cons rfl rfl rfl rfl (okH_nil))) rfl rfl⟩
   ·
    replace hR := of_false h11 hR
    refine rvS ?_
    refine rvS ?_
    refine rvS ?_
    refine rvS ?_
    refine rvS ?_
    refine rvP C (.pv (.lit (.bool false))) ?_
    refine rvc_nil ?_
    refine Awp.condF (b := false) rfl rfl ?_
    refine Awp.skip ?_
    refine Awp.regionP C ?_
    refine rvP C (.pv (.lit (.int .i64 (IntKind.i64.wrap ((i : Int) + 1))))) ?_
    refine rvP C (.pv (.lit (.int .i64 (IntKind.i64.wrap ((i : Int) + 1))))) ?_
    refine rvc_nil ?_
    refine ⟨h9, out, ?_, ?_⟩
    · exact ⟨hR, (by first | omega | (simp <;> omega))⟩
    · exact ⟨fun b => b, WeakerR.ofLI (I := [0]) (Ks := [0, 900]) hI ⟨⟨rfl, rfl⟩, ⟨rfl, rfl⟩, ⟨grow_to rfl rfl h2 rfl rfl, grow_within rfl⟩, ⟨rfl, rfl⟩, ⟨rfl, rfl⟩, ⟨lit_cast (wrap_i64 (by omega) (by omega)), rfl⟩, trivial⟩ (okH_grow (fun _ => rfl) rfl rfl (okH_cons rfl rfl rfl rfl (okH_nil))) rfl rfl⟩
  ·
   have h9 : ¬ i < n.items.D.length := by have := of_decide_eq_false h8; omega
   rw [drop_end h9] at hR
   refine Awp.exit ?_
   refine Awp.regionP C ?_
   refine rvP C (.ptr 0 0) ?_
   refine rvP C (.sl 900 0 out.length 3 false) ?_
   refine rvP C (.ptr 0 0) ?_
   refine rvP C (.ptr 0 0) ?_
   refine rvc_un (rexec_prim C (δ := { v := .undef, wr := [(0, some (.cells [.sl 900 0 out.length 3 false, .pv (.lit (.bool (n.side 0))), .pv (.lit (.bool (n.side 1))), .pv (.lit (.bool (n.side 2))), .pv (.lit (.bool (n.side 3))), .pv (.lit (.bool (n.side 4))), .pv (.lit (.bool (n.side 5))), .pv (.lit (.bool (n.side 6))), .pv (.lit (.bool (n.side 7))), .pv (.lit (.bool (n.side 8))), .pv (.lit (.bool (n.side 9))), .pv (.lit (.bool (n.side 10))), .pv (.lit (.bool (n.side 11))), .pv (.lit (.bool (n.side 12))), .pv (.lit (.bool (n.side 13))), .pv (.lit (.bool (n.side 14))), .pv (.lit (.bool (n.side 15))), .pv (.lit (.bool (n.side 16))), .pv (.lit (.bool (n.side 17))), .pv (.lit (.bool (n.side 18))), .pv (.lit (.bool (n.side 19))), .pv (.lit (.bool (n.side 20))), .pv (.lit (.bool (n.side 21))), .pv (.lit (.bool (n.side 22))), .pv (.lit (.bool (n.side 23))), .pv (.lit (.bool (n.side 24))), .pv (.lit (.bool (n.side 25))), .pv (.lit (.bool (n.side 26))), .pv (.lit (.bool (n.side 27))), .pv (.lit (.bool (n.side 28))), .pv (.lit (.bool (n.side 29))), .pv (.lit (.bool (n.side 30))), .pv (.lit (.bool (n.side 31))), .pv (.lit (.bool (n.side 32))), .pv (.lit (.bool (n.side 33))), .pv (.lit (.bool (n.side 34))), .pv (.lit (.bool (n.side 35))), .pv (.lit (.bool (n.side 36))), .pv (.lit (.bool (n.side 37))), .pv (.lit (.bool (n.side 38))), .pv (.lit (.bool (n.side 39))), .pv (.lit (.bool (n.side 40))), .pv (.lit (.bool (n.side 41))), .pv (.lit (.bool (n.side 42))), .pv (.lit (.bool (n.side 43))), .pv (.lit (.bool (n.side 44))), .pv (.lit (.bool (n.side 45))), .pv (.lit (.bool (n.side 46))), .pv (.lit (.bool (n.side 47))), .pv (.lit (.bool (n.side 48))), .pv (.lit (.bool (n.side 49))), .pv (.lit (.bool (n.side 50))), .pv (.lit (.bool (n.side 51))), .pv (.lit (.bool (n.side 52))), .pv (.lit (.bool (n.side 53))), .pv (.lit (.bool (n.side 54))), .pv (.lit (.bool (n.side 55))), .pv (.lit (.bool (n.side 56))), .pv (.lit (.bool (n.side 57))), .pv (.lit (.bool (n.side 58))), .pv (.lit (.bool (n.side 59))), .pv (.lit (.bool (n.side 60))), .pv (.lit (.bool (n.side 61))), .pv (.lit (.bool (n.side 62))), .pv (.lit (.bool (n.side 63))), .pv (.lit (.int .i64 n.lost))]))] }) rfl rfl rfl rfl trivial rfl ?_)
   refine rvc_nil ?_
   refine .inr ⟨900, (encL eItem out), [], [(0, .cells [sS (some out.isEmpty) eItem out, .pv (.lit (.bool (n.side 0))), .pv (.lit (.bool (n.side 1))), .pv (.lit (.bool (n.side 2))), .pv (.lit (.bool (n.side 3))), .pv (.lit (.bool (n.side 4))), .pv (.lit (.bool (n.side 5))), .pv (.lit (.bool (n.side 6))), .pv (.lit (.bool (n.side 7))), .pv (.lit (.bool (n.side 8))), .pv (.lit (.bool (n.side 9))), .pv (.lit (.bool (n.side 10))), .pv (.lit (.bool (n.side 11))), .pv (.lit (.bool (n.side 12))), .pv (.lit (.bool (n.side 13))), .pv (.lit (.bool (n.side 14))), .pv (.lit (.bool (n.side 15))), .pv (.lit (.bool (n.side 16))), .pv (.lit (.bool (n.side 17))), .pv (.lit (.bool (n.side 18))), .pv (.lit (.bool (n.side 19))), .pv (.lit (.bool (n.side 20))), .pv (.lit (.bool (n.side 21))), .pv (.lit (.bool (n.side 22))), .pv (.lit (.bool (n.side 23))), .pv (.lit (.bool (n.side 24))), .pv (.lit (.bool (n.side 25))), .pv (.lit (.bool (n.side 26))), .pv (.lit (.bool (n.side 27))), .pv (.lit (.bool (n.side 28))), .pv (.lit (.bool (n.side 29))), .pv (.lit (.bool (n.side 30))), .pv (.lit (.bool (n.side 31))), .pv (.lit (.bool (n.side 32))), .pv (.lit (.bool (n.side 33))), .pv (.lit (.bool (n.side 34))), .pv (.lit (.bool (n.side 35))), .pv (.lit (.bool (n.side 36))), .pv (.lit (.bool (n.side 37))), .pv (.lit (.bool (n.side 38))), .pv (.lit (.bool (n.side 39))), .pv (.lit (.bool (n.side 40))), .pv (.lit (.bool (n.side 41))), .pv (.lit (.bool (n.side 42))), .pv (.lit (.bool (n.side 43))), .pv (.lit (.bool (n.side 44))), .pv (.lit (.bool (n.side 45))), .pv (.lit (.bool (n.side 46))), .pv (.lit (.bool (n.side 47))), .pv (.lit (.bool (n.side 48))), .pv (.lit (.bool (n.side 49))), .pv (.lit (.bool (n.side 50))), .pv (.lit (.bool (n.side 51))), .pv (.lit (.bool (n.side 52))), .pv (.lit (.bool (n.side 53))), .pv (.lit (.bool (n.side 54))), .pv (.lit (.bool (n.side 55))), .pv (.lit (.bool (n.side 56))), .pv (.lit (.bool (n.side 57))), .pv (.lit (.bool (n.side 58))), .pv (.lit (.bool (n.side 59))), .pv (.lit (.bool (n.side 60))), .pv (.lit (.bool (n.side 61))), .pv (.lit (.bool (n.side 62))), .pv (.lit (.bool (n.side 63))), .pv (.lit (.int .i64 n.lost))])], rfl, trivial, ⟨⟨(by show (0 : Nat) ≠ 900; decide), .inr ⟨_, _, rfl, rfl, ⟨.inr ⟨_, _, _, rfl, by rw [ne_isEmpty h2]; rfl⟩, .inl rfl, .inl rfl, .inl rfl, .inl rfl, .inl rfl, .inl rfl, .inl rfl, .inl rfl, .inl rfl, .inl rfl, .inl rfl, .inl rfl, .inl rfl, .inl rfl, .inl rfl, .inl rfl, .inl rfl, .inl rfl, .inl rfl, .inl rfl, .inl rfl, .inl rfl, .inl rfl, .inl rfl, .inl rfl, .inl rfl, .inl rfl, .inl rfl, .inl rfl, .inl rfl, .inl rfl, .inl rfl, .inl rfl, .inl rfl, .inl rfl, .inl rfl, .inl rfl, .inl rfl, .inl rfl, .inl rfl, .inl rfl, .inl rfl, .inl rfl, .inl rfl, .inl rfl, .inl rfl, .inl rfl, .inl rfl, .inl rfl, .inl rfl, .inl rfl, .inl rfl, .inl rfl, .inl rfl, .inl rfl, .inl rfl, .inl rfl, .inl rfl, .inl rfl, .inl rfl, .inl rfl, .inl rfl, .inl rfl, .inl rfl, .inl rfl, trivial⟩⟩⟩, trivial⟩, ?_⟩
   subst hR
   exact ⟨.inr rfl, rfl, rfl⟩
structure Net where
  of_ : (List (Link × (Sl (Sl Int))))
  side : Int
  lost : Int
  made : Bool
  deriving Inhabited
def kLink : KEnc Link := ⟨fun x => .agg [.pv (.lit (.int .i64 x.from_)), .pv (.lit (.int .i64 x.to))], fun a b => ((a.from_ == b.from_) && ((a.to == b.to) && true)), fun _ => rfl, fun _ => Nat.le_of_ble_eq_true rfl, fun a b => by simp only [Bool.and_eq_true, beq_iff_eq, AV.agg.injEq, List.cons.injEq, AV.pv.injEq, PV.lit.injEq, Value.int.injEq, and_true, true_and]⟩
theorem kLink_ok : KeyOk Try.prog 29 kLink := KeyOk.agg tabOk (r := (tab.lookup 29).get rfl) rfl rfl (fun _ _ => rfl) (fun _ => rfl)
def vT77 : VEnc (Sl (Sl Int)) := ⟨fun x => sS (some x.nil) (eSl (eI .u8)) x.D, fun _ _ => rfl⟩
def nDead (n : Net) : Bool :=
  (!n.made)
theorem nDead_calls (n : Net)  : ObjCalls Try.prog 36 [.ptr 0 0] [.mp 1, .pv (.lit (.int .u64 n.side)), .pv (.lit (.int .i64 n.lost)), .pv (.lit (.bool n.made))] [(1, mapE kLink vT77.enc n.of_)] (.pv (.lit (.bool (nDead n)))) [.mp 1, .pv (.lit (.int .u64 n.side)), .pv (.lit (.int .i64 n.lost)), .pv (.lit (.bool n.made))] [(1, mapE kLink vT77.enc n.of_)] := by
 generalize hR : nDead n = R
 refine ObjCalls.of_body tabOk Try.func36 rfl rfl rfl rfl rfl (allB_cons (mapE_within _ _) allB_nil) (of_decide_eq_true rfl) rfl rfl (allB_cons (mapE_within _ _) allB_nil) (of_decide_eq_true rfl) mixed fun E hP C hI => ?_
 refine Awp.consP C ?_
 refine rvP C (.pv (.lit (.bool false))) ?_
 refine rvc_nil ?_
 refine Awp.consP C ?_
 refine rvP C (.ptr 0 0) ?_
 refine rvc_un (rexec_eqPtr C false true (z := .pv (.lit (.bool false))) rfl rfl rfl rfl rfl rfl rfl rfl rfl ?_)
 refine rvP C (.pv (.lit (.bool false))) ?_
 refine rvO C (.ptr 0 0) ?_
 refine rvO C (.ptr 0 0) ?_
 refine rvO C (.ptr 0 3) ?_
 refine rvO C (.pv (.lit (.bool n.made))) ?_
 refine rvO C (.pv (.lit (.bool (!n.made)))) ?_
 refine rvP C (.pv (.lit (.bool (!n.made)))) ?_
 refine rvP C (.pv (.lit (.bool (!n.made)))) ?_
 refine rvc_nil ?_
 refine Awp.ret ?_
 subst hR
 exact ⟨.inl rfl, rfl, rfl, ⟨rfl, trivial⟩⟩
def able (n : Net) (l : Link) (i : Int) : Int :=
  (bif (nDead n) then 6 else (bif (!(fitsL l)) then 40 else (bif (decide (i < 0)) then 40 else (bif (decide (i ≥ ((((mGet kLink l n.of_).getD (Sl.mk true [])).D).length : Int))) then 40 else 0))))
theorem able_calls (n : Net) (l : Link) (i : Int)  : ObjCalls Try.prog 35 [.ptr 0 0, .agg [.pv (.lit (.int .i64 l.from_)), .pv (.lit (.int .i64 l.to))], .pv (.lit (.int .i64 i))] [.mp 1, .pv (.lit (.int .u64 n.side)), .pv (.lit (.int .i64 n.lost)), .pv (.lit (.bool n.made))] [(1, mapE kLink vT77.enc n.of_)] (.pv (.lit (.int .i64 (able n l i)))) [.mp 1, .pv (.lit (.int .u64 n.side)), .pv (.lit (.int .i64 n.lost)), .pv (.lit (.bool n.made))] [(1, mapE kLink vT77.enc n.of_)] := by
 generalize hR : able n l i = R
 refine ObjCalls.of_body tabOk Try.func35 rfl rfl rfl rfl rfl (allB_cons (mapE_within _ _) allB_nil) (of_decide_eq_true rfl) rfl rfl (allB_cons (mapE_within _ _) allB_nil) (of_decide_eq_true rfl) mixed fun E hP C hI => ?_
 refine Awp.consP C ?_
 refine rvc_un (rexec_prim C (δ := { v := .ptr 4 0, new := [(4, .cells [.pv (.lit (.int .i64 l.from_)), .pv (.lit (.int .i64 l.to))])] }) rfl rfl rfl rfl trivial rfl ?_)
 refine rvP C (.pv (.lit (.int .i64 0))) ?_
 refine rvc_nil ?_
 refine Awp.seq ?_
 refine Awp.block ?_
 refine Awp.cons C (fun _ => .writer) (by kernel_rfl) ?_
 refine rvP C (.ptr 0 0) ?_
 refine rvc_un (rexec_callObj hP C (fun b => bif b == 0 then 0 else bif b == 1 then 1 else b) [] rfl rfl rfl (nDead_calls n) rfl rfl ⟨rfl, trivial⟩ (of_decide_eq_true rfl) rfl (of_decide_eq_true rfl) (of_decide_eq_true rfl) allB_nil allB_nil (allB_cons rfl allB_nil) ?_ rfl (allB_cons rfl allB_nil))
 refine rvP C (.pv (.lit (.bool (nDead n)))) ?_
 refine rvc_nil ?_
 refine Awp.cond (b := (nDead n)) rfl (fun h1 => ?_) (fun h1 => ?_)
 ·
  replace hR := of_true h1 hR
  refine Awp.consP C ?_
  refine rvP C (.pv (.lit (.int .i64 6))) ?_
  refine rvc_nil ?_
  refine Awp.ret ?_
  subst hR
  exact ⟨.inl rfl, rfl, rfl, ⟨rfl, trivial⟩⟩
 ·
  replace hR := of_false h1 hR
  refine Awp.consP C ?_
  refine rvP C (.agg [.pv (.lit (.int .i64 l.from_)), .pv (.lit (.int .i64 l.to))]) ?_
  refine rvc_un (rexec_call hP C rfl rfl rfl (fitsL_calls l) ?_)
  refine rvP C (.pv (.lit (.bool (!(fitsL l))))) ?_
  refine rvP C (.pv (.lit (.bool (!(fitsL l))))) ?_
  refine rvc_case 14 (!(fitsL l)) rfl (fun h2 => ?_) (fun h2 => ?_)
  ·
   replace hR := of_true h2 hR
   refine rvS ?_
   refine rvS ?_
   refine rvP C (.pv (.lit (.bool true))) ?_
   refine rvP C (.pv (.lit (.bool true))) ?_
   refine rvS ?_
   refine rvS ?_
   refine rvS ?_
   refine rvS ?_
   refine rvS ?_
   refine rvS ?_
   refine rvS ?_
   refine rvS ?_
   refine rvS ?_
   refine rvP C (.pv (.lit (.bool true))) ?_
   refine rvP C (.pv (.lit (.bool true))) ?_
   refine rvc_nil ?_
   refine Awp.condT (b := true) rfl rfl ?_
   refine Awp.consP C ?_
   refine rvP C (.pv (.lit (.int .i64 40))) ?_
   refine rvc_nil ?_
   refine Awp.ret ?_
   subst hR
   exact ⟨.inl rfl, rfl, rfl, ⟨rfl, trivial⟩⟩
  ·
   replace hR := of_false h2 hR
   refine rvO C (.pv (.lit (.int .i64 i))) ?_
   refine rvO C (.pv (.lit (.bool (decide (i < 0))))) ?_
   refine rvP C (.pv (.lit (.bool (decide (i < 0))))) ?_
   refine rvP C (.pv (.lit (.bool (decide (i < 0))))) ?_
   refine rvc_case 18 (decide (i < 0)) rfl (fun h3 => ?_) (fun h3 => ?_)
   ·
    replace hR := of_true h3 hR
    refine rvS ?_
    refine rvS ?_
    refine rvS ?_
    refine rvS ?_
    refine rvS ?_
    refine rvS ?_
    refine rvS ?_
    refine rvS ?_
    refine rvS ?_
    refine rvP C (.pv (.lit (.bool true))) ?_
    refine rvP C (.pv (.lit (.bool true))) ?_
    refine rvc_nil ?_
    refine Awp.condT (b := true) rfl rfl ?_
    refine Awp.consP C ?_
    refine rvP C (.pv (.lit (.int .i64 40))) ?_
    refine rvc_nil ?_
    refine Awp.ret ?_
    subst hR
    exact ⟨.inl rfl, rfl, rfl, ⟨rfl, trivial⟩⟩
   ·
    replace hR := of_false h3 hR
    refine rvO C (.pv (.lit (.int .i64 i))) ?_
    refine rvO C (.ptr 0 0) ?_
    refine rvO C (.ptr 0 0) ?_
    refine rvO C (.ptr 0 0) ?_
    refine rvO C (.mp 1) ?_
    refine rvO C (.agg [.pv (.lit (.int .i64 l.from_)), .pv (.lit (.int .i64 l.to))]) ?_
    refine rvc_open rfl rfl rfl (rexec_lookup hP C rfl l (Sl.mk true []) rfl rfl rfl rfl rfl rfl kLink_ok rfl (sS (some ((mGet kLink l n.of_).getD (Sl.mk true [])).nil) (eSl (eI .u8)) (((mGet kLink l n.of_).getD (Sl.mk true [])).D)) rfl ?_)
    refine rvO C (.pv (.lit (.int .i64 ((((mGet kLink l n.of_).getD (Sl.mk true [])).D).length : Int)))) ?_
    refine rvO C (.pv (.lit (.bool (decide (i ≥ ((((mGet kLink l n.of_).getD (Sl.mk true [])).D).length : Int)))))) ?_
    refine rvP C (.pv (.lit (.bool (decide (i ≥ ((((mGet kLink l n.of_).getD (Sl.mk true [])).D).length : Int)))))) ?_
    refine rvP C (.pv (.lit (.bool (decide (i ≥ ((((mGet kLink l n.of_).getD (Sl.mk true [])).D).length : Int)))))) ?_
    refine rvc_nil ?_
    refine Awp.cond (b := (decide (i ≥ ((((mGet kLink l n.of_).getD (Sl.mk true [])).D).length : Int)))) rfl (fun h4 => ?_) (fun h4 => ?_)
    ·
     replace hR := of_true h4 hR
     refine Awp.consP C ?_
     refine rvP C (.pv (.lit (.int .i64 40))) ?_
     refine rvc_nil ?_
     refine Awp.ret ?_
     subst hR
     exact ⟨.inl rfl, rfl, rfl, ⟨rfl, trivial⟩⟩
    ·
     replace hR := of_false h4 hR
     refine Awp.skip ?_
     refine Awp.consP C ?_
     refine rvP C (.pv (.lit (.int .i64 0))) ?_
     refine rvc_nil ?_
     refine Awp.ret ?_
     subst hR
     exact ⟨.inl rfl, rfl, rfl, ⟨rfl, trivial⟩⟩
def nLen (n : Net) (l : Link) : Int :=
  (bif (nDead n) then 0 else ((((mGet kLink l n.of_).getD (Sl.mk true [])).D).length : Int))
theorem nLen_calls (n : Net) (l : Link)  : ObjCalls Try.prog 16 [.ptr 0 0, .agg [.pv (.lit (.int .i64 l.from_)), .pv (.lit (.int .i64 l.to))]] [.mp 1, .pv (.lit (.int .u64 n.side)), .pv (.lit (.int .i64 n.lost)), .pv (.lit (.bool n.made))] [(1, mapE kLink vT77.enc n.of_)] (.pv (.lit (.int .i64 (nLen n l)))) [.mp 1, .pv (.lit (.int .u64 n.side)), .pv (.lit (.int .i64 n.lost)), .pv (.lit (.bool n.made))] [(1, mapE kLink vT77.enc n.of_)] := by
 generalize hR : nLen n l = R
 refine ObjCalls.of_body tabOk Try.func16 rfl rfl rfl rfl rfl (allB_cons (mapE_within _ _) allB_nil) (of_decide_eq_true rfl) rfl rfl (allB_cons (mapE_within _ _) allB_nil) (of_decide_eq_true rfl) mixed fun E hP C hI => ?_
 refine Awp.consP C ?_
 refine rvc_un (rexec_prim C (δ := { v := .ptr 3 0, new := [(3, .cells [.pv (.lit (.int .i64 l.from_)), .pv (.lit (.int .i64 l.to))])] }) rfl rfl rfl rfl trivial rfl ?_)
 refine rvP C (.pv (.lit (.int .i64 0))) ?_
 refine rvc_nil ?_
 refine Awp.seq ?_
 refine Awp.cons C (fun _ => .writer) (by kernel_rfl) ?_
 refine rvP C (.ptr 0 0) ?_
 refine rvc_un (rexec_callObj hP C (fun b => bif b == 0 then 0 else bif b == 1 then 1 else b) [] rfl rfl rfl (nDead_calls n) rfl rfl ⟨rfl, trivial⟩ (of_decide_eq_true rfl) rfl (of_decide_eq_true rfl) (of_decide_eq_true rfl) allB_nil allB_nil (allB_cons rfl allB_nil) ?_ rfl (allB_cons rfl allB_nil))
 refine rvc_nil ?_
 refine Awp.cond (b := (nDead n)) rfl (fun h1 => ?_) (fun h1 => ?_)
 ·
  replace hR := of_true h1 hR
  refine Awp.consP C ?_
  refine rvP C (.pv (.lit (.int .i64 0))) ?_
  refine rvc_nil ?_
  refine Awp.ret ?_
  subst hR
  exact ⟨.inl rfl, rfl, rfl, ⟨rfl, trivial⟩⟩
 ·
  replace hR := of_false h1 hR
  refine Awp.skip ?_
  refine Awp.consP C ?_
  refine rvP C (.ptr 0 0) ?_
  refine rvP C (.ptr 0 0) ?_
  refine rvP C (.ptr 0 0) ?_
  refine rvP C (.mp 1) ?_
  refine rvP C (.agg [.pv (.lit (.int .i64 l.from_)), .pv (.lit (.int .i64 l.to))]) ?_
  refine rvc_un (rexec_lookup hP C rfl l (Sl.mk true []) rfl rfl rfl rfl rfl rfl kLink_ok rfl (sS (some ((mGet kLink l n.of_).getD (Sl.mk true [])).nil) (eSl (eI .u8)) (((mGet kLink l n.of_).getD (Sl.mk true [])).D)) rfl ?_)
  refine rvP C (.pv (.lit (.int .i64 ((((mGet kLink l n.of_).getD (Sl.mk true [])).D).length : Int)))) ?_
  refine rvP C (.pv (.lit (.int .i64 ((((mGet kLink l n.of_).getD (Sl.mk true [])).D).length : Int)))) ?_
  refine rvc_nil ?_
  refine Awp.ret ?_
  subst hR
  exact ⟨.inl rfl, rfl, rfl, ⟨rfl, trivial⟩⟩
def nLost (n : Net) : Int :=
  (bif (nDead n) then 0 else n.lost)
theorem nLost_calls (n : Net)  : ObjCalls Try.prog 20 [.ptr 0 0] [.mp 1, .pv (.lit (.int .u64 n.side)), .pv (.lit (.int .i64 n.lost)), .pv (.lit (.bool n.made))] [(1, mapE kLink vT77.enc n.of_)] (.pv (.lit (.int .i64 (nLost n)))) [.mp 1, .pv (.lit (.int .u64 n.side)), .pv (.lit (.int .i64 n.lost)), .pv (.lit (.bool n.made))] [(1, mapE kLink vT77.enc n.of_)] := by
 generalize hR : nLost n = R
 refine ObjCalls.of_body tabOk Try.func20 rfl rfl rfl rfl rfl (allB_cons (mapE_within _ _) allB_nil) (of_decide_eq_true rfl) rfl rfl (allB_cons (mapE_within _ _) allB_nil) (of_decide_eq_true rfl) mixed fun E hP C hI => ?_
 refine Awp.consP C ?_
 refine rvP C (.pv (.lit (.int .i64 0))) ?_
 refine rvc_nil ?_
 refine Awp.seq ?_
 refine Awp.cons C (fun _ => .writer) (by kernel_rfl) ?_
 refine rvP C (.ptr 0 0) ?_
 refine rvc_un (rexec_callObj hP C (fun b => bif b == 0 then 0 else bif b == 1 then 1 else b) [] rfl rfl rfl (nDead_calls n) rfl rfl ⟨rfl, trivial⟩ (of_decide_eq_true rfl) rfl (of_decide_eq_true rfl) (of_decide_eq_true rfl) allB_nil allB_nil (allB_cons rfl allB_nil) ?_ rfl (allB_cons rfl allB_nil))
 refine rvc_nil ?_
 refine Awp.cond (b := (nDead n)) rfl (fun h1 => ?_) (fun h1 => ?_)
 ·
  replace hR := of_true h1 hR
  refine Awp.consP C ?_
  refine rvP C (.pv (.lit (.int .i64 0))) ?_
  refine rvc_nil ?_
  refine Awp.ret ?_
  subst hR
  exact ⟨.inl rfl, rfl, rfl, ⟨rfl, trivial⟩⟩
 ·
  replace hR := of_false h1 hR
  refine Awp.skip ?_
  refine Awp.consP C ?_
  refine rvP C (.ptr 0 0) ?_
  refine rvP C (.ptr 0 0) ?_
  refine rvP C (.ptr 0 2) ?_
  refine rvP C (.pv (.lit (.int .i64 n.lost))) ?_
  refine rvP C (.pv (.lit (.int .i64 n.lost))) ?_
  refine rvc_nil ?_
  refine Awp.ret ?_
  subst hR
  exact ⟨.inl rfl, rfl, rfl, ⟨rfl, trivial⟩⟩
def nWall (n : Net) (side : Int) : Net × Int :=
  (bif (nDead n) then (n, 6) else ((Net.mk n.of_ side n.lost n.made), 0))
theorem nWall_calls (n : Net) (side : Int)  : ObjCalls Try.prog 30 [.ptr 0 0, .pv (.lit (.int .u64 side))] [.mp 1, .pv (.lit (.int .u64 n.side)), .pv (.lit (.int .i64 n.lost)), .pv (.lit (.bool n.made))] [(1, mapE kLink vT77.enc n.of_)] (.pv (.lit (.int .i64 ((nWall n side).2)))) [.mp 1, .pv (.lit (.int .u64 ((nWall n side).1.side))), .pv (.lit (.int .i64 ((nWall n side).1.lost))), .pv (.lit (.bool ((nWall n side).1.made)))] [(1, mapE kLink vT77.enc ((nWall n side).1.of_))] := by
 generalize hR : nWall n side = R
 refine ObjCalls.of_body tabOk Try.func30 rfl rfl rfl rfl rfl (allB_cons (mapE_within _ _) allB_nil) (of_decide_eq_true rfl) rfl rfl (allB_cons (mapE_within _ _) allB_nil) (of_decide_eq_true rfl) mixed fun E hP C hI => ?_
 refine Awp.consP C ?_
 refine rvP C (.pv (.lit (.int .i64 0))) ?_
 refine rvc_nil ?_
 refine Awp.seq ?_
 refine Awp.cons C (fun _ => .writer) (by kernel_rfl) ?_
 refine rvP C (.ptr 0 0) ?_
 refine rvc_un (rexec_callObj hP C (fun b => bif b == 0 then 0 else bif b == 1 then 1 else b) [] rfl rfl rfl (nDead_calls n) rfl rfl ⟨rfl, trivial⟩ (of_decide_eq_true rfl) rfl (of_decide_eq_true rfl) (of_decide_eq_true rfl) allB_nil allB_nil (allB_cons rfl allB_nil) ?_ rfl (allB_cons rfl allB_nil))
 refine rvc_nil ?_
 refine Awp.cond (b := (nDead n)) rfl (fun h1 => ?_) (fun h1 => ?_)
 ·
  replace hR := of_true h1 hR
  refine Awp.consP C ?_
  refine rvP C (.pv (.lit (.int .i64 6))) ?_
  refine rvc_nil ?_
  refine Awp.ret ?_
  subst hR
  exact ⟨.inl rfl, rfl, rfl, ⟨rfl, trivial⟩⟩
 ·
  replace hR := of_false h1 hR
  refine Awp.skip ?_
  refine Awp.consP C ?_
  refine rvP C (.ptr 0 0) ?_
  refine rvP C (.pv (.lit (.int .u64 side))) ?_
  refine rvP C (.ptr 0 0) ?_
  refine rvP C (.ptr 0 1) ?_
  refine rvc_un (rexec_prim C (δ := { v := .undef, wr := [(0, some (.cells [.mp 1, .pv (.lit (.int .u64 side)), .pv (.lit (.int .i64 n.lost)), .pv (.lit (.bool n.made))]))] }) rfl rfl rfl rfl trivial rfl ?_)
  refine rvc_nil ?_
  refine Awp.consP C ?_
  refine rvP C (.pv (.lit (.int .i64 0))) ?_
  refine rvc_nil ?_
  refine Awp.ret ?_
  subst hR
  exact ⟨.inl rfl, rfl, rfl, ⟨rfl, trivial⟩⟩
def cloneQ (s : (Sl (Sl Int))) : (Sl (Sl Int)) :=
  (bif s.nil then (Sl.mk true []) else (Sl.mk false s.D))
theorem cloneQ_calls (s : (Sl (Sl Int))) (hl1 : s.D.length ≤ 1000000) : PCalls Try.prog 47 [sS (some s.nil) (eSl (eI .u8)) s.D] (sS (some (cloneQ s).nil) (eSl (eI .u8)) ((cloneQ s).D)) := by
 generalize hR : cloneQ s = R
 refine PCalls.of_body tabOk Try.func47 rfl rfl rfl rfl rfl mixed fun E hP C hI => ?_
 refine Awp.consP C ?_
 refine rvP C (sS (some true) (eSl (eI .u8)) []) ?_
 refine rvc_nil ?_
 refine Awp.seq ?_
 refine Awp.consP C ?_
 refine rvP C (sS (some s.nil) (eSl (eI .u8)) s.D) ?_
 refine rvc_un (rexec_eqNil C (f := s.nil) rfl rfl rfl rfl ?_)
 refine rvc_nil ?_
 refine Awp.cond (b := s.nil) rfl (fun h1 => ?_) (fun h1 => ?_)
 ·
  replace hR := of_true h1 hR
  refine Awp.consP C ?_
  refine rvP C (sS (some true) (eSl (eI .u8)) []) ?_
  refine rvc_nil ?_
  refine Awp.ret ?_
  subst hR
  exact ⟨.inl rfl, rfl⟩
 ·
  replace hR := of_false h1 hR
  refine Awp.skip ?_
  refine Awp.consP C ?_
  refine rvc_un (rexec_prim C (δ := { v := .sl 5 0 0 1 true, new := [(5, .cells (encC (eSl (eI .u8)) []))] }) rfl rfl rfl rfl trivial rfl ?_)
  refine rvP C (sS (some s.nil) (eSl (eI .u8)) s.D) ?_
  refine rvc_un (rexec_append C rfl rfl rfl rfl rfl rfl rfl rfl (fun _ h => by cases h) rfl (en := (eSl (eI .u8))) (D0 := []) (D := s.D) rfl rfl rfl rfl (by first | omega | (simp <;> omega)) (by decide) (nn := s.D.length) (by simp) ?_)
  refine rvP C (.sl 7 0 s.D.length 1 false) ?_
  refine rvc_nil ?_
  refine Awp.freezeW 7 (encL (eSl (eI .u8)) s.D) ?_ [(2, sS (some false) (eSl (eI .u8)) s.D)] [] ?_ ?_ ?_
  · rfl
  · exact ⟨⟨_, rfl, .inl (.inr ⟨_, _, _, rfl, rfl⟩)⟩, trivial⟩
  · exact trivial
  refine Awp.ret ?_
  subst hR
  exact ⟨.inl rfl, rfl⟩
abbrev eQ : Enc (Sl Int) := eSl (eI .u8)
theorem eraseIdx_eq {α : Type} (D : List α) (n : Nat) : D.eraseIdx n = D.take n ++ D.drop (n + 1) := List.eraseIdx_eq_take_drop_succ D n
theorem del_take (D : List (Sl Int)) (n : Nat) (hn : n < D.length) : (setRange (encC eQ D) (n * 1) (encC eQ (D.drop (n + 1)))).take ((n + (D.length - (n + 1))) * 1) = encC eQ (D.eraseIdx n) := by
  unfold setRange
  rw [eraseIdx_eq, show n * 1 = n * eQ.sz from rfl, encC_takeN, ← encC_append, List.take_left' (by rw [encC_len]; simp only [List.length_append, List.length_take, List.length_drop]; show _ * 1 = _ * 1; omega)]
theorem del_last (D : List (Sl Int)) (n : Nat) (hn : n + 1 = D.length) : (setRange (encC eQ D) (n * 1) []).take ((n + 0) * 1) = encC eQ (D.eraseIdx n) := by
  unfold setRange
  rw [eraseIdx_eq, show n * 1 = n * eQ.sz from rfl, encC_takeN, List.append_nil, show D.drop (n + 1) = [] from List.drop_of_length_le (by omega), List.append_nil]
  exact List.take_left' (by rw [encC_len]; simp only [List.length_take]; show _ * 1 = _ * 1; omega)
theorem zeroQ : ∀ v ∈ ((tab.lookup 30).get rfl).zero.cells.toList, single v := by
  intro v hv
  have e : ((tab.lookup 30).get rfl).zero.cells.toList = [.slice none 0 0] := by kernel_rfl
  rw [e] at hv
  simp only [List.mem_cons, List.not_mem_nil, or_false] at hv
  subst hv; exact ⟨fun c h => (by cases h), fun c h => (by cases h)⟩
theorem delQ_calls (D : List (Sl Int)) (i j : Int) (hi : 0 ≤ i ∧ i < (D.length : Int)) (hj : j = i + 1) (hl : D.length ≤ 1000000) : XCalls Try.prog 54 [.sl 0 0 D.length 1 false, .pv (.lit (.int .i64 i)), .pv (.lit (.int .i64 j))] (.cells (encC eQ D)) (sS (some false) eQ (D.eraseIdx i.toNat)) := by
 subst hj
 obtain ⟨n, rfl⟩ : ∃ n : Nat, i = (n : Int) := ⟨i.toNat, by omega⟩
 have hn : n < D.length := by omega
 rw [Int.toNat_natCast, show (n : Int) + 1 = ((n + 1 : Nat) : Int) by omega]
 have hne : ((n : Int) == ((n + 1 : Nat) : Int)) = false := by simp; omega
 have hys : ((encC eQ D).drop ((n + 1) * 1)).take ((D.length - (n + 1)) * 1) = encC eQ (D.drop (n + 1)) := by
  rw [show (n + 1) * 1 = (n + 1) * eQ.sz from rfl, encC_dropN, encC_takeAll _ (by rw [List.length_drop]; exact Nat.le_refl _)]
 refine XCalls.of_body tabOk Try.func54 rfl rfl rfl rfl rfl (encC_within _ _) mixed fun E hP C hI => ?_
 refine Awp.capOf 0 0 D.length 1 false (encC eQ D) rfl rfl (by rw [encC_len]; rfl) fun c hc0 => ?_
 refine Awp.consP C ?_
 refine rvc_prim C rfl rfl rfl rfl trivial rfl ?_
 refine rvc_nil ?_
 refine Awp.consP C ?_
 refine rvc_prim C rfl rfl rfl rfl trivial rfl ?_
 refine rvc_prim C rfl rfl rfl rfl trivial rfl ?_
 refine rvc_prim C rfl rfl rfl rfl trivial rfl ?_
 refine rvc_prim C rfl rfl rfl rfl trivial rfl ?_
 refine rvc_un (rexec_lenC C rfl rfl rfl rfl rfl rfl ?_)
 refine rvc_un (rexec_slice3C C (l := n) (h := n + 1) (q := D.length) rfl rfl rfl rfl rfl rfl (by omega) (by omega) (by omega) ?_)
 refine rvc_nil ?_
 refine Awp.seq ?_
 refine Awp.consP C ?_
 refine rvc_prim C rfl rfl rfl rfl trivial rfl ?_
 refine rvc_prim C rfl rfl rfl rfl trivial rfl ?_
 refine rvc_prim C rfl rfl rfl rfl trivial rfl ?_
 refine rvc_nil ?_
 refine Awp.condF rfl hne ?_
 refine Awp.skip ?_
 refine Awp.consP C ?_
 refine rvc_prim C rfl rfl rfl rfl trivial rfl ?_
 refine rvc_un (rexec_lenC C rfl rfl rfl rfl rfl rfl ?_)
 refine rvc_prim C rfl rfl rfl rfl trivial rfl ?_
 refine rvc_nil ?_
 by_cases hlast : n + 1 < D.length
 ·
  refine Awp.cons C (fun o => match o.dst with | some 26 => .writer | _ => .pure) (by kernel_rfl) ?_
  refine rvc_prim C rfl rfl rfl rfl trivial rfl ?_
  refine rvc_prim C rfl rfl rfl rfl trivial rfl ?_
  refine rvc_un (rexec_sliceHiC C n rfl rfl rfl rfl rfl rfl (by omega) ?_)
  refine rvc_prim C rfl rfl rfl rfl trivial rfl ?_
  refine rvc_prim C rfl rfl rfl rfl trivial rfl ?_
  refine rvc_un (rexec_sliceC_from C (l := n + 1) rfl rfl rfl rfl rfl rfl (by omega) ?_)
  refine rvc_un (rexec_appendIn C rfl rfl rfl rfl rfl rfl rfl (fun _ h => by cases h) (m := n) (m' := D.length - (n + 1)) (ys := (encC eQ (D.drop (n + 1)))) (setRange (encC eQ D) (n * 1) (encC eQ (D.drop (n + 1)))) rfl rfl (by show some (_, _, ((encC eQ D).drop ((n + 1) * 1)).take ((D.length - (n + 1)) * 1)) = _; rw [hys]) (fun x hx => by simp only [List.mem_singleton] at hx; subst hx; rfl) (by rw [encC_len, List.length_drop]; rfl) (by omega) (by rw [encC_len]; show _ * 1 ≤ _ * 1; omega) (by omega) (pv_flat _) (fun U _ => within_pvs _ _) rfl ?_ rfl)
  refine rvc_prim C rfl rfl rfl rfl trivial rfl ?_
  refine rvc_nil ?_
  refine Awp.cons C (fun o => match o.dst with | none => .writer | _ => .pure) (by kernel_rfl) ?_
  refine rvc_prim C rfl rfl rfl rfl trivial rfl ?_
  refine rvc_prim C rfl rfl rfl rfl trivial rfl ?_
  refine rvc_un (rexec_lenC C rfl rfl rfl rfl rfl rfl ?_)
  refine rvc_prim C rfl rfl rfl rfl trivial rfl ?_
  refine rvc_un (rexec_sliceC_mid C (l := n + (D.length - (n + 1))) (h := D.length) rfl rfl rfl rfl rfl rfl (by omega) (by omega) ?_)
  refine rvc_un (rexec_clearEnd C rfl rfl rfl rfl rfl rfl (encC eQ (D.eraseIdx n)) rfl rfl (by rw [setRange_length (by simp only [encC_len, List.length_drop]; show n * 1 + _ ≤ _ * 1; first | omega | (show n * 1 + _ * 1 ≤ _ * 1; omega))]; rw [encC_len]; show _ * 1 + _ * 1 = _ * 1; omega) rfl zeroQ (by omega) (del_take D n hn) ?_ rfl)
  refine rvc_nil ?_
  refine Awp.consP C ?_
  refine rvc_prim C rfl rfl rfl rfl trivial rfl ?_
  refine rvc_prim C rfl rfl rfl rfl trivial rfl ?_
  refine rvc_nil ?_
  refine Awp.dropCap 6 0 0 (n + (D.length - (n + 1))) 1 c rfl ?_
  refine Awp.freezeW 0 (encL eQ (D.eraseIdx n)) ?_ [(6, sS (some false) eQ (D.eraseIdx n))] [] ?_ ?_ ?_
  · rfl
  · exact ⟨⟨_, rfl, .inl (.inr ⟨_, _, _, rfl, by simp only [sS]; congr 2; rw [List.length_eraseIdx_of_lt hn]; omega⟩)⟩, trivial⟩
  · exact trivial
  refine Awp.ret ?_
  exact ⟨.inl rfl, rfl⟩
 ·
  refine Awp.cons C (fun o => match o.dst with | some 26 => .writer | _ => .pure) (by kernel_rfl) ?_
  refine rvc_prim C rfl rfl rfl rfl trivial rfl ?_
  refine rvc_prim C rfl rfl rfl rfl trivial rfl ?_
  refine rvc_un (rexec_sliceHiC C n rfl rfl rfl rfl rfl rfl (by omega) ?_)
  refine rvc_prim C rfl rfl rfl rfl trivial rfl ?_
  refine rvc_prim C rfl rfl rfl rfl trivial rfl ?_
  refine rvc_un (rexec_sliceC_end C (l := n + 1) rfl rfl rfl rfl rfl rfl (by omega) ?_)
  refine rvc_un (rexec_appendIn C rfl rfl rfl rfl rfl rfl rfl (fun _ h => by cases h) (m := n) (m' := 0) (ys := []) (setRange (encC eQ D) (n * 1) []) rfl rfl rfl (fun x hx => by cases hx) (by simp) (by omega) (by rw [encC_len]; show _ * 1 ≤ _ * 1; omega) (by omega) rfl (fun U _ => rfl) rfl ?_ rfl)
  refine rvc_prim C rfl rfl rfl rfl trivial rfl ?_
  refine rvc_nil ?_
  refine Awp.cons C (fun o => match o.dst with | none => .writer | _ => .pure) (by kernel_rfl) ?_
  refine rvc_prim C rfl rfl rfl rfl trivial rfl ?_
  refine rvc_prim C rfl rfl rfl rfl trivial rfl ?_
  refine rvc_un (rexec_lenC C rfl rfl rfl rfl rfl rfl ?_)
  refine rvc_prim C rfl rfl rfl rfl trivial rfl ?_
  refine rvc_un (rexec_sliceC_mid C (l := n + (0)) (h := D.length) rfl rfl rfl rfl rfl rfl (by omega) (by omega) ?_)
  refine rvc_un (rexec_clearEnd C rfl rfl rfl rfl rfl rfl (encC eQ (D.eraseIdx n)) rfl rfl (by rw [setRange_length (by simp only [encC_len, List.length_nil]; show n * 1 + _ ≤ _ * 1; first | omega | (show n * 1 + _ * 1 ≤ _ * 1; omega))]; rw [encC_len]; show _ * 1 + _ * 1 = _ * 1; omega) rfl zeroQ (by omega) (del_last D n (by omega)) ?_ rfl)
  refine rvc_nil ?_
  refine Awp.consP C ?_
  refine rvc_prim C rfl rfl rfl rfl trivial rfl ?_
  refine rvc_prim C rfl rfl rfl rfl trivial rfl ?_
  refine rvc_nil ?_
  refine Awp.dropCap 6 0 0 (n + (0)) 1 c rfl ?_
  refine Awp.freezeW 0 (encL eQ (D.eraseIdx n)) ?_ [(6, sS (some false) eQ (D.eraseIdx n))] [] ?_ ?_ ?_
  · rfl
  · exact ⟨⟨_, rfl, .inl (.inr ⟨_, _, _, rfl, by simp only [sS]; congr 2; rw [List.length_eraseIdx_of_lt hn]; omega⟩)⟩, trivial⟩
  · exact trivial
  refine Awp.ret ?_
  exact ⟨.inl rfl, rfl⟩
abbrev Que := Sl (Sl Int)
def okB (x : Sl Int) : Prop := (x.nil = true → x.D = []) ∧ x.D.length ≤ 8192
def okQ (q : Que) : Prop := (q.nil = true → q.D = []) ∧ q.D.length ≤ 8 ∧ ∀ x ∈ q.D, okB x
def okN (n : Net) : Prop := mOnce kLink n.of_ ∧ ∀ e ∈ n.of_, okQ e.2
def qOf (D : List (Link × Que)) (l : Link) : Que := (mGet kLink l D).getD (Sl.mk true [])
theorem okQ0 : okQ (Sl.mk true []) := ⟨fun _ => rfl, Nat.zero_le _, fun _ h => by cases h⟩
theorem mGet_mem {κ β : Type} {KE : KEnc κ} {k : κ} : ∀ {D : List (κ × β)} {x : β}, mGet KE k D = some x → ∃ e ∈ D, KE.eq k e.1 = true ∧ e.2 = x
  | [], _, h => by cases h
  | e :: D, x, h => by
    unfold mGet at h
    split at h
    · rename_i hk; exact ⟨e, List.mem_cons_self .., hk, Option.some.inj h⟩
    · obtain ⟨e', h1, h2⟩ := mGet_mem h
      exact ⟨e', List.mem_cons_of_mem _ h1, h2⟩
theorem okN.q {n : Net} (h : okN n) (l : Link) : okQ (qOf n.of_ l) := by
  unfold qOf
  cases e : mGet kLink l n.of_ with
  | none => exact okQ0
  | some x =>
    obtain ⟨e', h1, _, h2⟩ := mGet_mem e
    rw [← h2]; exact h.2 e' h1
theorem able_q {n : Net} {l : Link} {i : Int} (ho : okN n) (h : (able n l i != 0) = false) : (0 ≤ i ∧ i < ((((mGet kLink l n.of_).getD (Sl.mk true [])).D).length : Int)) ∧ ((mGet kLink l n.of_).getD (Sl.mk true [])).nil = false := by
  have h0 : able n l i = 0 := eq_of_bne_false h
  unfold able at h0
  cases h1 : nDead n
  case true => rw [h1] at h0; cases h0
  rw [h1, cond_false] at h0
  cases h2 : !(fitsL l)
  case true => rw [h2] at h0; cases h0
  rw [h2, cond_false] at h0
  cases h3 : decide (i < 0)
  case true => rw [h3] at h0; cases h0
  rw [h3, cond_false] at h0
  cases h4 : decide (i ≥ ((((mGet kLink l n.of_).getD (Sl.mk true [])).D).length : Int))
  case true => rw [h4] at h0; cases h0
  have h3 := of_decide_eq_false h3
  have h4 := of_decide_eq_false h4
  refine ⟨⟨by omega, by omega⟩, ?_⟩
  have hq := (ho.q l).1
  unfold qOf at hq
  cases h5 : ((mGet kLink l n.of_).getD (Sl.mk true [])).nil
  · rfl
  · rw [hq h5] at h4; simp at h4; omega
theorem okN.msg {n : Net} (h : okN n) (l : Link) (i : Nat) : (((mGet kLink l n.of_).getD (Sl.mk true [])).D[i]!).D.length ≤ 8192 := by
  have hq := (h.q l).2.2
  unfold qOf at hq
  generalize ((mGet kLink l n.of_).getD (Sl.mk true [])).D = D at hq ⊢
  rcases Nat.lt_or_ge i D.length with hi | hi
  · rw [getElem!_pos D i hi]
    exact (hq _ (List.getElem_mem hi)).2
  · rw [getElem!_neg D i (by omega)]
    exact Nat.zero_le _
theorem cloneQO_nil (s : Que) (h : s.nil = true) (hl : s.D.length ≤ 1000000) : PCalls Try.prog 47 [sS (some s.nil) eQ s.D] (sS (some true) eQ []) := by
  have := cloneQ_calls s hl
  rw [show cloneQ s = ⟨true, []⟩ by unfold cloneQ; rw [h]; rfl] at this
  exact this
def cloneQO (s : (Sl (Sl Int))) : List (Sl Int) :=
  s.D
theorem cloneQO_calls (s : (Sl (Sl Int))) (hn : s.nil = false) (hl1 : s.D.length ≤ 1000000) : OCalls Try.prog 47 [sS (some s.nil) (eSl (eI .u8)) s.D] (.sl 0 0 (cloneQO s).length 1 false) (.cells (encC (eSl (eI .u8)) (cloneQO s))) := by
 generalize hR : cloneQO s = R
 refine OCalls.of_body tabOk Try.func47 rfl rfl rfl rfl rfl (encC_within _ _) mixed fun E hP C hI => ?_
 refine Awp.consP C ?_
 refine rvP C (sS (some true) (eSl (eI .u8)) []) ?_
 refine rvc_nil ?_
 refine Awp.seq ?_
 refine Awp.consP C ?_
 refine rvP C (sS (some s.nil) (eSl (eI .u8)) s.D) ?_
 refine rvc_un (rexec_eqNil C (f := s.nil) rfl rfl rfl rfl ?_)
 refine rvc_nil ?_
 refine Awp.condF (b := s.nil) rfl hn ?_
 refine Awp.skip ?_
 refine Awp.consP C ?_
 refine rvc_un (rexec_prim C (δ := { v := .sl 5 0 0 1 true, new := [(5, .cells (encC (eSl (eI .u8)) []))] }) rfl rfl rfl rfl trivial rfl ?_)
 refine rvP C (sS (some s.nil) (eSl (eI .u8)) s.D) ?_
 refine rvc_un (rexec_append C rfl rfl rfl rfl rfl rfl rfl rfl (fun _ h => by cases h) rfl (en := (eSl (eI .u8))) (D0 := []) (D := s.D) rfl rfl rfl rfl (by first | omega | (simp <;> omega)) (by decide) (nn := s.D.length) (by simp) ?_)
 refine rvP C (.sl 7 0 s.D.length 1 false) ?_
 refine rvc_nil ?_
 refine Awp.weakenR (S := [(2, .sl 0 0 s.D.length 1 false)]) (H := [(0, .cells (encC (eSl (eI .u8)) s.D))]) (U := [0]) (fun x => bif x == 0 then 7 else x) (WeakerR.ofL (Ks := [0]) hI ⟨⟨rfl, rfl⟩, trivial⟩ (okH_list rfl rfl rfl okH_nil) rfl) ?_
 refine Awp.ret ?_
 subst hR
 exact ⟨.inl rfl, rfl, rfl⟩
def nSend (n : Net) (l : Link) (b : (Sl Int)) : Net × Int :=
  (bif (nDead n) then (n, 6) else (bif (!(fitsL l)) then (n, 40) else (bif (decide ((b.D.length : Int) > 8192)) then (n, 4) else (bif (decide (((((mGet kLink l n.of_).getD (Sl.mk true [])).D).length : Int) ≥ 8)) then ((Net.mk n.of_ n.side (IntKind.i64.wrap (n.lost + 1)) n.made), 7) else (bif ((mGet kLink l n.of_).getD (Sl.mk true [])).nil then ((Net.mk (mSet kLink l (Sl.mk false [(cloneBytes b)]) n.of_) n.side n.lost n.made), 0) else ((Net.mk (mSet kLink l (Sl.mk false ((((mGet kLink l n.of_).getD (Sl.mk true [])).D) ++ [(cloneBytes b)])) n.of_) n.side n.lost n.made), 0))))))
theorem nSend_calls (n : Net) (l : Link) (b : (Sl Int)) (hl1 : b.D.length ≤ 1000000) : ObjCalls Try.prog 28 [.ptr 0 0, .agg [.pv (.lit (.int .i64 l.from_)), .pv (.lit (.int .i64 l.to))], sS (some b.nil) (eI .u8) b.D] [.mp 1, .pv (.lit (.int .u64 n.side)), .pv (.lit (.int .i64 n.lost)), .pv (.lit (.bool n.made))] [(1, mapE kLink vT77.enc n.of_)] (.pv (.lit (.int .i64 ((nSend n l b).2)))) [.mp 1, .pv (.lit (.int .u64 ((nSend n l b).1.side))), .pv (.lit (.int .i64 ((nSend n l b).1.lost))), .pv (.lit (.bool ((nSend n l b).1.made)))] [(1, mapE kLink vT77.enc ((nSend n l b).1.of_))] := by
 generalize hR : nSend n l b = R
 refine ObjCalls.of_body tabOk Try.func28 rfl rfl rfl rfl rfl (allB_cons (mapE_within _ _) allB_nil) (of_decide_eq_true rfl) rfl rfl (allB_cons (mapE_within _ _) allB_nil) (of_decide_eq_true rfl) mixed fun E hP C hI => ?_
 refine Awp.consP C ?_
 refine rvc_un (rexec_prim C (δ := { v := .ptr 4 0, new := [(4, .cells [.pv (.lit (.int .i64 l.from_)), .pv (.lit (.int .i64 l.to))])] }) rfl rfl rfl rfl trivial rfl ?_)
 refine rvP C (.pv (.lit (.int .i64 0))) ?_
 refine rvc_nil ?_
 refine Awp.seq ?_
 refine Awp.block ?_
 refine Awp.cons C (fun _ => .writer) (by kernel_rfl) ?_
 refine rvP C (.ptr 0 0) ?_
 refine rvc_un (rexec_callObj hP C (fun b => bif b == 0 then 0 else bif b == 1 then 1 else b) [] rfl rfl rfl (nDead_calls n) rfl rfl ⟨rfl, trivial⟩ (of_decide_eq_true rfl) rfl (of_decide_eq_true rfl) (of_decide_eq_true rfl) allB_nil allB_nil (allB_cons rfl allB_nil) ?_ rfl (allB_cons rfl allB_nil))
 refine rvP C (.pv (.lit (.bool (nDead n)))) ?_
 refine rvc_nil ?_
 refine Awp.cond (b := (nDead n)) rfl (fun h1 => ?_) (fun h1 => ?_)
 ·
  replace hR := of_true h1 hR
  refine Awp.consP C ?_
  refine rvP C (.pv (.lit (.int .i64 6))) ?_
  refine rvc_nil ?_
  refine Awp.ret ?_
  subst hR
  exact ⟨.inl rfl, rfl, rfl, ⟨rfl, trivial⟩⟩
 ·
  replace hR := of_false h1 hR
  refine Awp.consP C ?_
  refine rvP C (.agg [.pv (.lit (.int .i64 l.from_)), .pv (.lit (.int .i64 l.to))]) ?_
  refine rvc_un (rexec_call hP C rfl rfl rfl (fitsL_calls l) ?_)
  refine rvP C (.pv (.lit (.bool (!(fitsL l))))) ?_
  refine rvP C (.pv (.lit (.bool (!(fitsL l))))) ?_
  refine rvc_nil ?_
  refine Awp.cond (b := (!(fitsL l))) rfl (fun h2 => ?_) (fun h2 => ?_)
  ·
   replace hR := of_true h2 hR
   refine Awp.consP C ?_
   refine rvP C (.pv (.lit (.int .i64 40))) ?_
   refine rvc_nil ?_
   refine Awp.ret ?_
   subst hR
   exact ⟨.inl rfl, rfl, rfl, ⟨rfl, trivial⟩⟩
  ·
   replace hR := of_false h2 hR
   refine Awp.consP C ?_
   refine rvP C (sS (some b.nil) (eI .u8) b.D) ?_
   refine rvP C (.pv (.lit (.int .i64 (b.D.length : Int)))) ?_
   refine rvP C (.pv (.lit (.bool (decide ((b.D.length : Int) > 8192))))) ?_
   refine rvP C (.pv (.lit (.bool (decide ((b.D.length : Int) > 8192))))) ?_
   refine rvc_nil ?_
   refine Awp.cond (b := (decide ((b.D.length : Int) > 8192))) rfl (fun h3 => ?_) (fun h3 => ?_)
   ·
    replace hR := of_true h3 hR
    refine Awp.consP C ?_
    refine rvP C (.pv (.lit (.int .i64 4))) ?_
    refine rvc_nil ?_
    refine Awp.ret ?_
    subst hR
    exact ⟨.inl rfl, rfl, rfl, ⟨rfl, trivial⟩⟩
   ·
    replace hR := of_false h3 hR
    refine Awp.consP C ?_
    refine rvP C (.ptr 0 0) ?_
    refine rvP C (.ptr 0 0) ?_
    refine rvP C (.ptr 0 0) ?_
    refine rvP C (.mp 1) ?_
    refine rvP C (.agg [.pv (.lit (.int .i64 l.from_)), .pv (.lit (.int .i64 l.to))]) ?_
    refine rvc_un (rexec_lookup hP C rfl l (Sl.mk true []) rfl rfl rfl rfl rfl rfl kLink_ok rfl (sS (some ((mGet kLink l n.of_).getD (Sl.mk true [])).nil) (eSl (eI .u8)) (((mGet kLink l n.of_).getD (Sl.mk true [])).D)) rfl ?_)
    refine rvP C (.pv (.lit (.int .i64 ((((mGet kLink l n.of_).getD (Sl.mk true [])).D).length : Int)))) ?_
    refine rvP C (.pv (.lit (.bool (decide (((((mGet kLink l n.of_).getD (Sl.mk true [])).D).length : Int) ≥ 8))))) ?_
    refine rvP C (.pv (.lit (.bool (decide (((((mGet kLink l n.of_).getD (Sl.mk true [])).D).length : Int) ≥ 8))))) ?_
    refine rvc_nil ?_
    refine Awp.cond (b := (decide (((((mGet kLink l n.of_).getD (Sl.mk true [])).D).length : Int) ≥ 8))) rfl (fun h4 => ?_) (fun h4 => ?_)
    ·
     replace hR := of_true h4 hR
     refine Awp.consP C ?_
     refine rvP C (.ptr 0 0) ?_
     refine rvP C (.ptr 0 0) ?_
     refine rvP C (.ptr 0 2) ?_
     refine rvP C (.pv (.lit (.int .i64 n.lost))) ?_
     refine rvP C (.pv (.lit (.int .i64 (IntKind.i64.wrap (n.lost + 1))))) ?_
     refine rvP C (.ptr 0 0) ?_
     refine rvP C (.ptr 0 2) ?_
     refine rvc_un (rexec_prim C (δ := { v := .undef, wr := [(0, some (.cells [.mp 1, .pv (.lit (.int .u64 n.side)), .pv (.lit (.int .i64 (IntKind.i64.wrap (n.lost + 1)))), .pv (.lit (.bool n.made))]))] }) rfl rfl rfl rfl trivial rfl ?_)
     refine rvc_nil ?_
     refine Awp.consP C ?_
     refine rvP C (.pv (.lit (.int .i64 7))) ?_
     refine rvc_nil ?_
     refine Awp.ret ?_
     subst hR
     exact ⟨.inl rfl, rfl, rfl, ⟨rfl, trivial⟩⟩
    ·
     replace hR := of_false h4 hR
     refine Awp.skip ?_
     refine Awp.cons C (fun o => match o.dst with | some 37 => .reads [0] | some 42 => .reads [0] | some 38 => .reads [4] | some 43 => .reads [4] | some 44 => .reads [1] | some 45 => .writes [45] | some 48 => .writes [] | some 49 => .writes [45, 49] | none => .writer | _ => .pure) (by kernel_rfl) ?_
     refine rvP C (.ptr 0 0) ?_
     refine rvP C (.ptr 0 0) ?_
     refine rvP C (.ptr 0 0) ?_
     refine rvP C (.mp 1) ?_
     refine rvP C (.agg [.pv (.lit (.int .i64 l.from_)), .pv (.lit (.int .i64 l.to))]) ?_
     refine rvP C (.ptr 0 0) ?_
     refine rvP C (.ptr 0 0) ?_
     refine rvP C (.ptr 0 0) ?_
     refine rvP C (.mp 1) ?_
     refine rvP C (.agg [.pv (.lit (.int .i64 l.from_)), .pv (.lit (.int .i64 l.to))]) ?_
     refine rvc_un (rexec_lookup hP C rfl l (Sl.mk true []) rfl rfl rfl rfl rfl rfl kLink_ok rfl (sS (some ((mGet kLink l n.of_).getD (Sl.mk true [])).nil) (eSl (eI .u8)) (((mGet kLink l n.of_).getD (Sl.mk true [])).D)) rfl ?_)
     rcases Bool.eq_false_or_eq_true (((mGet kLink l n.of_).getD (Sl.mk true [])).nil) with h5 | h5
     ·
      replace hR := of_true h5 hR
      refine rvc_un (rexec_call hP C rfl rfl rfl (cloneQO_nil ((mGet kLink l n.of_).getD (Sl.mk true [])) h5 (by have := of_decide_eq_false h3; have := of_decide_eq_false h4; omega)) ?_)
      refine rvP C (sS (some b.nil) (eI .u8) b.D) ?_
      refine rvc_un (rexec_call hP C rfl rfl rfl (cloneBytes_calls b hl1) ?_)
      refine rvc_un (rexec_buildSliceF C (eSl (eI .u8)) [(cloneBytes b)] rfl rfl rfl rfl rfl rfl rfl (by decide) rfl ?_)
      refine rvc_un (rexec_appendN C rfl rfl rfl rfl rfl rfl rfl rfl (fun _ h => by cases h) rfl (en := (eSl (eI .u8))) (D := [(cloneBytes b)]) rfl rfl (by simp) (by have := of_decide_eq_false h3; have := of_decide_eq_false h4; first | omega | (simp <;> omega)) (by decide) (nn := [(cloneBytes b)].length) rfl ?_)
      refine rvc_un (rexec_mapUpdateO hP C (en := (eSl (eI .u8))) l (Sl.mk false [(cloneBytes b)]) rfl rfl rfl rfl rfl rfl rfl rfl rfl rfl kLink_ok ?_)
      refine rvc_nil ?_
      refine Awp.consP C ?_
      refine rvP C (.pv (.lit (.int .i64 0))) ?_
      refine rvc_nil ?_
      refine Awp.ret ?_
      subst hR
      exact ⟨.inl rfl, rfl, rfl, ⟨rfl, trivial⟩⟩
     ·
      replace hR := of_false h5 hR
      refine rvc_un (rexec_callO hP C rfl rfl rfl rfl (cloneQO_calls ((mGet kLink l n.of_).getD (Sl.mk true [])) h5 (by have := of_decide_eq_false h3; have := of_decide_eq_false h4; omega)) ?_)
      refine rvP C (sS (some b.nil) (eI .u8) b.D) ?_
      refine rvc_un (rexec_call hP C rfl rfl rfl (cloneBytes_calls b hl1) ?_)
      refine rvc_un (rexec_buildSliceF C (eSl (eI .u8)) [(cloneBytes b)] rfl rfl rfl rfl rfl rfl rfl (by decide) rfl ?_)
      refine rvc_un (rexec_append C rfl rfl rfl rfl rfl rfl rfl rfl (fun _ h => by cases h) rfl (en := (eSl (eI .u8))) (D0 := (((mGet kLink l n.of_).getD (Sl.mk true [])).D)) (D := [(cloneBytes b)]) rfl rfl rfl (by first | rfl | simp) (by have := of_decide_eq_false h3; have := of_decide_eq_false h4; first | omega | (simp <;> omega)) (by decide) (nn := ((((mGet kLink l n.of_).getD (Sl.mk true [])).D) ++ [(cloneBytes b)]).length) (by simp) ?_)
      refine rvc_un (rexec_mapUpdateO hP C (en := (eSl (eI .u8))) l (Sl.mk false ((((mGet kLink l n.of_).getD (Sl.mk true [])).D) ++ [(cloneBytes b)])) rfl rfl rfl rfl rfl rfl rfl rfl rfl rfl kLink_ok ?_)
      refine rvc_nil ?_
      refine Awp.consP C ?_
      refine rvP C (.pv (.lit (.int .i64 0))) ?_
      refine rvc_nil ?_
      refine Awp.ret ?_
      subst hR
      exact ⟨.inl rfl, rfl, rfl, ⟨rfl, trivial⟩⟩
def nDouble (n : Net) (l : Link) (i : Int) : Net × Int :=
  (bif ((able n l i) != 0) then (n, (able n l i)) else (bif (decide (((((mGet kLink l n.of_).getD (Sl.mk true [])).D).length : Int) ≥ 8)) then (n, 7) else ((Net.mk (mSet kLink l (Sl.mk false ((((mGet kLink l n.of_).getD (Sl.mk true [])).D) ++ [(((mGet kLink l n.of_).getD (Sl.mk true [])).D)[i.toNat]!])) n.of_) n.side n.lost n.made), 0)))
theorem nDouble_calls (n : Net) (l : Link) (i : Int) (ho : okN n) : ObjCalls Try.prog 33 [.ptr 0 0, .agg [.pv (.lit (.int .i64 l.from_)), .pv (.lit (.int .i64 l.to))], .pv (.lit (.int .i64 i))] [.mp 1, .pv (.lit (.int .u64 n.side)), .pv (.lit (.int .i64 n.lost)), .pv (.lit (.bool n.made))] [(1, mapE kLink vT77.enc n.of_)] (.pv (.lit (.int .i64 ((nDouble n l i).2)))) [.mp 1, .pv (.lit (.int .u64 ((nDouble n l i).1.side))), .pv (.lit (.int .i64 ((nDouble n l i).1.lost))), .pv (.lit (.bool ((nDouble n l i).1.made)))] [(1, mapE kLink vT77.enc ((nDouble n l i).1.of_))] := by
 generalize hR : nDouble n l i = R
 refine ObjCalls.of_body tabOk Try.func33 rfl rfl rfl rfl rfl (allB_cons (mapE_within _ _) allB_nil) (of_decide_eq_true rfl) rfl rfl (allB_cons (mapE_within _ _) allB_nil) (of_decide_eq_true rfl) mixed fun E hP C hI => ?_
 refine Awp.consP C ?_
 refine rvc_un (rexec_prim C (δ := { v := .ptr 4 0, new := [(4, .cells [.pv (.lit (.int .i64 l.from_)), .pv (.lit (.int .i64 l.to))])] }) rfl rfl rfl rfl trivial rfl ?_)
 refine rvP C (.pv (.lit (.int .i64 0))) ?_
 refine rvc_nil ?_
 refine Awp.seq ?_
 refine Awp.cons C (fun _ => .writer) (by kernel_rfl) ?_
 refine rvP C (.ptr 0 0) ?_
 refine rvP C (.agg [.pv (.lit (.int .i64 l.from_)), .pv (.lit (.int .i64 l.to))]) ?_
 refine rvP C (.pv (.lit (.int .i64 i))) ?_
 refine rvc_un (rexec_callObj hP C (fun b => bif b == 0 then 0 else bif b == 1 then 1 else b) [] rfl rfl rfl (able_calls n l i) rfl rfl ⟨rfl, trivial⟩ (of_decide_eq_true rfl) rfl (of_decide_eq_true rfl) (of_decide_eq_true rfl) allB_nil allB_nil (allB_cons rfl allB_nil) ?_ rfl (allB_cons rfl allB_nil))
 refine rvP C (.pv (.lit (.int .i64 (able n l i)))) ?_
 refine rvc_nil ?_
 refine Awp.consP C ?_
 refine rvP C (.pv (.lit (.int .i64 (able n l i)))) ?_
 refine rvP C (.pv (.lit (.bool ((able n l i) != 0)))) ?_
 refine rvc_nil ?_
 refine Awp.cond (b := ((able n l i) != 0)) rfl (fun h1 => ?_) (fun h1 => ?_)
 ·
  replace hR := of_true h1 hR
  refine Awp.consP C ?_
  refine rvP C (.pv (.lit (.int .i64 (able n l i)))) ?_
  refine rvP C (.pv (.lit (.int .i64 (able n l i)))) ?_
  refine rvc_nil ?_
  refine Awp.ret ?_
  subst hR
  exact ⟨.inl rfl, rfl, rfl, ⟨rfl, trivial⟩⟩
 ·
  replace hR := of_false h1 hR
  refine Awp.skip ?_
  refine Awp.seq ?_
  refine Awp.consP C ?_
  refine rvP C (.ptr 0 0) ?_
  refine rvP C (.ptr 0 0) ?_
  refine rvP C (.ptr 0 0) ?_
  refine rvP C (.mp 1) ?_
  refine rvP C (.agg [.pv (.lit (.int .i64 l.from_)), .pv (.lit (.int .i64 l.to))]) ?_
  refine rvc_un (rexec_lookup hP C rfl l (Sl.mk true []) rfl rfl rfl rfl rfl rfl kLink_ok rfl (sS (some ((mGet kLink l n.of_).getD (Sl.mk true [])).nil) (eSl (eI .u8)) (((mGet kLink l n.of_).getD (Sl.mk true [])).D)) rfl ?_)
  refine rvP C (.pv (.lit (.int .i64 ((((mGet kLink l n.of_).getD (Sl.mk true [])).D).length : Int)))) ?_
  refine rvP C (.pv (.lit (.bool (decide (((((mGet kLink l n.of_).getD (Sl.mk true [])).D).length : Int) ≥ 8))))) ?_
  refine rvc_nil ?_
  refine Awp.cond (b := (decide (((((mGet kLink l n.of_).getD (Sl.mk true [])).D).length : Int) ≥ 8))) rfl (fun h2 => ?_) (fun h2 => ?_)
  ·
   replace hR := of_true h2 hR
   refine Awp.consP C ?_
   refine rvP C (.pv (.lit (.int .i64 7))) ?_
   refine rvc_nil ?_
   refine Awp.ret ?_
   subst hR
   exact ⟨.inl rfl, rfl, rfl, ⟨rfl, trivial⟩⟩
  ·
   replace hR := of_false h2 hR
   refine Awp.skip ?_
   refine Awp.cons C (fun o => match o.dst with | some 26 => .reads [0] | some 31 => .reads [0] | some 38 => .reads [0] | some 27 => .reads [4] | some 32 => .reads [4] | some 39 => .reads [4] | some 33 => .reads [1] | some 40 => .reads [1] | some 43 => .reads [] | some 34 => .writes [34] | some 44 => .writes [] | some 45 => .writes [34, 45] | none => .writer | _ => .pure) (by kernel_rfl) ?_
   refine rvP C (.ptr 0 0) ?_
   refine rvP C (.ptr 0 0) ?_
   refine rvP C (.ptr 0 0) ?_
   refine rvP C (.mp 1) ?_
   refine rvP C (.agg [.pv (.lit (.int .i64 l.from_)), .pv (.lit (.int .i64 l.to))]) ?_
   refine rvP C (.ptr 0 0) ?_
   refine rvP C (.ptr 0 0) ?_
   refine rvP C (.ptr 0 0) ?_
   refine rvP C (.mp 1) ?_
   refine rvP C (.agg [.pv (.lit (.int .i64 l.from_)), .pv (.lit (.int .i64 l.to))]) ?_
   refine rvc_un (rexec_lookup hP C rfl l (Sl.mk true []) rfl rfl rfl rfl rfl rfl kLink_ok rfl (sS (some ((mGet kLink l n.of_).getD (Sl.mk true [])).nil) (eSl (eI .u8)) (((mGet kLink l n.of_).getD (Sl.mk true [])).D)) rfl ?_)
   refine rvc_un (rexec_callO hP C rfl rfl rfl rfl (cloneQO_calls ((mGet kLink l n.of_).getD (Sl.mk true [])) (able_q ho (by assumption)).2 (by have := eq_of_bne_false h1; have := of_decide_eq_false h2; omega)) ?_)
   refine rvP C (.ptr 0 0) ?_
   refine rvP C (.ptr 0 0) ?_
   refine rvP C (.ptr 0 0) ?_
   refine rvP C (.mp 1) ?_
   refine rvP C (.agg [.pv (.lit (.int .i64 l.from_)), .pv (.lit (.int .i64 l.to))]) ?_
   refine rvc_un (rexec_lookup hP C rfl l (Sl.mk true []) rfl rfl rfl rfl rfl rfl kLink_ok rfl (sS (some ((mGet kLink l n.of_).getD (Sl.mk true [])).nil) (eSl (eI .u8)) (((mGet kLink l n.of_).getD (Sl.mk true [])).D)) rfl ?_)
   refine rvP C (.pv (.lit (.int .i64 i))) ?_
   have hq_ := (able_q ho (by assumption)).1
   have h3 : (((mGet kLink l n.of_).getD (Sl.mk true [])).D)[i.toNat]? = some (((mGet kLink l n.of_).getD (Sl.mk true [])).D)[i.toNat]! := getE (by omega)
   refine rvc_un (rexec_idxS C rfl rfl rfl rfl rfl rfl ((((mGet kLink l n.of_).getD (Sl.mk true [])).D)[i.toNat]!) (by have := eq_of_bne_false h1; have := of_decide_eq_false h2; omega) h3 ?_)
   refine rvP C (sS (some (((mGet kLink l n.of_).getD (Sl.mk true [])).D)[i.toNat]!.nil) (eI .u8) ((((mGet kLink l n.of_).getD (Sl.mk true [])).D)[i.toNat]!.D)) ?_
   refine rvc_un (rexec_buildSliceF C (eSl (eI .u8)) [(((mGet kLink l n.of_).getD (Sl.mk true [])).D)[i.toNat]!] rfl rfl rfl rfl rfl rfl rfl (by decide) rfl ?_)
   refine rvc_un (rexec_append C rfl rfl rfl rfl rfl rfl rfl rfl (fun _ h => by cases h) rfl (en := (eSl (eI .u8))) (D0 := (((mGet kLink l n.of_).getD (Sl.mk true [])).D)) (D := [(((mGet kLink l n.of_).getD (Sl.mk true [])).D)[i.toNat]!]) rfl rfl rfl (by first | rfl | simp) (by have := eq_of_bne_false h1; have := of_decide_eq_false h2; first | omega | (simp <;> omega)) (by decide) (nn := ((((mGet kLink l n.of_).getD (Sl.mk true [])).D) ++ [(((mGet kLink l n.of_).getD (Sl.mk true [])).D)[i.toNat]!]).length) (by simp) ?_)
   refine rvc_un (rexec_mapUpdateO hP C (en := (eSl (eI .u8))) l (Sl.mk false ((((mGet kLink l n.of_).getD (Sl.mk true [])).D) ++ [(((mGet kLink l n.of_).getD (Sl.mk true [])).D)[i.toNat]!])) rfl rfl rfl rfl rfl rfl rfl rfl rfl rfl kLink_ok ?_)
   refine rvc_nil ?_
   refine Awp.consP C ?_
   refine rvP C (.pv (.lit (.int .i64 0))) ?_
   refine rvc_nil ?_
   refine Awp.ret ?_
   subst hR
   exact ⟨.inl rfl, rfl, rfl, ⟨rfl, trivial⟩⟩
def nPeek (n : Net) (l : Link) (i : Int) : (Sl Int) × Int :=
  (bif ((able n l i) != 0) then ((Sl.mk true []), (able n l i)) else ((cloneBytes ((((mGet kLink l n.of_).getD (Sl.mk true [])).D)[i.toNat]!)), 0))
theorem nPeek_calls (n : Net) (l : Link) (i : Int) (ho : okN n) : ObjCalls Try.prog 14 [.ptr 0 0, .agg [.pv (.lit (.int .i64 l.from_)), .pv (.lit (.int .i64 l.to))], .pv (.lit (.int .i64 i))] [.mp 1, .pv (.lit (.int .u64 n.side)), .pv (.lit (.int .i64 n.lost)), .pv (.lit (.bool n.made))] [(1, mapE kLink vT77.enc n.of_)] (.tup [sS (some (nPeek n l i).1.nil) (eI .u8) ((nPeek n l i).1.D), .pv (.lit (.int .i64 ((nPeek n l i).2)))]) [.mp 1, .pv (.lit (.int .u64 n.side)), .pv (.lit (.int .i64 n.lost)), .pv (.lit (.bool n.made))] [(1, mapE kLink vT77.enc n.of_)] := by
 generalize hR : nPeek n l i = R
 refine ObjCalls.of_body tabOk Try.func14 rfl rfl rfl rfl rfl (allB_cons (mapE_within _ _) allB_nil) (of_decide_eq_true rfl) rfl rfl (allB_cons (mapE_within _ _) allB_nil) (of_decide_eq_true rfl) mixed fun E hP C hI => ?_
 refine Awp.consP C ?_
 refine rvc_un (rexec_prim C (δ := { v := .ptr 4 0, new := [(4, .cells [.pv (.lit (.int .i64 l.from_)), .pv (.lit (.int .i64 l.to))])] }) rfl rfl rfl rfl trivial rfl ?_)
 refine rvP C (sS (some true) (eI .u8) []) ?_
 refine rvP C (.pv (.lit (.int .i64 0))) ?_
 refine rvc_nil ?_
 refine Awp.seq ?_
 refine Awp.cons C (fun _ => .writer) (by kernel_rfl) ?_
 refine rvP C (.ptr 0 0) ?_
 refine rvP C (.agg [.pv (.lit (.int .i64 l.from_)), .pv (.lit (.int .i64 l.to))]) ?_
 refine rvP C (.pv (.lit (.int .i64 i))) ?_
 refine rvc_un (rexec_callObj hP C (fun b => bif b == 0 then 0 else bif b == 1 then 1 else b) [] rfl rfl rfl (able_calls n l i) rfl rfl ⟨rfl, trivial⟩ (of_decide_eq_true rfl) rfl (of_decide_eq_true rfl) (of_decide_eq_true rfl) allB_nil allB_nil (allB_cons rfl allB_nil) ?_ rfl (allB_cons rfl allB_nil))
 refine rvP C (.pv (.lit (.int .i64 (able n l i)))) ?_
 refine rvc_nil ?_
 refine Awp.consP C ?_
 refine rvP C (.pv (.lit (.int .i64 (able n l i)))) ?_
 refine rvP C (.pv (.lit (.bool ((able n l i) != 0)))) ?_
 refine rvc_nil ?_
 refine Awp.cond (b := ((able n l i) != 0)) rfl (fun h1 => ?_) (fun h1 => ?_)
 ·
  replace hR := of_true h1 hR
  refine Awp.consP C ?_
  refine rvP C (.pv (.lit (.int .i64 (able n l i)))) ?_
  refine rvP C (sS (some true) (eI .u8) []) ?_
  refine rvP C (.pv (.lit (.int .i64 (able n l i)))) ?_
  refine rvc_nil ?_
  refine Awp.ret ?_
  subst hR
  exact ⟨.inl rfl, rfl, rfl, ⟨rfl, trivial⟩⟩
 ·
  replace hR := of_false h1 hR
  refine Awp.skip ?_
  refine Awp.consP C ?_
  refine rvP C (.ptr 0 0) ?_
  refine rvP C (.ptr 0 0) ?_
  refine rvP C (.ptr 0 0) ?_
  refine rvP C (.mp 1) ?_
  refine rvP C (.agg [.pv (.lit (.int .i64 l.from_)), .pv (.lit (.int .i64 l.to))]) ?_
  refine rvc_un (rexec_lookup hP C rfl l (Sl.mk true []) rfl rfl rfl rfl rfl rfl kLink_ok rfl (sS (some ((mGet kLink l n.of_).getD (Sl.mk true [])).nil) (eSl (eI .u8)) (((mGet kLink l n.of_).getD (Sl.mk true [])).D)) rfl ?_)
  refine rvP C (.pv (.lit (.int .i64 i))) ?_
  have hq_ := (able_q ho (by assumption)).1
  have h2 : (((mGet kLink l n.of_).getD (Sl.mk true [])).D)[i.toNat]? = some (((mGet kLink l n.of_).getD (Sl.mk true [])).D)[i.toNat]! := getE (by have := eq_of_bne_false h1; omega)
  refine rvc_un (rexec_idxS C rfl rfl rfl rfl rfl rfl ((((mGet kLink l n.of_).getD (Sl.mk true [])).D)[i.toNat]!) (by have := eq_of_bne_false h1; omega) h2 ?_)
  refine rvP C (sS (some (((mGet kLink l n.of_).getD (Sl.mk true [])).D)[i.toNat]!.nil) (eI .u8) ((((mGet kLink l n.of_).getD (Sl.mk true [])).D)[i.toNat]!.D)) ?_
  refine rvc_un (rexec_call hP C rfl rfl rfl (cloneBytes_calls ((((mGet kLink l n.of_).getD (Sl.mk true [])).D)[i.toNat]!) (Nat.le_trans (okN.msg ho l _) (by decide))) ?_)
  refine rvP C (sS (some (cloneBytes ((((mGet kLink l n.of_).getD (Sl.mk true [])).D)[i.toNat]!)).nil) (eI .u8) ((cloneBytes ((((mGet kLink l n.of_).getD (Sl.mk true [])).D)[i.toNat]!)).D)) ?_
  refine rvP C (.pv (.lit (.int .i64 0))) ?_
  refine rvc_nil ?_
  refine Awp.ret ?_
  subst hR
  exact ⟨.inl rfl, rfl, rfl, ⟨rfl, trivial⟩⟩
def nCut (n : Net) (l : Link) (i : Int) : Net × (Sl Int) :=
  (bif (((List.eraseIdx (((mGet kLink l n.of_).getD (Sl.mk true [])).D) (i).toNat).length : Int) == 0) then ((Net.mk (mDel kLink l n.of_) n.side n.lost n.made), (((mGet kLink l n.of_).getD (Sl.mk true [])).D)[i.toNat]!) else ((Net.mk (mSet kLink l (Sl.mk false (List.eraseIdx (((mGet kLink l n.of_).getD (Sl.mk true [])).D) (i).toNat)) n.of_) n.side n.lost n.made), (((mGet kLink l n.of_).getD (Sl.mk true [])).D)[i.toNat]!))
theorem nCut_calls (n : Net) (l : Link) (i : Int) (ho : okN n) (hi : 0 ≤ i ∧ i < ((((mGet kLink l n.of_).getD (Sl.mk true [])).D).length : Int)) (hn : ((mGet kLink l n.of_).getD (Sl.mk true [])).nil = false) : ObjCalls Try.prog 48 [.ptr 0 0, .agg [.pv (.lit (.int .i64 l.from_)), .pv (.lit (.int .i64 l.to))], .pv (.lit (.int .i64 i))] [.mp 1, .pv (.lit (.int .u64 n.side)), .pv (.lit (.int .i64 n.lost)), .pv (.lit (.bool n.made))] [(1, mapE kLink vT77.enc n.of_)] (sS (some (nCut n l i).2.nil) (eI .u8) ((nCut n l i).2.D)) [.mp 1, .pv (.lit (.int .u64 ((nCut n l i).1.side))), .pv (.lit (.int .i64 ((nCut n l i).1.lost))), .pv (.lit (.bool ((nCut n l i).1.made)))] [(1, mapE kLink vT77.enc ((nCut n l i).1.of_))] := by
 generalize hR : nCut n l i = R
 refine ObjCalls.of_body tabOk Try.func48 rfl rfl rfl rfl rfl (allB_cons (mapE_within _ _) allB_nil) (of_decide_eq_true rfl) rfl rfl (allB_cons (mapE_within _ _) allB_nil) (of_decide_eq_true rfl) mixed fun E hP C hI => ?_
 refine Awp.consP C ?_
 refine rvc_un (rexec_prim C (δ := { v := .ptr 4 0, new := [(4, .cells [.pv (.lit (.int .i64 l.from_)), .pv (.lit (.int .i64 l.to))])] }) rfl rfl rfl rfl trivial rfl ?_)
 refine rvP C (sS (some true) (eI .u8) []) ?_
 refine rvc_nil ?_
 refine Awp.consP C ?_
 refine rvP C (.ptr 0 0) ?_
 refine rvP C (.ptr 0 0) ?_
 refine rvP C (.ptr 0 0) ?_
 refine rvP C (.mp 1) ?_
 refine rvP C (.agg [.pv (.lit (.int .i64 l.from_)), .pv (.lit (.int .i64 l.to))]) ?_
 refine rvc_un (rexec_lookup hP C rfl l (Sl.mk true []) rfl rfl rfl rfl rfl rfl kLink_ok rfl (sS (some ((mGet kLink l n.of_).getD (Sl.mk true [])).nil) (eSl (eI .u8)) (((mGet kLink l n.of_).getD (Sl.mk true [])).D)) rfl ?_)
 refine rvP C (sS (some ((mGet kLink l n.of_).getD (Sl.mk true [])).nil) (eSl (eI .u8)) (((mGet kLink l n.of_).getD (Sl.mk true [])).D)) ?_
 refine rvc_nil ?_
 refine Awp.consP C ?_
 refine rvP C (sS (some ((mGet kLink l n.of_).getD (Sl.mk true [])).nil) (eSl (eI .u8)) (((mGet kLink l n.of_).getD (Sl.mk true [])).D)) ?_
 refine rvP C (.pv (.lit (.int .i64 i))) ?_
 have h1 : (((mGet kLink l n.of_).getD (Sl.mk true [])).D)[i.toNat]? = some (((mGet kLink l n.of_).getD (Sl.mk true [])).D)[i.toNat]! := getE (by omega)
 refine rvc_un (rexec_idxS C rfl rfl rfl rfl rfl rfl ((((mGet kLink l n.of_).getD (Sl.mk true [])).D)[i.toNat]!) (by omega) h1 ?_)
 refine rvP C (sS (some (((mGet kLink l n.of_).getD (Sl.mk true [])).D)[i.toNat]!.nil) (eI .u8) ((((mGet kLink l n.of_).getD (Sl.mk true [])).D)[i.toNat]!.D)) ?_
 refine rvP C (sS (some (((mGet kLink l n.of_).getD (Sl.mk true [])).D)[i.toNat]!.nil) (eI .u8) ((((mGet kLink l n.of_).getD (Sl.mk true [])).D)[i.toNat]!.D)) ?_
 refine rvc_nil ?_
 refine Awp.seq ?_
 refine Awp.cons C (fun _ => .writer) (by kernel_rfl) ?_
 refine rvP C (sS (some ((mGet kLink l n.of_).getD (Sl.mk true [])).nil) (eSl (eI .u8)) (((mGet kLink l n.of_).getD (Sl.mk true [])).D)) ?_
 have hql_ := (ho.q l).2.1
 unfold qOf at hql_
 refine rvc_un (rexec_callO hP C rfl rfl rfl rfl (cloneQO_calls ((mGet kLink l n.of_).getD (Sl.mk true [])) hn (by omega)) ?_)
 refine rvP C (.pv (.lit (.int .i64 i))) ?_
 refine rvP C (.pv (.lit (.int .i64 i))) ?_
 refine rvP C (.pv (.lit (.int .i64 (IntKind.i64.wrap (i + 1))))) ?_
 refine rvc_un (rexec_callX hP C (b := 20) rfl rfl rfl (delQ_calls (((mGet kLink l n.of_).getD (Sl.mk true [])).D) i (IntKind.i64.wrap (i + 1)) hi (wrap_i64 (by omega) (by have := (ho.q l).2.1; unfold qOf at this; omega)) (by have := (ho.q l).2.1; unfold qOf at this; omega)) rfl rfl ?_)
 refine rvP C (sS (some false) (eSl (eI .u8)) (List.eraseIdx (((mGet kLink l n.of_).getD (Sl.mk true [])).D) (i).toNat)) ?_
 refine rvc_nil ?_
 refine Awp.consP C ?_
 refine rvP C (sS (some false) (eSl (eI .u8)) (List.eraseIdx (((mGet kLink l n.of_).getD (Sl.mk true [])).D) (i).toNat)) ?_
 refine rvP C (.pv (.lit (.int .i64 ((List.eraseIdx (((mGet kLink l n.of_).getD (Sl.mk true [])).D) (i).toNat).length : Int)))) ?_
 refine rvP C (.pv (.lit (.bool (((List.eraseIdx (((mGet kLink l n.of_).getD (Sl.mk true [])).D) (i).toNat).length : Int) == 0)))) ?_
 refine rvc_nil ?_
 refine Awp.cond (b := (((List.eraseIdx (((mGet kLink l n.of_).getD (Sl.mk true [])).D) (i).toNat).length : Int) == 0)) rfl (fun h2 => ?_) (fun h2 => ?_)
 ·
  replace hR := of_true h2 hR
  refine Awp.regionP C ?_
  refine rvP C (.ptr 0 0) ?_
  refine rvP C (.ptr 0 0) ?_
  refine rvP C (.ptr 0 0) ?_
  refine rvP C (.mp 1) ?_
  refine rvP C (.agg [.pv (.lit (.int .i64 l.from_)), .pv (.lit (.int .i64 l.to))]) ?_
  refine rvc_un (rexec_delete hP C rfl rfl rfl l rfl rfl rfl rfl kLink_ok ?_)
  refine rvc_nil ?_
  refine Awp.consP C ?_
  refine rvP C (sS (some (((mGet kLink l n.of_).getD (Sl.mk true [])).D)[i.toNat]!.nil) (eI .u8) ((((mGet kLink l n.of_).getD (Sl.mk true [])).D)[i.toNat]!.D)) ?_
  refine rvP C (sS (some (((mGet kLink l n.of_).getD (Sl.mk true [])).D)[i.toNat]!.nil) (eI .u8) ((((mGet kLink l n.of_).getD (Sl.mk true [])).D)[i.toNat]!.D)) ?_
  refine rvc_nil ?_
  refine Awp.ret ?_
  subst hR
  exact ⟨.inl rfl, rfl, rfl, ⟨rfl, trivial⟩⟩
 ·
  replace hR := of_false h2 hR
  refine Awp.regionP C ?_
  refine rvP C (.ptr 0 0) ?_
  refine rvP C (.ptr 0 0) ?_
  refine rvP C (.ptr 0 0) ?_
  refine rvP C (.mp 1) ?_
  refine rvP C (.agg [.pv (.lit (.int .i64 l.from_)), .pv (.lit (.int .i64 l.to))]) ?_
  refine rvP C (sS (some false) (eSl (eI .u8)) (List.eraseIdx (((mGet kLink l n.of_).getD (Sl.mk true [])).D) (i).toNat)) ?_
  refine rvc_un (rexec_mapUpdate hP C l (Sl.mk false (List.eraseIdx (((mGet kLink l n.of_).getD (Sl.mk true [])).D) (i).toNat)) rfl rfl rfl rfl rfl rfl kLink_ok ?_)
  refine rvc_nil ?_
  refine Awp.consP C ?_
  refine rvP C (sS (some (((mGet kLink l n.of_).getD (Sl.mk true [])).D)[i.toNat]!.nil) (eI .u8) ((((mGet kLink l n.of_).getD (Sl.mk true [])).D)[i.toNat]!.D)) ?_
  refine rvP C (sS (some (((mGet kLink l n.of_).getD (Sl.mk true [])).D)[i.toNat]!.nil) (eI .u8) ((((mGet kLink l n.of_).getD (Sl.mk true [])).D)[i.toNat]!.D)) ?_
  refine rvc_nil ?_
  refine Awp.ret ?_
  subst hR
  exact ⟨.inl rfl, rfl, rfl, ⟨rfl, trivial⟩⟩
theorem mSet_all {κ β : Type} {KE : KEnc κ} {P : β → Prop} {k : κ} {x : β} (hx : P x) : ∀ {D : List (κ × β)}, (∀ e ∈ D, P e.2) → ∀ e ∈ mSet KE k x D, P e.2
  | [], _, e, he => by simp only [mSet, List.mem_singleton] at he; rw [he]; exact hx
  | y :: D, h, e, he => by
    unfold mSet at he
    split at he
    · rcases List.mem_cons.1 he with rfl | he
      · exact hx
      · exact h e (List.mem_cons_of_mem _ he)
    · rcases List.mem_cons.1 he with rfl | he
      · exact h _ (List.mem_cons_self ..)
      · exact mSet_all hx (fun e he => h e (List.mem_cons_of_mem _ he)) e he
theorem okN.set {n : Net} (h : okN n) (l : Link) {q : Que} (hq : okQ q) (s o : Int) (m : Bool) : okN (Net.mk (mSet kLink l q n.of_) s o m) := ⟨mSet_once h.1, mSet_all hq h.2⟩
theorem okN.del {n : Net} (h : okN n) (l : Link) (s o : Int) (m : Bool) : okN (Net.mk (mDel kLink l n.of_) s o m) := ⟨mDel_once h.1, fun e he => h.2 e ((mDel_sub _).subset he)⟩
theorem okN.same {n : Net} (h : okN n) (s o : Int) (m : Bool) : okN (Net.mk n.of_ s o m) := h
theorem okB_clone {b : Sl Int} (h : b.D.length ≤ 8192) : okB (cloneBytes b) := by
  unfold cloneBytes
  cases b.nil
  · exact ⟨fun h => (by cases h), h⟩
  · exact ⟨fun _ => rfl, Nat.zero_le _⟩
theorem okQ_more {q : Que} (h : okQ q) (hl : q.D.length < 8) {x : Sl Int} (hx : okB x) : okQ (Sl.mk false (q.D ++ [x])) :=
  ⟨fun h => (by cases h), by show (q.D ++ [x]).length ≤ 8; rw [List.length_append, List.length_singleton]; omega, fun y hy => by
    rcases List.mem_append.1 hy with hy | hy
    · exact h.2.2 y hy
    · rw [List.mem_singleton.1 hy]; exact hx⟩
theorem send_ok {n : Net} (h : okN n) (l : Link) (b : Sl Int) : okN (nSend n l b).1 := by
  have hq := h.q l
  unfold nSend
  cases h1 : nDead n
  case true => exact h
  rw [cond_false]
  cases h2 : !(fitsL l)
  case true => exact h
  rw [cond_false]
  cases h3 : decide ((b.D.length : Int) > 8192)
  case true => exact h
  have h3 := of_decide_eq_false h3
  rw [cond_false]
  cases h4 : decide (((((mGet kLink l n.of_).getD (Sl.mk true [])).D).length : Int) ≥ 8)
  case true => exact h
  have h4 := of_decide_eq_false h4
  have hb : okB (cloneBytes b) := okB_clone (by omega)
  rw [cond_false]
  cases h5 : ((mGet kLink l n.of_).getD (Sl.mk true [])).nil
  · exact h.set l (okQ_more hq (by unfold qOf; omega) hb) _ _ _
  · exact h.set l ⟨fun h => (by cases h), Nat.le_of_ble_eq_true rfl, fun x hx => by rw [List.mem_singleton.1 hx]; exact hb⟩ _ _ _
theorem double_ok {n : Net} (h : okN n) (l : Link) (i : Int) : okN (nDouble n l i).1 := by
  have hq := h.q l
  unfold nDouble
  cases h1 : able n l i != 0
  case true => exact h
  rw [cond_false]
  have ha := able_q h h1
  cases h4 : decide (((((mGet kLink l n.of_).getD (Sl.mk true [])).D).length : Int) ≥ 8)
  case true => exact h
  have h4 := of_decide_eq_false h4
  rw [cond_false]
  refine h.set l (okQ_more hq (by unfold qOf; omega) (hq.2.2 _ ?_)) _ _ _
  unfold qOf
  rw [getElem!_pos _ i.toNat (by omega)]
  exact List.getElem_mem _
theorem cut_ok {n : Net} (h : okN n) (l : Link) (i : Int) : okN (nCut n l i).1 := by
  have hq := h.q l
  unfold nCut
  cases h1 : ((List.eraseIdx (((mGet kLink l n.of_).getD (Sl.mk true [])).D) (i).toNat).length : Int) == 0
  · exact h.set l ⟨fun h => (by cases h), Nat.le_trans (List.length_eraseIdx_le _ _) hq.2.1, fun x hx => hq.2.2 x ((List.eraseIdx_sublist _ _).subset hx)⟩ _ _ _
  · exact h.del l _ _ _
theorem cut_len {n : Net} (h : okN n) (l : Link) (i : Int) : (nCut n l i).2.D.length ≤ 1000000 := by
  unfold nCut
  cases ((List.eraseIdx (((mGet kLink l n.of_).getD (Sl.mk true [])).D) (i).toNat).length : Int) == 0
  · exact Nat.le_trans (h.msg l _) (by decide)
  · exact Nat.le_trans (h.msg l _) (by decide)
def keepF (place : Int) (l : Link) : Bool := !(l.from_ == place || l.to == place)
def nForget (n : Net) (place : Int) : Net × Int := bif nDead n then (n, 6) else (Net.mk (n.of_.filter fun e => keepF place e.1) n.side n.lost n.made, 0)
theorem forget_ok {n : Net} (h : okN n) (p : Int) : okN (nForget n p).1 := by
  unfold nForget
  cases nDead n
  · exact ⟨List.Sublist.nodup ((List.filter_sublist).map _) h.1, fun e he => h.2 e (List.mem_filter.1 he).1⟩
  · exact h
theorem perm_filter {α γ : Type} {D : List α} {X : List (α × γ)} (h : D.Perm (X.map (·.1))) (p : α → Bool) : (D.filter p).Perm ((X.filter fun e => p e.1).map (·.1)) := by
  have := h.filter p
  rwa [List.filter_map] at this
theorem nForget_calls (n : Net) (place : Int) : ObjCalls Try.prog 34 [.ptr 0 0, .pv (.lit (.int .i64 place))] [.mp 1, .pv (.lit (.int .u64 n.side)), .pv (.lit (.int .i64 n.lost)), .pv (.lit (.bool n.made))] [(1, mapE kLink vT77.enc n.of_)] (.pv (.lit (.int .i64 ((nForget n place).2)))) [.mp 1, .pv (.lit (.int .u64 ((nForget n place).1.side))), .pv (.lit (.int .i64 ((nForget n place).1.lost))), .pv (.lit (.bool ((nForget n place).1.made)))] [(1, mapE kLink vT77.enc ((nForget n place).1.of_))] := by
 generalize hR : nForget n place = R
 refine ObjCalls.of_body tabOk Try.func34 rfl rfl rfl rfl rfl (allB_cons (mapE_within _ _) allB_nil) (of_decide_eq_true rfl) rfl rfl (allB_cons (mapE_within _ _) allB_nil) (of_decide_eq_true rfl) mixed fun E hP C hI => ?_
 refine Awp.consP C ?_
 refine rvc_prim C rfl rfl rfl rfl trivial rfl ?_
 refine rvc_nil ?_
 refine Awp.seq ?_
 refine Awp.cons C (fun _ => .writer) (by kernel_rfl) ?_
 refine rvc_prim C rfl rfl rfl rfl trivial rfl ?_
 refine rvc_un (rexec_callObj hP C (fun b => bif b == 0 then 0 else bif b == 1 then 1 else b) [] rfl rfl rfl (nDead_calls n) rfl rfl ⟨rfl, trivial⟩ (of_decide_eq_true rfl) rfl (of_decide_eq_true rfl) (of_decide_eq_true rfl) allB_nil allB_nil (allB_cons rfl allB_nil) ?_ rfl (allB_cons rfl allB_nil))
 refine rvc_nil ?_
 unfold nForget at hR
 refine Awp.cond (b := (nDead n)) rfl (fun h1 => ?_) (fun h1 => ?_)
 ·
  replace hR := of_true h1 hR
  refine Awp.consP C ?_
  refine rvc_prim C rfl rfl rfl rfl trivial rfl ?_
  refine rvc_nil ?_
  refine Awp.ret ?_
  subst hR
  exact ⟨.inl rfl, rfl, rfl, ⟨rfl, trivial⟩⟩
 ·
  replace hR := of_false h1 hR
  refine Awp.skip ?_
  refine Awp.openMap (KE := kLink) (VE := vT77) (b := 1) (D := n.of_) rfl (fun X q hp ho hn hl => ?_)
  refine Awp.seq ?_
  refine Awp.cons C (fun _ => .quiet) (by kernel_rfl) ?_
  refine rvc_prim C rfl rfl rfl rfl trivial rfl ?_
  refine rvc_prim C rfl rfl rfl rfl trivial rfl ?_
  refine rvc_prim C rfl rfl rfl rfl trivial rfl ?_
  refine rvc_prim C rfl rfl rfl rfl trivial rfl ?_
  refine rvc_un (rexec_rangeX (KE := kLink) (VE := vT77) (b := 1) (X := X) (q := q) C rfl rfl rfl rfl rfl rfl ?_)
  refine rvc_nil ?_
  refine Awp.block ?_
  refine Awp.forM (σ := List Nat) (fun _ => [(0, .ptr 0 0), (1, .pv (.lit (.int .i64 place))), (12, .ptr 12 0)]) (fun s => [(0, .cells [.mp 1, .pv (.lit (.int .u64 n.side)), .pv (.lit (.int .i64 n.lost)), .pv (.lit (.bool n.made))]), (1, mapX kLink vT77.enc (leftX (keepF place) s X) q), (12, .iter 1 q s q)]) [0, 1, 12] (fun m s => m = restX s X) (restX [] X) [] rfl
   ⟨fun b => b, WeakerR.ofLI (Ks := [0, 1, 12]) hI ⟨⟨rfl, rfl⟩, ⟨rfl, rfl⟩, ⟨rfl, rfl⟩, trivial⟩ (okH_cons rfl rfl rfl rfl (okH_mapx leftX_nil.symm rfl rfl rfl (okH_iter rfl rfl rfl rfl okH_nil))) rfl rfl⟩ (fun m s hm => ?_)
  subst hm
  refine Awp.seq ?_
  refine Awp.next (KE := kLink) (ve := vT77.enc) C (fun _ => .writer) (X := leftX (keepF place) s X) rfl rfl rfl rfl (fun e he => hl e (leftX_sub.subset he)) (Nat.le_refl _) (fun hall => ?_) (fun e he hs => ?_)
  ·
   refine rvc_prim C rfl rfl rfl rfl trivial rfl ?_
   refine rvc_nil ?_
   refine Awp.seq ?_
   refine Awp.condF (b := false) rfl rfl ?_
   refine Awp.exit ?_
   refine Awp.closeMap (KE := kLink) (VE := vT77) (b := 1) (X := leftX (keepF place) s X) rfl (n.of_.filter fun e => keepF place e.1) (by rw [leftX_all hall]; exact perm_filter hp _) ?_
   refine Awp.consP C ?_
   refine rvc_prim C rfl rfl rfl rfl trivial rfl ?_
   refine rvc_nil ?_
   refine Awp.ret ?_
   subst hR
   exact ⟨.inl rfl, rfl, rfl, ⟨rfl, trivial⟩⟩
  ·
   refine rvc_prim C rfl rfl rfl rfl trivial rfl ?_
   refine rvc_nil ?_
   refine Awp.seq ?_
   refine Awp.condT (b := true) rfl rfl ?_
   refine Awp.skip ?_
   refine Awp.block ?_
   refine Awp.cons C (fun _ => .quiet) (by kernel_rfl) ?_
   refine rvc_un (rexec_entryX (KE := kLink) (VE := vT77) C rfl e he rfl rfl rfl ?_)
   refine rvc_prim C rfl rfl rfl rfl trivial rfl ?_
   refine rvc_prim C rfl rfl rfl rfl trivial rfl ?_
   refine rvc_prim C rfl rfl rfl rfl trivial rfl ?_
   refine rvc_nil ?_
   refine Awp.consP C ?_
   refine rvc_prim C rfl rfl rfl rfl trivial rfl ?_
   refine rvc_prim C rfl rfl rfl rfl trivial rfl ?_
   refine rvc_prim C rfl rfl rfl rfl trivial rfl ?_
   refine rvc_prim C rfl rfl rfl rfl trivial rfl ?_
   refine rvc_prim C rfl rfl rfl rfl trivial rfl ?_
   refine rvc_case 21 (e.1.1.from_ == place) rfl (fun h2 => ?_) (fun h2 => ?_)
   ·
    refine rvS ?_
    refine rvS ?_
    refine rvS ?_
    refine rvS ?_
    refine rvc_prim C rfl rfl rfl rfl trivial rfl ?_
    refine rvc_nil ?_
    refine Awp.condT (b := true) rfl rfl ?_
    refine Awp.region C (fun o => match o.dst with | some 30 => .reads [0] | some 31 => .reads [5] | none => .writer | _ => .pure) (by kernel_rfl) ?_
    refine rvc_prim C rfl rfl rfl rfl trivial rfl ?_
    refine rvc_prim C rfl rfl rfl rfl trivial rfl ?_
    refine rvc_prim C rfl rfl rfl rfl trivial rfl ?_
    refine rvc_prim C rfl rfl rfl rfl trivial rfl ?_
    refine rvc_prim C rfl rfl rfl rfl trivial rfl ?_
    refine rvc_un (rexec_deleteX (KE := kLink) (VE := vT77) hP C rfl rfl rfl e.1.1 rfl rfl rfl rfl kLink_ok ?_)
    refine rvc_nil ?_
    exact ⟨_, s ++ [e.2], restX_lt (leftX_sub.subset he) hs, rfl, fun b => b, WeakerR.ofLI (Ks := [0, 1, 12]) hI ⟨⟨rfl, rfl⟩, ⟨rfl, rfl⟩, ⟨rfl, rfl⟩, trivial⟩ (okH_cons rfl rfl rfl rfl (okH_mapx (leftX_drop ho hn (leftX_sub.subset he) hs (by unfold keepF; rw [h2]; rfl)) rfl rfl rfl (okH_iter rfl rfl rfl rfl okH_nil))) rfl rfl⟩
   ·
    refine rvc_open rfl rfl rfl (rexec_prim C rfl rfl rfl rfl trivial rfl ?_)
    refine rvc_open rfl rfl rfl (rexec_prim C rfl rfl rfl rfl trivial rfl ?_)
    refine rvc_open rfl rfl rfl (rexec_prim C rfl rfl rfl rfl trivial rfl ?_)
    refine rvc_open rfl rfl rfl (rexec_prim C rfl rfl rfl rfl trivial rfl ?_)
    refine rvc_prim C rfl rfl rfl rfl trivial rfl ?_
    refine rvc_nil ?_
    refine Awp.cond (b := (e.1.1.to == place)) rfl (fun h3 => ?_) (fun h3 => ?_)
    ·
     refine Awp.region C (fun o => match o.dst with | some 30 => .reads [0] | some 31 => .reads [5] | none => .writer | _ => .pure) (by kernel_rfl) ?_
     refine rvc_prim C rfl rfl rfl rfl trivial rfl ?_
     refine rvc_prim C rfl rfl rfl rfl trivial rfl ?_
     refine rvc_prim C rfl rfl rfl rfl trivial rfl ?_
     refine rvc_prim C rfl rfl rfl rfl trivial rfl ?_
     refine rvc_prim C rfl rfl rfl rfl trivial rfl ?_
     refine rvc_un (rexec_deleteX (KE := kLink) (VE := vT77) hP C rfl rfl rfl e.1.1 rfl rfl rfl rfl kLink_ok ?_)
     refine rvc_nil ?_
     exact ⟨_, s ++ [e.2], restX_lt (leftX_sub.subset he) hs, rfl, fun b => b, WeakerR.ofLI (Ks := [0, 1, 12]) hI ⟨⟨rfl, rfl⟩, ⟨rfl, rfl⟩, ⟨rfl, rfl⟩, trivial⟩ (okH_cons rfl rfl rfl rfl (okH_mapx (leftX_drop ho hn (leftX_sub.subset he) hs (by unfold keepF; rw [h2, h3]; rfl)) rfl rfl rfl (okH_iter rfl rfl rfl rfl okH_nil))) rfl rfl⟩
    ·
     refine Awp.skip ?_
     exact ⟨_, s ++ [e.2], restX_lt (leftX_sub.subset he) hs, rfl, fun b => b, WeakerR.ofLI (Ks := [0, 1, 12]) hI ⟨⟨rfl, rfl⟩, ⟨rfl, rfl⟩, ⟨rfl, rfl⟩, trivial⟩ (okH_cons rfl rfl rfl rfl (okH_mapx (leftX_keep hn (leftX_sub.subset he) (by unfold keepF; rw [h2, h3]; rfl)).symm rfl rfl rfl (okH_iter rfl rfl rfl rfl okH_nil))) rfl rfl⟩
def nTake (n : Net) (l : Link) (i : Int) : Net × (Sl Int) × Bool × Int :=
  (bif ((able n l i) != 0) then (n, (Sl.mk true []), false, (able n l i)) else (bif (!((mHas ((nCut n l i).1.side) l.from_) == (mHas ((nCut n l i).1.side) l.to))) then ((nCut n l i).1, (Sl.mk true []), false, 0) else ((nCut n l i).1, (cloneBytes ((nCut n l i).2)), true, 0)))
theorem nTake_calls (n : Net) (l : Link) (i : Int) (ho : okN n) : ObjCalls Try.prog 29 [.ptr 0 0, .agg [.pv (.lit (.int .i64 l.from_)), .pv (.lit (.int .i64 l.to))], .pv (.lit (.int .i64 i))] [.mp 1, .pv (.lit (.int .u64 n.side)), .pv (.lit (.int .i64 n.lost)), .pv (.lit (.bool n.made))] [(1, mapE kLink vT77.enc n.of_)] (.tup [sS (some (nTake n l i).2.1.nil) (eI .u8) ((nTake n l i).2.1.D), .pv (.lit (.bool ((nTake n l i).2.2.1))), .pv (.lit (.int .i64 ((nTake n l i).2.2.2)))]) [.mp 1, .pv (.lit (.int .u64 ((nTake n l i).1.side))), .pv (.lit (.int .i64 ((nTake n l i).1.lost))), .pv (.lit (.bool ((nTake n l i).1.made)))] [(1, mapE kLink vT77.enc ((nTake n l i).1.of_))] := by
 generalize hR : nTake n l i = R
 refine ObjCalls.of_body tabOk Try.func29 rfl rfl rfl rfl rfl (allB_cons (mapE_within _ _) allB_nil) (of_decide_eq_true rfl) rfl rfl (allB_cons (mapE_within _ _) allB_nil) (of_decide_eq_true rfl) mixed fun E hP C hI => ?_
 refine Awp.consP C ?_
 refine rvc_un (rexec_prim C (δ := { v := .ptr 4 0, new := [(4, .cells [.pv (.lit (.int .i64 l.from_)), .pv (.lit (.int .i64 l.to))])] }) rfl rfl rfl rfl trivial rfl ?_)
 refine rvP C (sS (some true) (eI .u8) []) ?_
 refine rvP C (.pv (.lit (.bool false))) ?_
 refine rvP C (.pv (.lit (.int .i64 0))) ?_
 refine rvc_nil ?_
 refine Awp.seq ?_
 refine Awp.cons C (fun _ => .writer) (by kernel_rfl) ?_
 refine rvP C (.ptr 0 0) ?_
 refine rvP C (.agg [.pv (.lit (.int .i64 l.from_)), .pv (.lit (.int .i64 l.to))]) ?_
 refine rvP C (.pv (.lit (.int .i64 i))) ?_
 refine rvc_un (rexec_callObj hP C (fun b => bif b == 0 then 0 else bif b == 1 then 1 else b) [] rfl rfl rfl (able_calls n l i) rfl rfl ⟨rfl, trivial⟩ (of_decide_eq_true rfl) rfl (of_decide_eq_true rfl) (of_decide_eq_true rfl) allB_nil allB_nil (allB_cons rfl allB_nil) ?_ rfl (allB_cons rfl allB_nil))
 refine rvP C (.pv (.lit (.int .i64 (able n l i)))) ?_
 refine rvc_nil ?_
 refine Awp.consP C ?_
 refine rvP C (.pv (.lit (.int .i64 (able n l i)))) ?_
 refine rvP C (.pv (.lit (.bool ((able n l i) != 0)))) ?_
 refine rvc_nil ?_
 refine Awp.cond (b := ((able n l i) != 0)) rfl (fun h1 => ?_) (fun h1 => ?_)
 ·
  replace hR := of_true h1 hR
  refine Awp.consP C ?_
  refine rvP C (.pv (.lit (.int .i64 (able n l i)))) ?_
  refine rvP C (sS (some true) (eI .u8) []) ?_
  refine rvP C (.pv (.lit (.bool false))) ?_
  refine rvP C (.pv (.lit (.int .i64 (able n l i)))) ?_
  refine rvc_nil ?_
  refine Awp.ret ?_
  subst hR
  exact ⟨.inl rfl, rfl, rfl, ⟨rfl, trivial⟩⟩
 ·
  replace hR := of_false h1 hR
  refine Awp.skip ?_
  refine Awp.cons C (fun _ => .writer) (by kernel_rfl) ?_
  refine rvP C (.ptr 0 0) ?_
  refine rvP C (.agg [.pv (.lit (.int .i64 l.from_)), .pv (.lit (.int .i64 l.to))]) ?_
  refine rvP C (.pv (.lit (.int .i64 i))) ?_
  refine rvc_un (rexec_callObj hP C (fun b => bif b == 0 then 0 else bif b == 1 then 1 else b) [] rfl rfl rfl (nCut_calls n l i ho (able_q ho (by assumption)).1 (able_q ho (by assumption)).2) rfl rfl ⟨rfl, trivial⟩ (of_decide_eq_true rfl) rfl (of_decide_eq_true rfl) (of_decide_eq_true rfl) allB_nil allB_nil (allB_cons rfl allB_nil) ?_ rfl (allB_cons rfl allB_nil))
  refine rvP C (sS (some (nCut n l i).2.nil) (eI .u8) ((nCut n l i).2.D)) ?_
  refine rvc_nil ?_
  refine Awp.seq ?_
  refine Awp.consP C ?_
  refine rvP C (.ptr 0 0) ?_
  refine rvP C (.ptr 0 0) ?_
  refine rvP C (.ptr 0 1) ?_
  refine rvP C (.pv (.lit (.int .u64 ((nCut n l i).1.side)))) ?_
  refine rvP C (.ptr 4 0) ?_
  refine rvP C (.pv (.lit (.int .i64 l.from_))) ?_
  refine rvc_un (rexec_call hP C rfl rfl rfl (mHas_calls ((nCut n l i).1.side) l.from_) ?_)
  refine rvP C (.ptr 0 0) ?_
  refine rvP C (.ptr 0 0) ?_
  refine rvP C (.ptr 0 1) ?_
  refine rvP C (.pv (.lit (.int .u64 ((nCut n l i).1.side)))) ?_
  refine rvP C (.ptr 4 1) ?_
  refine rvP C (.pv (.lit (.int .i64 l.to))) ?_
  refine rvc_un (rexec_call hP C rfl rfl rfl (mHas_calls ((nCut n l i).1.side) l.to) ?_)
  refine rvP C (.pv (.lit (.bool (!((mHas ((nCut n l i).1.side) l.from_) == (mHas ((nCut n l i).1.side) l.to)))))) ?_
  refine rvc_nil ?_
  refine Awp.cond (b := (!((mHas ((nCut n l i).1.side) l.from_) == (mHas ((nCut n l i).1.side) l.to)))) rfl (fun h2 => ?_) (fun h2 => ?_)
  ·
   replace hR := of_true h2 hR
   refine Awp.consP C ?_
   refine rvP C (sS (some true) (eI .u8) []) ?_
   refine rvP C (.pv (.lit (.bool false))) ?_
   refine rvP C (.pv (.lit (.int .i64 0))) ?_
   refine rvc_nil ?_
   refine Awp.ret ?_
   subst hR
   exact ⟨.inl rfl, rfl, rfl, ⟨rfl, trivial⟩⟩
  ·
   replace hR := of_false h2 hR
   refine Awp.skip ?_
   refine Awp.consP C ?_
   refine rvP C (sS (some (nCut n l i).2.nil) (eI .u8) ((nCut n l i).2.D)) ?_
   refine rvc_un (rexec_call hP C rfl rfl rfl (cloneBytes_calls ((nCut n l i).2) (cut_len ho l i)) ?_)
   refine rvP C (sS (some (cloneBytes ((nCut n l i).2)).nil) (eI .u8) ((cloneBytes ((nCut n l i).2)).D)) ?_
   refine rvP C (.pv (.lit (.bool true))) ?_
   refine rvP C (.pv (.lit (.int .i64 0))) ?_
   refine rvc_nil ?_
   refine Awp.ret ?_
   subst hR
   exact ⟨.inl rfl, rfl, rfl, ⟨rfl, trivial⟩⟩
def nLose (n : Net) (l : Link) (i : Int) : Net × Int :=
  (bif ((able n l i) != 0) then (n, (able n l i)) else ((nCut n l i).1, 0))
theorem nLose_calls (n : Net) (l : Link) (i : Int) (ho : okN n) : ObjCalls Try.prog 32 [.ptr 0 0, .agg [.pv (.lit (.int .i64 l.from_)), .pv (.lit (.int .i64 l.to))], .pv (.lit (.int .i64 i))] [.mp 1, .pv (.lit (.int .u64 n.side)), .pv (.lit (.int .i64 n.lost)), .pv (.lit (.bool n.made))] [(1, mapE kLink vT77.enc n.of_)] (.pv (.lit (.int .i64 ((nLose n l i).2)))) [.mp 1, .pv (.lit (.int .u64 ((nLose n l i).1.side))), .pv (.lit (.int .i64 ((nLose n l i).1.lost))), .pv (.lit (.bool ((nLose n l i).1.made)))] [(1, mapE kLink vT77.enc ((nLose n l i).1.of_))] := by
 generalize hR : nLose n l i = R
 refine ObjCalls.of_body tabOk Try.func32 rfl rfl rfl rfl rfl (allB_cons (mapE_within _ _) allB_nil) (of_decide_eq_true rfl) rfl rfl (allB_cons (mapE_within _ _) allB_nil) (of_decide_eq_true rfl) mixed fun E hP C hI => ?_
 refine Awp.consP C ?_
 refine rvc_un (rexec_prim C (δ := { v := .ptr 4 0, new := [(4, .cells [.pv (.lit (.int .i64 l.from_)), .pv (.lit (.int .i64 l.to))])] }) rfl rfl rfl rfl trivial rfl ?_)
 refine rvP C (.pv (.lit (.int .i64 0))) ?_
 refine rvc_nil ?_
 refine Awp.seq ?_
 refine Awp.cons C (fun _ => .writer) (by kernel_rfl) ?_
 refine rvP C (.ptr 0 0) ?_
 refine rvP C (.agg [.pv (.lit (.int .i64 l.from_)), .pv (.lit (.int .i64 l.to))]) ?_
 refine rvP C (.pv (.lit (.int .i64 i))) ?_
 refine rvc_un (rexec_callObj hP C (fun b => bif b == 0 then 0 else bif b == 1 then 1 else b) [] rfl rfl rfl (able_calls n l i) rfl rfl ⟨rfl, trivial⟩ (of_decide_eq_true rfl) rfl (of_decide_eq_true rfl) (of_decide_eq_true rfl) allB_nil allB_nil (allB_cons rfl allB_nil) ?_ rfl (allB_cons rfl allB_nil))
 refine rvP C (.pv (.lit (.int .i64 (able n l i)))) ?_
 refine rvc_nil ?_
 refine Awp.consP C ?_
 refine rvP C (.pv (.lit (.int .i64 (able n l i)))) ?_
 refine rvP C (.pv (.lit (.bool ((able n l i) != 0)))) ?_
 refine rvc_nil ?_
 refine Awp.cond (b := ((able n l i) != 0)) rfl (fun h1 => ?_) (fun h1 => ?_)
 ·
  replace hR := of_true h1 hR
  refine Awp.consP C ?_
  refine rvP C (.pv (.lit (.int .i64 (able n l i)))) ?_
  refine rvP C (.pv (.lit (.int .i64 (able n l i)))) ?_
  refine rvc_nil ?_
  refine Awp.ret ?_
  subst hR
  exact ⟨.inl rfl, rfl, rfl, ⟨rfl, trivial⟩⟩
 ·
  replace hR := of_false h1 hR
  refine Awp.skip ?_
  refine Awp.cons C (fun _ => .writer) (by kernel_rfl) ?_
  refine rvP C (.ptr 0 0) ?_
  refine rvP C (.agg [.pv (.lit (.int .i64 l.from_)), .pv (.lit (.int .i64 l.to))]) ?_
  refine rvP C (.pv (.lit (.int .i64 i))) ?_
  refine rvc_un (rexec_callObj hP C (fun b => bif b == 0 then 0 else bif b == 1 then 1 else b) [] rfl rfl rfl (nCut_calls n l i ho (able_q ho (by assumption)).1 (able_q ho (by assumption)).2) rfl rfl ⟨rfl, trivial⟩ (of_decide_eq_true rfl) rfl (of_decide_eq_true rfl) (of_decide_eq_true rfl) allB_nil allB_nil (allB_cons rfl allB_nil) ?_ rfl (allB_cons rfl allB_nil))
  refine rvc_nil ?_
  refine Awp.consP C ?_
  refine rvP C (.pv (.lit (.int .i64 0))) ?_
  refine rvc_nil ?_
  refine Awp.ret ?_
  subst hR
  exact ⟨.inl rfl, rfl, rfl, ⟨rfl, trivial⟩⟩
theorem lose_ok {n : Net} (h : okN n) (l : Link) (i : Int) : okN (nLose n l i).1 := by
  unfold nLose
  cases h1 : able n l i != 0
  · exact cut_ok h l i
  · exact h
theorem take_ok {n : Net} (h : okN n) (l : Link) (i : Int) : okN (nTake n l i).1 := by
  unfold nTake
  cases h1 : able n l i != 0
  · rw [cond_false]
    cases !((mHas ((nCut n l i).1.side) l.from_) == (mHas ((nCut n l i).1.side) l.to))
    · exact cut_ok h l i
    · exact cut_ok h l i
  · exact h
theorem wall_ok {n : Net} (h : okN n) (s : Int) : okN (nWall n s).1 := by
  unfold nWall
  cases nDead n
  · exact h
  · exact h
def newN : Net := ⟨[], 0, 0, true⟩
theorem newN_ok : okN newN := ⟨List.nodup_nil, fun _ h => by cases h⟩
theorem newN_calls : NewCalls Try.prog 12 [] (.ptr 0 0) [.mp 1, .pv (.lit (.int .u64 newN.side)), .pv (.lit (.int .i64 newN.lost)), .pv (.lit (.bool newN.made))] (mapE kLink vT77.enc newN.of_) := by
 refine NewCalls.of_body tabOk Try.func12 rfl rfl rfl rfl rfl rfl (mapE_within _ _) mixed fun E hP C hI => ?_
 refine Awp.consP C ?_
 refine rvc_prim C rfl rfl rfl rfl trivial rfl ?_
 refine rvc_nil ?_
 refine Awp.cons C (fun _ => .quiet) (by kernel_rfl) ?_
 refine rvc_un (rexec_makeMap C rfl rfl kLink vT77 ?_)
 refine rvc_prim C rfl rfl rfl rfl trivial rfl ?_
 refine rvc_prim C rfl rfl rfl rfl trivial rfl ?_
 refine rvc_prim C rfl rfl rfl rfl trivial rfl ?_
 refine rvc_nil ?_
 refine Awp.weakenR (S := [(0, .ptr 0 0)]) (H := [(0, .cells [.mp 1, .pv (.lit (.int .u64 newN.side)), .pv (.lit (.int .i64 newN.lost)), .pv (.lit (.bool newN.made))]), (1, mapE kLink vT77.enc newN.of_)]) (U := [0, 1]) (fun b => bif b == 0 then 3 else b) (WeakerR.ofL (Ks := [0, 1]) hI ⟨⟨rfl, rfl⟩, trivial⟩ (okH_cons rfl rfl rfl rfl (okH_map rfl rfl rfl okH_nil)) rfl) ?_
 refine Awp.ret ?_
 exact ⟨.inl rfl, rfl, rfl, rfl⟩
theorem min85 (x : Int) (h : 0 ≤ x) : 0 ≤ (bif (decide ((16385 : Int) < x)) then (16385 : Int) else x) ∧ (bif (decide ((16385 : Int) < x)) then (16385 : Int) else x) ≤ 16385 := by
  cases e : decide ((16385 : Int) < x)
  · have := of_decide_eq_false e
    exact ⟨h, by simp only [cond_false]; omega⟩
  · exact ⟨(by decide : (0 : Int) ≤ 16385), (by decide : (16385 : Int) ≤ 16385)⟩
structure Do where
  op : Int
  i : Int
  l : Link
  b : (Sl Int)
  side : Int
  deriving Inhabited
def eDo : Enc Do := ⟨6, fun x => [.lit (.int .i64 x.op), .lit (.int .i64 x.i), .lit (.int .i64 x.l.from_), .lit (.int .i64 x.l.to), .sl (some x.b.nil) x.b.D.length (encL (eI .u8) x.b.D), .lit (.int .u64 x.side)], fun _ => rfl⟩
def does (n : Net) (k : Do) : Net × (Sl Int) × Bool × Int :=
  (bif ((IntKind.i64.wrap ((IntKind.u64.wrap k.op).tmod 9)) == 3) then ((nTake n k.l k.i).1, (nTake n k.l k.i).2.1, (nTake n k.l k.i).2.2.1, (nTake n k.l k.i).2.2.2) else (bif ((IntKind.i64.wrap ((IntKind.u64.wrap k.op).tmod 9)) == 4) then ((nTake n k.l k.i).1, (nTake n k.l k.i).2.1, (nTake n k.l k.i).2.2.1, (nTake n k.l k.i).2.2.2) else (bif ((IntKind.i64.wrap ((IntKind.u64.wrap k.op).tmod 9)) == 5) then ((nLose n k.l k.i).1, (Sl.mk true []), false, (nLose n k.l k.i).2) else (bif ((IntKind.i64.wrap ((IntKind.u64.wrap k.op).tmod 9)) == 6) then ((nDouble n k.l k.i).1, (Sl.mk true []), false, (nDouble n k.l k.i).2) else (bif ((IntKind.i64.wrap ((IntKind.u64.wrap k.op).tmod 9)) == 7) then ((nWall n k.side).1, (Sl.mk true []), false, (nWall n k.side).2) else (bif ((IntKind.i64.wrap ((IntKind.u64.wrap k.op).tmod 9)) == 8) then ((nForget n k.i).1, (Sl.mk true []), false, (nForget n k.i).2) else ((nSend n k.l k.b).1, (Sl.mk true []), false, (nSend n k.l k.b).2)))))))
theorem does_calls (n : Net) (k : Do) (ho : okN n) (hl1 : k.b.D.length ≤ 1000000) : ObjCalls Try.prog 13 [.ptr 0 0, .agg [.pv (.lit (.int .i64 k.op)), .pv (.lit (.int .i64 k.i)), .pv (.lit (.int .i64 k.l.from_)), .pv (.lit (.int .i64 k.l.to)), sS (some k.b.nil) (eI .u8) k.b.D, .pv (.lit (.int .u64 k.side))]] [.mp 1, .pv (.lit (.int .u64 n.side)), .pv (.lit (.int .i64 n.lost)), .pv (.lit (.bool n.made))] [(1, mapE kLink vT77.enc n.of_)] (.tup [sS (some (does n k).2.1.nil) (eI .u8) ((does n k).2.1.D), .pv (.lit (.bool ((does n k).2.2.1))), .pv (.lit (.int .i64 ((does n k).2.2.2)))]) [.mp 1, .pv (.lit (.int .u64 ((does n k).1.side))), .pv (.lit (.int .i64 ((does n k).1.lost))), .pv (.lit (.bool ((does n k).1.made)))] [(1, mapE kLink vT77.enc ((does n k).1.of_))] := by
 generalize hR : does n k = R
 refine ObjCalls.of_body tabOk Try.func13 rfl rfl rfl rfl rfl (allB_cons (mapE_within _ _) allB_nil) (of_decide_eq_true rfl) rfl rfl (allB_cons (mapE_within _ _) allB_nil) (of_decide_eq_true rfl) mixed fun E hP C hI => ?_
 refine Awp.consP C ?_
 refine rvc_un (rexec_prim C (δ := { v := .ptr 3 0, new := [(3, .cells [.pv (.lit (.int .i64 k.op)), .pv (.lit (.int .i64 k.i)), .pv (.lit (.int .i64 k.l.from_)), .pv (.lit (.int .i64 k.l.to)), sS (some k.b.nil) (eI .u8) k.b.D, .pv (.lit (.int .u64 k.side))])] }) rfl rfl rfl rfl trivial rfl ?_)
 refine rvP C (sS (some true) (eI .u8) []) ?_
 refine rvP C (.pv (.lit (.bool false))) ?_
 refine rvP C (.pv (.lit (.int .i64 0))) ?_
 refine rvc_nil ?_
 refine Awp.seq ?_
 refine Awp.consP C ?_
 refine rvP C (.ptr 3 0) ?_
 refine rvP C (.pv (.lit (.int .i64 k.op))) ?_
 refine rvP C (.pv (.lit (.int .u64 (IntKind.u64.wrap k.op)))) ?_
 refine rvc_un (rexec_prim C (δ := { v := .pv (.lit (.int .u64 ((IntKind.u64.wrap k.op).tmod 9))) }) rfl rfl rfl rfl (by first | decide | omega) rfl ?_)
 refine rvP C (.pv (.lit (.int .i64 (IntKind.i64.wrap ((IntKind.u64.wrap k.op).tmod 9))))) ?_
 refine rvc_nil ?_
 refine Awp.block ?_
 refine Awp.seq ?_
 refine Awp.consP C ?_
 refine rvP C (.pv (.lit (.bool ((IntKind.i64.wrap ((IntKind.u64.wrap k.op).tmod 9)) == 3)))) ?_
 refine rvP C (.pv (.lit (.bool ((IntKind.i64.wrap ((IntKind.u64.wrap k.op).tmod 9)) == 3)))) ?_
 refine rvc_nil ?_
 refine Awp.cond (b := ((IntKind.i64.wrap ((IntKind.u64.wrap k.op).tmod 9)) == 3)) rfl (fun h1 => ?_) (fun h1 => ?_)
 ·
  replace hR := of_true h1 hR
  refine Awp.skip ?_
  refine Awp.condT (b := ((IntKind.i64.wrap ((IntKind.u64.wrap k.op).tmod 9)) == 3)) rfl h1 ?_
  refine Awp.cons C (fun _ => .writer) (by kernel_rfl) ?_
  refine rvP C (.ptr 0 0) ?_
  refine rvP C (.ptr 3 2) ?_
  refine rvP C (.agg [.pv (.lit (.int .i64 k.l.from_)), .pv (.lit (.int .i64 k.l.to))]) ?_
  refine rvP C (.ptr 3 1) ?_
  refine rvP C (.pv (.lit (.int .i64 k.i))) ?_
  refine rvc_un (rexec_callObj hP C (fun b => bif b == 0 then 0 else bif b == 1 then 1 else b) [] rfl rfl rfl (nTake_calls n k.l k.i ho) rfl rfl ⟨rfl, trivial⟩ (of_decide_eq_true rfl) rfl (of_decide_eq_true rfl) (of_decide_eq_true rfl) allB_nil allB_nil (allB_cons rfl allB_nil) ?_ rfl (allB_cons rfl allB_nil))
  refine rvP C (sS (some (nTake n k.l k.i).2.1.nil) (eI .u8) ((nTake n k.l k.i).2.1.D)) ?_
  refine rvP C (.pv (.lit (.bool ((nTake n k.l k.i).2.2.1)))) ?_
  refine rvP C (.pv (.lit (.int .i64 ((nTake n k.l k.i).2.2.2)))) ?_
  refine rvP C (sS (some (nTake n k.l k.i).2.1.nil) (eI .u8) ((nTake n k.l k.i).2.1.D)) ?_
  refine rvP C (.pv (.lit (.bool ((nTake n k.l k.i).2.2.1)))) ?_
  refine rvP C (.pv (.lit (.int .i64 ((nTake n k.l k.i).2.2.2)))) ?_
  refine rvc_nil ?_
  refine Awp.ret ?_
  subst hR
  exact ⟨.inl rfl, rfl, rfl, ⟨rfl, trivial⟩⟩
 ·
  replace hR := of_false h1 hR
  refine Awp.regionP C ?_
  refine rvP C (.pv (.lit (.bool ((IntKind.i64.wrap ((IntKind.u64.wrap k.op).tmod 9)) == 4)))) ?_
  refine rvP C (.pv (.lit (.bool ((IntKind.i64.wrap ((IntKind.u64.wrap k.op).tmod 9)) == 4)))) ?_
  refine rvc_nil ?_
  refine Awp.cond (b := ((IntKind.i64.wrap ((IntKind.u64.wrap k.op).tmod 9)) == 4)) rfl (fun h2 => ?_) (fun h2 => ?_)
  ·
   replace hR := of_true h2 hR
   refine Awp.cons C (fun _ => .writer) (by kernel_rfl) ?_
   refine rvP C (.ptr 0 0) ?_
   refine rvP C (.ptr 3 2) ?_
   refine rvP C (.agg [.pv (.lit (.int .i64 k.l.from_)), .pv (.lit (.int .i64 k.l.to))]) ?_
   refine rvP C (.ptr 3 1) ?_
   refine rvP C (.pv (.lit (.int .i64 k.i))) ?_
   refine rvc_un (rexec_callObj hP C (fun b => bif b == 0 then 0 else bif b == 1 then 1 else b) [] rfl rfl rfl (nTake_calls n k.l k.i ho) rfl rfl ⟨rfl, trivial⟩ (of_decide_eq_true rfl) rfl (of_decide_eq_true rfl) (of_decide_eq_true rfl) allB_nil allB_nil (allB_cons rfl allB_nil) ?_ rfl (allB_cons rfl allB_nil))
   refine rvP C (sS (some (nTake n k.l k.i).2.1.nil) (eI .u8) ((nTake n k.l k.i).2.1.D)) ?_
   refine rvP C (.pv (.lit (.bool ((nTake n k.l k.i).2.2.1)))) ?_
   refine rvP C (.pv (.lit (.int .i64 ((nTake n k.l k.i).2.2.2)))) ?_
   refine rvP C (sS (some (nTake n k.l k.i).2.1.nil) (eI .u8) ((nTake n k.l k.i).2.1.D)) ?_
   refine rvP C (.pv (.lit (.bool ((nTake n k.l k.i).2.2.1)))) ?_
   refine rvP C (.pv (.lit (.int .i64 ((nTake n k.l k.i).2.2.2)))) ?_
   refine rvc_nil ?_
   refine Awp.ret ?_
   subst hR
   exact ⟨.inl rfl, rfl, rfl, ⟨rfl, trivial⟩⟩
  ·
   replace hR := of_false h2 hR
   refine Awp.consP C ?_
   refine rvP C (.pv (.lit (.bool ((IntKind.i64.wrap ((IntKind.u64.wrap k.op).tmod 9)) == 5)))) ?_
   refine rvP C (.pv (.lit (.bool ((IntKind.i64.wrap ((IntKind.u64.wrap k.op).tmod 9)) == 5)))) ?_
   refine rvc_nil ?_
   refine Awp.cond (b := ((IntKind.i64.wrap ((IntKind.u64.wrap k.op).tmod 9)) == 5)) rfl (fun h3 => ?_) (fun h3 => ?_)
   ·
    replace hR := of_true h3 hR
    refine Awp.cons C (fun _ => .writer) (by kernel_rfl) ?_
    refine rvP C (.ptr 0 0) ?_
    refine rvP C (.ptr 3 2) ?_
    refine rvP C (.agg [.pv (.lit (.int .i64 k.l.from_)), .pv (.lit (.int .i64 k.l.to))]) ?_
    refine rvP C (.ptr 3 1) ?_
    refine rvP C (.pv (.lit (.int .i64 k.i))) ?_
    refine rvc_un (rexec_callObj hP C (fun b => bif b == 0 then 0 else bif b == 1 then 1 else b) [] rfl rfl rfl (nLose_calls n k.l k.i ho) rfl rfl ⟨rfl, trivial⟩ (of_decide_eq_true rfl) rfl (of_decide_eq_true rfl) (of_decide_eq_true rfl) allB_nil allB_nil (allB_cons rfl allB_nil) ?_ rfl (allB_cons rfl allB_nil))
    refine rvP C (sS (some true) (eI .u8) []) ?_
    refine rvP C (.pv (.lit (.bool false))) ?_
    refine rvP C (.pv (.lit (.int .i64 ((nLose n k.l k.i).2)))) ?_
    refine rvc_nil ?_
    refine Awp.ret ?_
    subst hR
    exact ⟨.inl rfl, rfl, rfl, ⟨rfl, trivial⟩⟩
   ·
    replace hR := of_false h3 hR
    refine Awp.consP C ?_
    refine rvP C (.pv (.lit (.bool ((IntKind.i64.wrap ((IntKind.u64.wrap k.op).tmod 9)) == 6)))) ?_
    refine rvP C (.pv (.lit (.bool ((IntKind.i64.wrap ((IntKind.u64.wrap k.op).tmod 9)) == 6)))) ?_
    refine rvc_nil ?_
    refine Awp.cond (b := ((IntKind.i64.wrap ((IntKind.u64.wrap k.op).tmod 9)) == 6)) rfl (fun h4 => ?_) (fun h4 => ?_)
    ·
     replace hR := of_true h4 hR
     refine Awp.cons C (fun _ => .writer) (by kernel_rfl) ?_
     refine rvP C (.ptr 0 0) ?_
     refine rvP C (.ptr 3 2) ?_
     refine rvP C (.agg [.pv (.lit (.int .i64 k.l.from_)), .pv (.lit (.int .i64 k.l.to))]) ?_
     refine rvP C (.ptr 3 1) ?_
     refine rvP C (.pv (.lit (.int .i64 k.i))) ?_
     refine rvc_un (rexec_callObj hP C (fun b => bif b == 0 then 0 else bif b == 1 then 1 else b) [] rfl rfl rfl (nDouble_calls n k.l k.i ho) rfl rfl ⟨rfl, trivial⟩ (of_decide_eq_true rfl) rfl (of_decide_eq_true rfl) (of_decide_eq_true rfl) allB_nil allB_nil (allB_cons rfl allB_nil) ?_ rfl (allB_cons rfl allB_nil))
     refine rvP C (sS (some true) (eI .u8) []) ?_
     refine rvP C (.pv (.lit (.bool false))) ?_
     refine rvP C (.pv (.lit (.int .i64 ((nDouble n k.l k.i).2)))) ?_
     refine rvc_nil ?_
     refine Awp.ret ?_
     subst hR
     exact ⟨.inl rfl, rfl, rfl, ⟨rfl, trivial⟩⟩
    ·
     replace hR := of_false h4 hR
     refine Awp.consP C ?_
     refine rvP C (.pv (.lit (.bool ((IntKind.i64.wrap ((IntKind.u64.wrap k.op).tmod 9)) == 7)))) ?_
     refine rvP C (.pv (.lit (.bool ((IntKind.i64.wrap ((IntKind.u64.wrap k.op).tmod 9)) == 7)))) ?_
     refine rvc_nil ?_
     refine Awp.cond (b := ((IntKind.i64.wrap ((IntKind.u64.wrap k.op).tmod 9)) == 7)) rfl (fun h5 => ?_) (fun h5 => ?_)
     ·
      replace hR := of_true h5 hR
      refine Awp.cons C (fun _ => .writer) (by kernel_rfl) ?_
      refine rvP C (.ptr 0 0) ?_
      refine rvP C (.ptr 3 5) ?_
      refine rvP C (.pv (.lit (.int .u64 k.side))) ?_
      refine rvc_un (rexec_callObj hP C (fun b => bif b == 0 then 0 else bif b == 1 then 1 else b) [] rfl rfl rfl (nWall_calls n k.side) rfl rfl ⟨rfl, trivial⟩ (of_decide_eq_true rfl) rfl (of_decide_eq_true rfl) (of_decide_eq_true rfl) allB_nil allB_nil (allB_cons rfl allB_nil) ?_ rfl (allB_cons rfl allB_nil))
      refine rvP C (sS (some true) (eI .u8) []) ?_
      refine rvP C (.pv (.lit (.bool false))) ?_
      refine rvP C (.pv (.lit (.int .i64 ((nWall n k.side).2)))) ?_
      refine rvc_nil ?_
      refine Awp.ret ?_
      subst hR
      exact ⟨.inl rfl, rfl, rfl, ⟨rfl, trivial⟩⟩
     ·
      replace hR := of_false h5 hR
      refine Awp.consP C ?_
      refine rvP C (.pv (.lit (.bool ((IntKind.i64.wrap ((IntKind.u64.wrap k.op).tmod 9)) == 8)))) ?_
      refine rvP C (.pv (.lit (.bool ((IntKind.i64.wrap ((IntKind.u64.wrap k.op).tmod 9)) == 8)))) ?_
      refine rvc_nil ?_
      refine Awp.cond (b := ((IntKind.i64.wrap ((IntKind.u64.wrap k.op).tmod 9)) == 8)) rfl (fun h6 => ?_) (fun h6 => ?_)
      ·
       replace hR := of_true h6 hR
       refine Awp.cons C (fun _ => .writer) (by kernel_rfl) ?_
       refine rvP C (.ptr 0 0) ?_
       refine rvP C (.ptr 3 1) ?_
       refine rvP C (.pv (.lit (.int .i64 k.i))) ?_
       refine rvc_un (rexec_callObj hP C (fun b => bif b == 0 then 0 else bif b == 1 then 1 else b) [] rfl rfl rfl (nForget_calls n k.i) rfl rfl ⟨rfl, trivial⟩ (of_decide_eq_true rfl) rfl (of_decide_eq_true rfl) (of_decide_eq_true rfl) allB_nil allB_nil (allB_cons rfl allB_nil) ?_ rfl (allB_cons rfl allB_nil))
       refine rvP C (sS (some true) (eI .u8) []) ?_
       refine rvP C (.pv (.lit (.bool false))) ?_
       refine rvP C (.pv (.lit (.int .i64 ((nForget n k.i).2)))) ?_
       refine rvc_nil ?_
       refine Awp.ret ?_
       subst hR
       exact ⟨.inl rfl, rfl, rfl, ⟨rfl, trivial⟩⟩
      ·
       replace hR := of_false h6 hR
       refine Awp.skip ?_
       refine Awp.cons C (fun _ => .writer) (by kernel_rfl) ?_
       refine rvP C (.ptr 0 0) ?_
       refine rvP C (.ptr 3 2) ?_
       refine rvP C (.agg [.pv (.lit (.int .i64 k.l.from_)), .pv (.lit (.int .i64 k.l.to))]) ?_
       refine rvP C (.ptr 3 4) ?_
       refine rvP C (sS (some k.b.nil) (eI .u8) k.b.D) ?_
       refine rvc_un (rexec_callObj hP C (fun b => bif b == 0 then 0 else bif b == 1 then 1 else b) [] rfl rfl rfl (nSend_calls n k.l k.b hl1) rfl rfl ⟨rfl, trivial⟩ (of_decide_eq_true rfl) rfl (of_decide_eq_true rfl) (of_decide_eq_true rfl) allB_nil allB_nil (allB_cons rfl allB_nil) ?_ rfl (allB_cons rfl allB_nil))
       refine rvP C (sS (some true) (eI .u8) []) ?_
       refine rvP C (.pv (.lit (.bool false))) ?_
       refine rvP C (.pv (.lit (.int .i64 ((nSend n k.l k.b).2)))) ?_
       refine rvc_nil ?_
       refine Awp.ret ?_
       subst hR
       exact ⟨.inl rfl, rfl, rfl, ⟨rfl, trivial⟩⟩
def short_l1 (x : (Sl Do)) (kk : Int → Int → Int → Bool) : Nat → Int → Int → Int → Bool
  | 0, _, _, _ => default
  | nn + 1, n1, acts1, i1 => (bif (decide (i1 < (x.D.length : Int))) then (bif (decide (acts1 ≤ 150)) then (bif (decide (n1 ≤ 16384)) then short_l1 x kk nn (IntKind.i64.wrap (n1 + (bif (decide ((16385 : Int) < ((x.D[i1.toNat]!.b.D).length : Int))) then (16385 : Int) else ((x.D[i1.toNat]!.b.D).length : Int)))) (IntKind.i64.wrap (acts1 + 1)) (IntKind.i64.wrap (i1 + 1)) else kk n1 acts1 i1) else kk n1 acts1 i1) else kk n1 acts1 i1)
def short_l0 : List (Sl Do) → Nat → Int → Int → Bool
  | [], _, n, acts => (bif (decide (acts ≤ 150)) then (decide (n ≤ 16384)) else false)
  | x :: xs, i, n, acts => short_l1 x (fun n1 acts1 _ => short_l0 xs (i + 1) n1 acts1) ((x.D.length - (0 : Int).toNat) + 1) n acts 0
def short (lists : (Sl (Sl Do))) : Bool :=
  short_l0 lists.D 0 0 0
theorem short_calls (lists : (Sl (Sl Do))) (hl1 : lists.D.length ≤ 9223372036854775807) : PCalls Try.prog 10 [sS (some lists.nil) (eSl eDo) lists.D] (.pv (.lit (.bool (short lists)))) := by
 generalize hR : short lists = R
 refine PCalls.of_body tabOk Try.func10 rfl rfl rfl rfl rfl mixed fun E hP C hI => ?_
 refine Awp.consP C ?_
 refine rvP C (.pv (.lit (.bool false))) ?_
 refine rvc_nil ?_
 refine Awp.consP C ?_
 refine rvP C (.pv (.lit (.int .i64 0))) ?_
 refine rvP C (.pv (.lit (.int .i64 0))) ?_
 refine rvc_nil ?_
 refine Awp.seq ?_
 refine Awp.consP C ?_
 refine rvP C (sS (some lists.nil) (eSl eDo) lists.D) ?_
 refine rvP C (.pv (.lit (.int .i64 (lists.D.length : Int)))) ?_
 refine rvP C (.pv (.lit (.int .i64 0))) ?_
 refine rvc_nil ?_
 refine Awp.block ?_
 refine Awp.forR (σ := Int × Int) (lists.D.length) (fun i v => [(3, .pv (.lit (.int .i64 v.1))), (4, .pv (.lit (.int .i64 v.2))), (8, sS (some lists.nil) (eSl eDo) lists.D), (9, .pv (.lit (.int .i64 (lists.D.length : Int)))), (10, .pv (.lit (.int .i64 (i : Int))))]) (fun i v => []) [] (fun i v => (short_l0 (lists.D.drop i) i v.1 v.2 = R) ∧ ((0 ≤ v.2 ∧ v.2 ≤ 151) ∧ (0 ≤ v.1 ∧ v.1 ≤ 32769))) (0, 0) ?_ ?_ (fun i v h1 hR => ?_)
 · exact ⟨hR, (by dsimp only; omega)⟩
 · exact ⟨fun b => b, WeakerR.ofL (Ks := []) hI ⟨⟨rfl, rfl⟩, ⟨rfl, rfl⟩, ⟨rfl, rfl⟩, ⟨rfl, rfl⟩, ⟨rfl, rfl⟩, trivial⟩ (okH_nil) rfl⟩
 obtain ⟨n, acts⟩ := v
 obtain ⟨hR, hV⟩ := hR
 replace hV : (0 ≤ acts ∧ acts ≤ 151) ∧ (0 ≤ n ∧ n ≤ 32769) := hV
 refine Awp.consP C ?_
 refine rvP C (.pv (.lit (.bool (decide ((i : Int) < (lists.D.length : Int)))))) ?_
 refine rvc_nil ?_
 refine Awp.seq ?_
 refine Awp.cond (b := (decide ((i : Int) < (lists.D.length : Int)))) rfl (fun h2 => ?_) (fun h2 => ?_)
 ·
  have h3 : i < lists.D.length := by have := of_decide_eq_true h2; omega
  obtain ⟨x, h4⟩ := getX h3
  rw [drop_at h4] at hR
  refine Awp.skip ?_
  refine Awp.seq ?_
  refine Awp.block ?_
  refine Awp.consP C ?_
  refine rvc_un (rexec_idxS C rfl rfl rfl rfl rfl rfl x (Int.natCast_nonneg _) h4 ?_)
  refine rvP C (sS (some x.nil) eDo x.D) ?_
  refine rvP C (sS (some x.nil) eDo x.D) ?_
  refine rvc_nil ?_
  refine Awp.consP C ?_
  refine rvP C (.pv (.lit (.int .i64 0))) ?_
  refine rvc_nil ?_
  refine Awp.block ?_
  refine Awp.forM (σ := Int × Int × Int) (fun v => [(3, .pv (.lit (.int .i64 v.1))), (4, .pv (.lit (.int .i64 v.2.1))), (6, sS (some x.nil) eDo x.D), (7, .pv (.lit (.int .i64 v.2.2))), (8, sS (some lists.nil) (eSl eDo) lists.D), (9, .pv (.lit (.int .i64 (lists.D.length : Int)))), (10, .pv (.lit (.int .i64 (i : Int))))]) (fun v => []) [] (fun n v => n = (x.D.length - (v.2.2 : Int).toNat) ∧ short_l1 x (fun n1 acts1 _ => short_l0 (lists.D.drop (i + 1)) (i + 1) n1 acts1) ((x.D.length - (v.2.2 : Int).toNat) + 1) v.1 v.2.1 v.2.2 = R ∧ (((0 ≤ v.2.1 ∧ v.2.1 ≤ 151) ∧ (0 ≤ v.1 ∧ v.1 ≤ 32769)) ∧ 0 ≤ v.2.2 ∧ v.2.2 ≤ (x.D.length : Int) ∧ v.2.2 ≤ v.2.1)) ((x.D.length - (0 : Int).toNat)) (n, acts, 0) ?_ ?_ (fun _ v h5 => ?_)
  · exact ⟨rfl, hR, (by dsimp only; omega)⟩
  · exact ⟨fun b => b, WeakerR.ofL (Ks := []) hI ⟨⟨rfl, rfl⟩, ⟨rfl, rfl⟩, ⟨rfl, rfl⟩, ⟨rfl, rfl⟩, ⟨rfl, rfl⟩, ⟨rfl, rfl⟩, ⟨rfl, rfl⟩, trivial⟩ (okH_nil) rfl⟩
  obtain ⟨n1, acts1, i1⟩ := v
  obtain ⟨rfl, hR, hW⟩ := h5
  replace hW : ((0 ≤ acts1 ∧ acts1 ≤ 151) ∧ (0 ≤ n1 ∧ n1 ≤ 32769)) ∧ 0 ≤ i1 ∧ i1 ≤ (x.D.length : Int) ∧ i1 ≤ acts1 := hW
  refine Awp.seq ?_
  refine Awp.consP C ?_
  refine rvP C (.pv (.lit (.int .i64 i1))) ?_
  refine rvP C (sS (some x.nil) eDo x.D) ?_
  refine rvP C (.pv (.lit (.int .i64 (x.D.length : Int)))) ?_
  refine rvP C (.pv (.lit (.bool (decide (i1 < (x.D.length : Int)))))) ?_
  refine rvP C (.pv (.lit (.bool (decide (i1 < (x.D.length : Int)))))) ?_
  refine rvc_case 18 (decide (i1 < (x.D.length : Int))) rfl (fun h7 => ?_) (fun h7 => ?_)
  ·
   replace hR := of_true h7 hR
   refine rvO C (.pv (.lit (.int .i64 acts1))) ?_
   refine rvO C (.pv (.lit (.bool (decide (acts1 ≤ 150))))) ?_
   refine rvP C (.pv (.lit (.bool (decide (acts1 ≤ 150))))) ?_
   refine rvP C (.pv (.lit (.bool (decide (acts1 ≤ 150))))) ?_
   refine rvc_case 22 (decide (acts1 ≤ 150)) rfl (fun h8 => ?_) (fun h8 => ?_)
   ·
    replace hR := of_true h8 hR
    refine rvO C (.pv (.lit (.int .i64 n1))) ?_
    refine rvO C (.pv (.lit (.bool (decide (n1 ≤ 16384))))) ?_
    refine rvP C (.pv (.lit (.bool (decide (n1 ≤ 16384))))) ?_
    refine rvc_nil ?_
    refine Awp.cond (b := (decide (n1 ≤ 16384))) rfl (fun h9 => ?_) (fun h9 => ?_)
    ·
     replace hR := of_true h9 hR
     refine Awp.skip ?_
     refine Awp.seq ?_
     refine Awp.block ?_
     refine Awp.consP C ?_
     refine rvP C (.pv (.lit (.int .i64 acts1))) ?_
     refine rvP C (.pv (.lit (.int .i64 (IntKind.i64.wrap (acts1 + 1))))) ?_
     refine rvP C (.pv (.lit (.int .i64 (IntKind.i64.wrap (acts1 + 1))))) ?_
     refine rvc_nil ?_
     refine Awp.regionP C ?_
     refine rvP C (.pv (.lit (.int .i64 n1))) ?_
     refine rvP C (sS (some x.nil) eDo x.D) ?_
     refine rvP C (.pv (.lit (.int .i64 i1))) ?_
     have h10 : x.D[i1.toNat]? = some x.D[i1.toNat]! := getE (by have := of_decide_eq_true h2; have := of_decide_eq_true h7; have := of_decide_eq_true h8; have := of_decide_eq_true h9; omega)
     refine rvc_un (rexec_idxS C rfl rfl rfl rfl rfl rfl (x.D[i1.toNat]!) (by have := of_decide_eq_true h2; have := of_decide_eq_true h7; have := of_decide_eq_true h8; have := of_decide_eq_true h9; omega) h10 ?_)
     refine rvP C (.rp [.sl (some x.D[i1.toNat]!.b.nil) (x.D[i1.toNat]!.b.D).length (encL (eI .u8) (x.D[i1.toNat]!.b.D))]) ?_
     refine rvP C (sS (some x.D[i1.toNat]!.b.nil) (eI .u8) (x.D[i1.toNat]!.b.D)) ?_
     refine rvP C (.pv (.lit (.int .i64 ((x.D[i1.toNat]!.b.D).length : Int)))) ?_
     refine rvc_un (rexec_min C rfl rfl rfl ?_)
     refine rvP C (.pv (.lit (.int .i64 (IntKind.i64.wrap (n1 + (bif (decide ((16385 : Int) < ((x.D[i1.toNat]!.b.D).length : Int))) then (16385 : Int) else ((x.D[i1.toNat]!.b.D).length : Int))))))) ?_
     refine rvP C (.pv (.lit (.int .i64 (IntKind.i64.wrap (n1 + (bif (decide ((16385 : Int) < ((x.D[i1.toNat]!.b.D).length : Int))) then (16385 : Int) else ((x.D[i1.toNat]!.b.D).length : Int))))))) ?_
     refine rvc_nil ?_
     refine Awp.regionP C ?_
     refine rvP C (.pv (.lit (.int .i64 i1))) ?_
     refine rvP C (.pv (.lit (.int .i64 (IntKind.i64.wrap (i1 + 1))))) ?_
     refine rvP C (.pv (.lit (.int .i64 (IntKind.i64.wrap (i1 + 1))))) ?_
     refine rvc_nil ?_
     refine ⟨_, ((IntKind.i64.wrap (n1 + (bif (decide ((16385 : Int) < ((x.D[i1.toNat]!.b.D).length : Int))) then (16385 : Int) else ((x.D[i1.toNat]!.b.D).length : Int)))), (IntKind.i64.wrap (acts1 + 1)), (IntKind.i64.wrap (i1 + 1))), ?_, ⟨rfl, (by rw [show (x.D.length - ((IntKind.i64.wrap (i1 + 1)) : Int).toNat) + 1 = (x.D.length - (i1 : Int).toNat) by have := wrapI (n1 + (bif (decide ((16385 : Int) < ((x.D[i1.toNat]!.b.D).length : Int))) then (16385 : Int) else ((x.D[i1.toNat]!.b.D).length : Int))); have := wrapI (acts1 + 1); have := wrapI (i1 + 1); have := of_decide_eq_true h2; have := of_decide_eq_true h7; have := of_decide_eq_true h8; have := of_decide_eq_true h9; first | omega | (simp only [List.length_drop]; omega)]; exact hR), (by have hm_ := min85 ((x.D[i1.toNat]!.b.D).length : Int); have := wrapI (n1 + (bif (decide ((16385 : Int) < ((x.D[i1.toNat]!.b.D).length : Int))) then (16385 : Int) else ((x.D[i1.toNat]!.b.D).length : Int))); have := wrapI (acts1 + 1); have := wrapI (i1 + 1); have := of_decide_eq_true ‹decide (i1 < (x.D.length : Int)) = true›; have := of_decide_eq_true ‹decide (acts1 ≤ 150) = true›; have := of_decide_eq_true ‹decide (n1 ≤ 16384) = true›; have := hm_ (Int.natCast_nonneg _); dsimp only; omega)⟩, ?_⟩
     · show (x.D.length - ((IntKind.i64.wrap (i1 + 1)) : Int).toNat) < (x.D.length - (i1 : Int).toNat); have := wrapI (n1 + (bif (decide ((16385 : Int) < ((x.D[i1.toNat]!.b.D).length : Int))) then (16385 : Int) else ((x.D[i1.toNat]!.b.D).length : Int))); have := wrapI (acts1 + 1); have := wrapI (i1 + 1); have := of_decide_eq_true h2; have := of_decide_eq_true h7; have := of_decide_eq_true h8; have := of_decide_eq_true h9; first | omega | (simp only [List.length_drop]; omega)
     · exact ⟨fun b => b, WeakerR.ofL (Ks := []) hI ⟨⟨rfl, rfl⟩, ⟨rfl, rfl⟩, ⟨rfl, rfl⟩, ⟨rfl, rfl⟩, ⟨rfl, rfl⟩, ⟨rfl, rfl⟩, ⟨rfl, rfl⟩, trivial⟩ (okH_nil) rfl⟩
    ·
     replace hR := of_false h9 hR
     refine Awp.exit ?_
     refine Awp.regionP C ?_
     refine rvP C (.pv (.lit (.int .i64 (IntKind.i64.wrap ((i : Int) + 1))))) ?_
     refine rvP C (.pv (.lit (.int .i64 (IntKind.i64.wrap ((i : Int) + 1))))) ?_
     refine rvc_nil ?_
     refine ⟨h3, (n1, acts1), ?_, ?_⟩
     · exact ⟨hR, hW.1⟩
     · exact ⟨fun b => b, WeakerR.ofL (Ks := []) hI ⟨⟨rfl, rfl⟩, ⟨rfl, rfl⟩, ⟨rfl, rfl⟩, ⟨rfl, rfl⟩, ⟨lit_cast (wrap_i64 (by omega) (by omega)), rfl⟩, trivial⟩ (okH_nil) rfl⟩
   ·
    replace hR := of_false h8 hR
    refine rvS ?_
    refine rvS ?_
    refine rvP C (.pv (.lit (.bool false))) ?_
    refine rvc_nil ?_
    refine Awp.condF (b := false) rfl rfl ?_
    refine Awp.exit ?_
    refine Awp.regionP C ?_
    refine rvP C (.pv (.lit (.int .i64 (IntKind.i64.wrap ((i : Int) + 1))))) ?_
    refine rvP C (.pv (.lit (.int .i64 (IntKind.i64.wrap ((i : Int) + 1))))) ?_
    refine rvc_nil ?_
    refine ⟨h3, (n1, acts1), ?_, ?_⟩
    · exact ⟨hR, hW.1⟩
    · exact ⟨fun b => b, WeakerR.ofL (Ks := []) hI ⟨⟨rfl, rfl⟩, ⟨rfl, rfl⟩, ⟨rfl, rfl⟩, ⟨rfl, rfl⟩, ⟨lit_cast (wrap_i64 (by omega) (by omega)), rfl⟩, trivial⟩ (okH_nil) rfl⟩
  ·
   replace hR := of_false h7 hR
   refine rvS ?_
   refine rvS ?_
   refine rvP C (.pv (.lit (.bool false))) ?_
   refine rvP C (.pv (.lit (.bool false))) ?_
   refine rvS ?_
   refine rvS ?_
   refine rvP C (.pv (.lit (.bool false))) ?_
   refine rvc_nil ?_
   refine Awp.condF (b := false) rfl rfl ?_
   refine Awp.exit ?_
   refine Awp.regionP C ?_
   refine rvP C (.pv (.lit (.int .i64 (IntKind.i64.wrap ((i : Int) + 1))))) ?_
   refine rvP C (.pv (.lit (.int .i64 (IntKind.i64.wrap ((i : Int) + 1))))) ?_
   refine rvc_nil ?_
   refine ⟨h3, (n1, acts1), ?_, ?_⟩
   · exact ⟨hR, hW.1⟩
   · exact ⟨fun b => b, WeakerR.ofL (Ks := []) hI ⟨⟨rfl, rfl⟩, ⟨rfl, rfl⟩, ⟨rfl, rfl⟩, ⟨rfl, rfl⟩, ⟨lit_cast (wrap_i64 (by omega) (by omega)), rfl⟩, trivial⟩ (okH_nil) rfl⟩
 ·
  have h3 : ¬ i < lists.D.length := by have := of_decide_eq_false h2; omega
  rw [drop_end h3] at hR
  refine Awp.exit ?_
  refine Awp.consP C ?_
  refine rvP C (.pv (.lit (.int .i64 acts))) ?_
  refine rvP C (.pv (.lit (.bool (decide (acts ≤ 150))))) ?_
  refine rvP C (.pv (.lit (.bool (decide (acts ≤ 150))))) ?_
  refine rvc_case 42 (decide (acts ≤ 150)) rfl (fun h11 => ?_) (fun h11 => ?_)
  ·
   replace hR := of_true h11 hR
   refine rvO C (.pv (.lit (.int .i64 n))) ?_
   refine rvO C (.pv (.lit (.bool (decide (n ≤ 16384))))) ?_
   refine rvP C (.pv (.lit (.bool (decide (n ≤ 16384))))) ?_
   refine rvP C (.pv (.lit (.bool (decide (n ≤ 16384))))) ?_
   refine rvc_nil ?_
   refine Awp.ret ?_
   subst hR
   exact ⟨.inl rfl, rfl⟩
  ·
   replace hR := of_false h11 hR
   refine rvS ?_
   refine rvS ?_
   refine rvP C (.pv (.lit (.bool false))) ?_
   refine rvP C (.pv (.lit (.bool false))) ?_
   refine rvc_nil ?_
   refine Awp.ret ?_
   subst hR
   exact ⟨.inl rfl, rfl⟩
end Go.Proofs.Ytpeeofofagfooaa
