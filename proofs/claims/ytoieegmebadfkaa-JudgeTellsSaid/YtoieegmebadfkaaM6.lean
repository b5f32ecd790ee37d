import Derived.Test.YtoieegmebadfkaaM1
import Derived.Test.YtoieegmebadfkaaM2
import Derived.Test.YtoieegmebadfkaaM3
import Derived.Test.YtoieegmebadfkaaM5
/- The reference: keys; versions. No conditions. -/
namespace Go.Proofs.Ytoieegmebadfkaa
open Go.Am
def rLess (a : (Nat → Int)) (b : (Nat → Int)) : Bool :=
  (Op.bytesLess (strOf (tbF a 8 0)).toList (strOf (tbF b 8 0)).toList)
theorem rLess_calls (a : (Nat → Int)) (b : (Nat → Int))  : PCalls Try.prog 47 [.agg [.pv (.lit (.int .u8 (a 0))), .pv (.lit (.int .u8 (a 1))), .pv (.lit (.int .u8 (a 2))), .pv (.lit (.int .u8 (a 3))), .pv (.lit (.int .u8 (a 4))), .pv (.lit (.int .u8 (a 5))), .pv (.lit (.int .u8 (a 6))), .pv (.lit (.int .u8 (a 7)))], .agg [.pv (.lit (.int .u8 (b 0))), .pv (.lit (.int .u8 (b 1))), .pv (.lit (.int .u8 (b 2))), .pv (.lit (.int .u8 (b 3))), .pv (.lit (.int .u8 (b 4))), .pv (.lit (.int .u8 (b 5))), .pv (.lit (.int .u8 (b 6))), .pv (.lit (.int .u8 (b 7)))]] (.pv (.lit (.bool (rLess a b)))) := by
 generalize hR : rLess a b = R
 refine PCalls.of_body tabOk Try.func47 rfl rfl rfl rfl rfl mixed fun E hP C hI => ?_
 refine Awp.consP C ?_
 refine rvc_un (rexec_boxF C [.lit (.int .u8 (a 0)), .lit (.int .u8 (a 1)), .lit (.int .u8 (a 2)), .lit (.int .u8 (a 3)), .lit (.int .u8 (a 4)), .lit (.int .u8 (a 5)), .lit (.int .u8 (a 6)), .lit (.int .u8 (a 7))] rfl rfl rfl rfl ?_)
 refine rvc_un (rexec_boxF C [.lit (.int .u8 (b 0)), .lit (.int .u8 (b 1)), .lit (.int .u8 (b 2)), .lit (.int .u8 (b 3)), .lit (.int .u8 (b 4)), .lit (.int .u8 (b 5)), .lit (.int .u8 (b 6)), .lit (.int .u8 (b 7))] rfl rfl rfl rfl ?_)
 refine rvP C (.pv (.lit (.bool false))) ?_
 refine rvc_nil ?_
 refine Awp.consP C ?_
 refine rvc_un (rexec_prim C (δ := { v := sS (some false) (eI .u8) (tbF a 8 0) }) rfl rfl rfl rfl (by decide) rfl ?_)
 refine rvc_un (rexec_convS C rfl rfl rfl rfl rfl rfl rfl rfl ?_)
 refine rvc_un (rexec_prim C (δ := { v := sS (some false) (eI .u8) (tbF b 8 0) }) rfl rfl rfl rfl (by decide) rfl ?_)
 refine rvc_un (rexec_convS C rfl rfl rfl rfl rfl rfl rfl rfl ?_)
 refine rvP C (.pv (.lit (.bool (Op.bytesLess (strOf (tbF a 8 0)).toList (strOf (tbF b 8 0)).toList)))) ?_
 refine rvP C (.pv (.lit (.bool (Op.bytesLess (strOf (tbF a 8 0)).toList (strOf (tbF b 8 0)).toList)))) ?_
 refine rvc_nil ?_
 refine Awp.ret ?_
 subst hR
 exact ⟨.inl rfl, rfl⟩
def rKeys_l1 (x : Call) (kk : Int → Bool → (Sl (Nat → Int))) : List (Nat → Int) → Nat → Int → Bool → (Sl (Nat → Int))
  | [], _, at_, there => kk at_ there
  | x1 :: x1s, i1, at_, there => (bif (rLess x1 x.key) then (bif there then rKeys_l1 x kk x1s (i1 + 1) (IntKind.i64.wrap ((i1 : Int) + 1)) true else rKeys_l1 x kk x1s (i1 + 1) (IntKind.i64.wrap ((i1 : Int) + 1)) (((x1 0) == (x.key 0)) && (((x1 1) == (x.key 1)) && (((x1 2) == (x.key 2)) && (((x1 3) == (x.key 3)) && (((x1 4) == (x.key 4)) && (((x1 5) == (x.key 5)) && (((x1 6) == (x.key 6)) && (((x1 7) == (x.key 7)) && true))))))))) else (bif there then rKeys_l1 x kk x1s (i1 + 1) at_ true else rKeys_l1 x kk x1s (i1 + 1) at_ (((x1 0) == (x.key 0)) && (((x1 1) == (x.key 1)) && (((x1 2) == (x.key 2)) && (((x1 3) == (x.key 3)) && (((x1 4) == (x.key 4)) && (((x1 5) == (x.key 5)) && (((x1 6) == (x.key 6)) && (((x1 7) == (x.key 7)) && true))))))))))
def rKeys_l0 : List Call → Nat → (List (Nat → Int)) → (Sl (Nat → Int))
  | [], _, out => (Sl.mk out.isEmpty out)
  | x :: xs, i, out => rKeys_l1 x (fun at_1 there1 => (bif (!there1) then rKeys_l0 xs (i + 1) (((out.take at_1.toNat) ++ [x.key]) ++ (out.drop at_1.toNat)) else rKeys_l0 xs (i + 1) out)) out 0 0 false
def rKeys (calls : (Sl Call)) : (Sl (Nat → Int)) :=
  rKeys_l0 calls.D 0 []
theorem rKeys_calls (calls : (Sl Call)) (hl1 : calls.D.length ≤ 1000000) : PCalls Try.prog 23 [sS (some calls.nil) eCall calls.D] (sS (some (rKeys calls).nil) (eA8 .u8) ((rKeys calls).D)) := by
 generalize hR : rKeys calls = R
 refine PCalls.of_body tabOk Try.func23 rfl rfl rfl rfl rfl mixed fun E hP C hI => ?_
 refine Awp.consP C ?_
 refine rvP C (sS (some true) (eA8 .u8) []) ?_
 refine rvc_nil ?_
 refine Awp.consP C ?_
 refine rvP C (sS (some true) (eA8 .u8) []) ?_
 refine rvc_nil ?_
 refine Awp.seq ?_
 refine Awp.consP C ?_
 refine rvP C (sS (some calls.nil) eCall calls.D) ?_
 refine rvP C (.pv (.lit (.int .i64 (calls.D.length : Int)))) ?_
 refine rvP C (.pv (.lit (.int .i64 0))) ?_
 refine rvc_nil ?_
 refine Awp.block ?_
 refine Awp.forR (σ := ((List (Nat → Int)))) (calls.D.length) (fun i v => [(3, grow 900 (eA8 .u8) v), (11, sS (some calls.nil) eCall calls.D), (12, .pv (.lit (.int .i64 (calls.D.length : Int)))), (13, .pv (.lit (.int .i64 (i : Int))))]) (fun i v => (growH 900 (eA8 .u8) v ++ ([]))) [900] (fun i v => (rKeys_l0 (calls.D.drop i) i v = R) ∧ (v.length ≤ i * 1)) [] ?_ ?_ (fun i out h1 hR => ?_)
 · exact ⟨hR, (by first | omega | (simp <;> omega))⟩
 · exact ⟨fun b => b, WeakerR.ofL (Ks := [900]) hI ⟨⟨rfl, rfl⟩, ⟨rfl, rfl⟩, ⟨rfl, rfl⟩, ⟨rfl, rfl⟩, trivial⟩ (okH_grow (fun hne => absurd rfl hne) rfl rfl (okH_nil)) rfl⟩
 obtain ⟨hR, hi_out⟩ := hR
 replace hi_out : out.length ≤ i * 1 := hi_out
 by_cases h2 : out = []
 ·
  refine Awp.wordsR [(3, sS (some out.isEmpty) (eA8 .u8) out), (11, sS (some calls.nil) eCall calls.D), (12, .pv (.lit (.int .i64 (calls.D.length : Int)))), (13, .pv (.lit (.int .i64 (i : Int))))] [] [] (WeakerR.ofL (Ks := []) hI ⟨⟨(by exact grow_at_nil (b := 900) (e := (eA8 .u8)) (l := out) rfl h2), rfl⟩, ⟨rfl, rfl⟩, ⟨rfl, rfl⟩, ⟨rfl, rfl⟩, trivial⟩ (okH_nil) rfl) ?_
  refine Awp.consP C ?_
  refine rvP C (.pv (.lit (.bool (decide ((i : Int) < (calls.D.length : Int)))))) ?_
  refine rvc_nil ?_
  refine Awp.seq ?_
  refine Awp.cond (b := (decide ((i : Int) < (calls.D.length : Int)))) rfl (fun h3 => ?_) (fun h3 => ?_)
  ·
   have h4 : i < calls.D.length := by have := of_decide_eq_true h3; omega
   obtain ⟨x, h5⟩ := getX h4
   rw [drop_at h5] at hR
   refine Awp.skip ?_
   refine Awp.seq ?_
   refine Awp.block ?_
   refine Awp.consP C ?_
   refine rvc_un (rexec_idxS C rfl rfl rfl rfl rfl rfl x (Int.natCast_nonneg _) h5 ?_)
   refine rvP C (.agg [.pv (.lit (.int .i64 x.client)), .pv (.lit (.int .i64 x.seq)), .pv (.lit (.bool x.write)), .pv (.lit (.int .u8 (x.key 0))), .pv (.lit (.int .u8 (x.key 1))), .pv (.lit (.int .u8 (x.key 2))), .pv (.lit (.int .u8 (x.key 3))), .pv (.lit (.int .u8 (x.key 4))), .pv (.lit (.int .u8 (x.key 5))), .pv (.lit (.int .u8 (x.key 6))), .pv (.lit (.int .u8 (x.key 7))), .pv (.lit (.string x.value)), .pv (.lit (.int .i64 x.mode)), .pv (.lit (.int .i64 x.bound)), .pv (.lit (.int .i64 x.began)), .pv (.lit (.int .i64 x.ended)), .pv (.lit (.int .i64 x.ver)), .pv (.lit (.int .i64 x.err)), .pv (.lit (.int .i64 x.floor))]) ?_
   refine rvc_un (rexec_prim C (δ := { v := .ptr 5 0, new := [(5, .cells [.pv (.lit (.int .i64 0)), .pv (.lit (.int .i64 0)), .pv (.lit (.bool false)), .pv (.lit (.int .u8 0)), .pv (.lit (.int .u8 0)), .pv (.lit (.int .u8 0)), .pv (.lit (.int .u8 0)), .pv (.lit (.int .u8 0)), .pv (.lit (.int .u8 0)), .pv (.lit (.int .u8 0)), .pv (.lit (.int .u8 0)), .pv (.lit (.string ⟨#[]⟩)), .pv (.lit (.int .i64 0)), .pv (.lit (.int .i64 0)), .pv (.lit (.int .i64 0)), .pv (.lit (.int .i64 0)), .pv (.lit (.int .i64 0)), .pv (.lit (.int .i64 0)), .pv (.lit (.int .i64 0))])] }) rfl rfl rfl rfl trivial rfl ?_)
   refine rvc_un (rexec_prim C (δ := { v := .undef, wr := [(5, some (.cells [.pv (.lit (.int .i64 x.client)), .pv (.lit (.int .i64 x.seq)), .pv (.lit (.bool x.write)), .pv (.lit (.int .u8 (x.key 0))), .pv (.lit (.int .u8 (x.key 1))), .pv (.lit (.int .u8 (x.key 2))), .pv (.lit (.int .u8 (x.key 3))), .pv (.lit (.int .u8 (x.key 4))), .pv (.lit (.int .u8 (x.key 5))), .pv (.lit (.int .u8 (x.key 6))), .pv (.lit (.int .u8 (x.key 7))), .pv (.lit (.string x.value)), .pv (.lit (.int .i64 x.mode)), .pv (.lit (.int .i64 x.bound)), .pv (.lit (.int .i64 x.began)), .pv (.lit (.int .i64 x.ended)), .pv (.lit (.int .i64 x.ver)), .pv (.lit (.int .i64 x.err)), .pv (.lit (.int .i64 x.floor))]))] }) rfl rfl rfl rfl trivial rfl ?_)
   refine rvc_nil ?_
   refine Awp.consP C ?_
   refine rvP C (.pv (.lit (.int .i64 0))) ?_
   refine rvc_nil ?_
   refine Awp.consP C ?_
   refine rvP C (.pv (.lit (.bool false))) ?_
   refine rvc_nil ?_
   refine Awp.seq ?_
   refine Awp.consP C ?_
   refine rvP C (sS (some out.isEmpty) (eA8 .u8) out) ?_
   refine rvP C (.pv (.lit (.int .i64 (out.length : Int)))) ?_
   refine rvP C (.pv (.lit (.int .i64 0))) ?_
   refine rvc_nil ?_
   refine Awp.block ?_
   refine Awp.forR (σ := Int × Bool) (out.length) (fun i1 v => [(3, sS (some out.isEmpty) (eA8 .u8) out), (5, .ptr 5 0), (6, .pv (.lit (.int .i64 v.1))), (7, .pv (.lit (.bool v.2))), (11, sS (some calls.nil) eCall calls.D), (12, .pv (.lit (.int .i64 (calls.D.length : Int)))), (13, .pv (.lit (.int .i64 (i : Int)))), (17, sS (some out.isEmpty) (eA8 .u8) out), (18, .pv (.lit (.int .i64 (out.length : Int)))), (19, .pv (.lit (.int .i64 (i1 : Int))))]) (fun i1 v => [(5, .cells [.pv (.lit (.int .i64 x.client)), .pv (.lit (.int .i64 x.seq)), .pv (.lit (.bool x.write)), .pv (.lit (.int .u8 (x.key 0))), .pv (.lit (.int .u8 (x.key 1))), .pv (.lit (.int .u8 (x.key 2))), .pv (.lit (.int .u8 (x.key 3))), .pv (.lit (.int .u8 (x.key 4))), .pv (.lit (.int .u8 (x.key 5))), .pv (.lit (.int .u8 (x.key 6))), .pv (.lit (.int .u8 (x.key 7))), .pv (.lit (.string x.value)), .pv (.lit (.int .i64 x.mode)), .pv (.lit (.int .i64 x.bound)), .pv (.lit (.int .i64 x.began)), .pv (.lit (.int .i64 x.ended)), .pv (.lit (.int .i64 x.ver)), .pv (.lit (.int .i64 x.err)), .pv (.lit (.int .i64 x.floor))])]) [5] (fun i1 v => (rKeys_l1 x (fun at_ there => (bif (!there) then rKeys_l0 (calls.D.drop (i + 1)) (i + 1) (((out.take at_.toNat) ++ [x.key]) ++ (out.drop at_.toNat)) else rKeys_l0 (calls.D.drop (i + 1)) (i + 1) out)) (out.drop i1) i1 v.1 v.2 = R) ∧ (0 ≤ v.1 ∧ v.1 ≤ (i1 : Int))) (0, false) ?_ ?_ (fun i1 v h6 hR => ?_)
   · exact ⟨hR, (by simp)⟩
   · exact ⟨fun b => b, WeakerR.ofL (Ks := [5]) hI ⟨⟨rfl, rfl⟩, ⟨rfl, rfl⟩, ⟨rfl, rfl⟩, ⟨rfl, rfl⟩, ⟨rfl, rfl⟩, ⟨rfl, rfl⟩, ⟨rfl, rfl⟩, ⟨rfl, rfl⟩, ⟨rfl, rfl⟩, ⟨rfl, rfl⟩, trivial⟩ (okH_cons rfl rfl rfl rfl (okH_nil)) rfl⟩
   obtain ⟨at_, there⟩ := v
   obtain ⟨hR, hV⟩ := hR
   replace hV : 0 ≤ at_ ∧ at_ ≤ (i1 : Int) := hV
   refine Awp.consP C ?_
   refine rvP C (.pv (.lit (.bool (decide ((i1 : Int) < (out.length : Int)))))) ?_
   refine rvc_nil ?_
   refine Awp.seq ?_
   refine Awp.cond (b := (decide ((i1 : Int) < (out.length : Int)))) rfl (fun h7 => ?_) (fun h7 => ?_)
   ·
    have h8 : i1 < out.length := by have := of_decide_eq_true h7; omega
    obtain ⟨x1, h9⟩ := getX h8
    rw [drop_at h9] at hR
    refine Awp.skip ?_
    refine Awp.seq ?_
    refine Awp.block ?_
    refine Awp.consP C ?_
    refine rvP C (.pv (.lit (.int .i64 (i1 : Int)))) ?_
    refine rvc_un (rexec_idxS C rfl rfl rfl rfl rfl rfl x1 (Int.natCast_nonneg _) h9 ?_)
    refine rvP C (.agg [.pv (.lit (.int .u8 (x1 0))), .pv (.lit (.int .u8 (x1 1))), .pv (.lit (.int .u8 (x1 2))), .pv (.lit (.int .u8 (x1 3))), .pv (.lit (.int .u8 (x1 4))), .pv (.lit (.int .u8 (x1 5))), .pv (.lit (.int .u8 (x1 6))), .pv (.lit (.int .u8 (x1 7)))]) ?_
    refine rvc_un (rexec_prim C (δ := { v := .ptr 9 0, new := [(9, .cells [.pv (.lit (.int .u8 0)), .pv (.lit (.int .u8 0)), .pv (.lit (.int .u8 0)), .pv (.lit (.int .u8 0)), .pv (.lit (.int .u8 0)), .pv (.lit (.int .u8 0)), .pv (.lit (.int .u8 0)), .pv (.lit (.int .u8 0))])] }) rfl rfl rfl rfl trivial rfl ?_)
    refine rvP C (.pv (.lit (.int .i64 (i1 : Int)))) ?_
    refine rvc_un (rexec_prim C (δ := { v := .undef, wr := [(9, some (.cells [.pv (.lit (.int .u8 (x1 0))), .pv (.lit (.int .u8 (x1 1))), .pv (.lit (.int .u8 (x1 2))), .pv (.lit (.int .u8 (x1 3))), .pv (.lit (.int .u8 (x1 4))), .pv (.lit (.int .u8 (x1 5))), .pv (.lit (.int .u8 (x1 6))), .pv (.lit (.int .u8 (x1 7)))]))] }) rfl rfl rfl rfl trivial rfl ?_)
    refine rvc_nil ?_
    refine Awp.seq ?_
    refine Awp.consP C ?_
    refine rvP C (.agg [.pv (.lit (.int .u8 (x1 0))), .pv (.lit (.int .u8 (x1 1))), .pv (.lit (.int .u8 (x1 2))), .pv (.lit (.int .u8 (x1 3))), .pv (.lit (.int .u8 (x1 4))), .pv (.lit (.int .u8 (x1 5))), .pv (.lit (.int .u8 (x1 6))), .pv (.lit (.int .u8 (x1 7)))]) ?_
    refine rvP C (.ptr 5 3) ?_
    refine rvP C (.agg [.pv (.lit (.int .u8 (x.key 0))), .pv (.lit (.int .u8 (x.key 1))), .pv (.lit (.int .u8 (x.key 2))), .pv (.lit (.int .u8 (x.key 3))), .pv (.lit (.int .u8 (x.key 4))), .pv (.lit (.int .u8 (x.key 5))), .pv (.lit (.int .u8 (x.key 6))), .pv (.lit (.int .u8 (x.key 7)))]) ?_
    refine rvc_un (rexec_call hP C rfl rfl rfl (rLess_calls x1 x.key) ?_)
    refine rvc_nil ?_
    refine Awp.cond (b := (rLess x1 x.key)) rfl (fun h10 => ?_) (fun h10 => ?_)
    ·
     replace hR := of_true h10 hR
     refine Awp.regionP C ?_
     refine rvP C (.pv (.lit (.int .i64 (i1 : Int)))) ?_
     refine rvP C (.pv (.lit (.int .i64 (IntKind.i64.wrap ((i1 : Int) + 1))))) ?_
     refine rvP C (.pv (.lit (.int .i64 (IntKind.i64.wrap ((i1 : Int) + 1))))) ?_
     refine rvc_nil ?_
     refine Awp.regionP C ?_
     refine rvP C (.pv (.lit (.bool there))) ?_
     refine rvP C (.pv (.lit (.bool there))) ?_
     refine rvc_case 31 there rfl (fun h11 => ?_) (fun h11 => ?_)
     ·
      replace hR := of_true h11 hR
      refine rvS ?_
      refine rvS ?_
      refine rvS ?_
      refine rvS ?_
      refine rvP C (.pv (.lit (.bool true))) ?_
      refine rvP C (.pv (.lit (.bool true))) ?_
      refine rvc_nil ?_
      refine Awp.regionP C ?_
      refine rvP C (.pv (.lit (.int .i64 (IntKind.i64.wrap ((i1 : Int) + 1))))) ?_
      refine rvP C (.pv (.lit (.int .i64 (IntKind.i64.wrap ((i1 : Int) + 1))))) ?_
      refine rvc_nil ?_
      refine ⟨h8, ((IntKind.i64.wrap ((i1 : Int) + 1)), true), ?_, ?_⟩
      · exact ⟨hR, (by have := wrapI ((i1 : Int) + 1); dsimp only; omega)⟩
      · exact ⟨fun b => b, WeakerR.ofL (Ks := [5]) hI ⟨⟨rfl, rfl⟩, ⟨rfl, rfl⟩, ⟨rfl, rfl⟩, ⟨rfl, rfl⟩, ⟨rfl, rfl⟩, ⟨rfl, rfl⟩, ⟨rfl, rfl⟩, ⟨rfl, rfl⟩, ⟨rfl, rfl⟩, ⟨lit_cast (wrap_i64 (by omega) (by omega)), rfl⟩, trivial⟩ (okH_cons rfl rfl rfl rfl (okH_nil)) rfl⟩
     ·
      replace hR := of_false h11 hR
      refine rvO C (.agg [.pv (.lit (.int .u8 (x1 0))), .pv (.lit (.int .u8 (x1 1))), .pv (.lit (.int .u8 (x1 2))), .pv (.lit (.int .u8 (x1 3))), .pv (.lit (.int .u8 (x1 4))), .pv (.lit (.int .u8 (x1 5))), .pv (.lit (.int .u8 (x1 6))), .pv (.lit (.int .u8 (x1 7)))]) ?_
      refine rvO C (.ptr 5 3) ?_
      refine rvO C (.agg [.pv (.lit (.int .u8 (x.key 0))), .pv (.lit (.int .u8 (x.key 1))), .pv (.lit (.int .u8 (x.key 2))), .pv (.lit (.int .u8 (x.key 3))), .pv (.lit (.int .u8 (x.key 4))), .pv (.lit (.int .u8 (x.key 5))), .pv (.lit (.int .u8 (x.key 6))), .pv (.lit (.int .u8 (x.key 7)))]) ?_
      refine rvO C (.pv (.lit (.bool (((x1 0) == (x.key 0)) && (((x1 1) == (x.key 1)) && (((x1 2) == (x.key 2)) && (((x1 3) == (x.key 3)) && (((x1 4) == (x.key 4)) && (((x1 5) == (x.key 5)) && (((x1 6) == (x.key 6)) && (((x1 7) == (x.key 7)) && true))))))))))) ?_
      refine rvP C (.pv (.lit (.bool (((x1 0) == (x.key 0)) && (((x1 1) == (x.key 1)) && (((x1 2) == (x.key 2)) && (((x1 3) == (x.key 3)) && (((x1 4) == (x.key 4)) && (((x1 5) == (x.key 5)) && (((x1 6) == (x.key 6)) && (((x1 7) == (x.key 7)) && true))))))))))) ?_
      refine rvP C (.pv (.lit (.bool (((x1 0) == (x.key 0)) && (((x1 1) == (x.key 1)) && (((x1 2) == (x.key 2)) && (((x1 3) == (x.key 3)) && (((x1 4) == (x.key 4)) && (((x1 5) == (x.key 5)) && (((x1 6) == (x.key 6)) && (((x1 7) == (x.key 7)) && true))))))))))) ?_
      refine rvc_nil ?_
      refine Awp.regionP C ?_
      refine rvP C (.pv (.lit (.int .i64 (IntKind.i64.wrap ((i1 : Int) + 1))))) ?_
      refine rvP C (.pv (.lit (.int .i64 (IntKind.i64.wrap ((i1 : Int) + 1))))) ?_
      refine rvc_nil ?_
      refine ⟨h8, ((IntKind.i64.wrap ((i1 : Int) + 1)), (((x1 0) == (x.key 0)) && (((x1 1) == (x.key 1)) && (((x1 2) == (x.key 2)) && (((x1 3) == (x.key 3)) && (((x1 4) == (x.key 4)) && (((x1 5) == (x.key 5)) && (((x1 6) == (x.key 6)) && (((x1 7) == (x.key 7)) && true))))))))), ?_, ?_⟩
      · exact ⟨hR, (by have := wrapI ((i1 : Int) + 1); dsimp only; omega)⟩
      · exact ⟨fun b => b, WeakerR.ofL (Ks := [5]) hI ⟨⟨rfl, rfl⟩, ⟨rfl, rfl⟩, ⟨rfl, rfl⟩, ⟨rfl, rfl⟩, ⟨rfl, rfl⟩, ⟨rfl, rfl⟩, ⟨rfl, rfl⟩, ⟨rfl, rfl⟩, ⟨rfl, rfl⟩, ⟨lit_cast (wrap_i64 (by omega) (by omega)), rfl⟩, trivial⟩ (okH_cons rfl rfl rfl rfl (okH_nil)) rfl⟩
    ·
     replace hR := of_false h10 hR
     refine Awp.skip ?_
     refine Awp.regionP C ?_
     refine rvP C (.pv (.lit (.bool there))) ?_
     refine rvP C (.pv (.lit (.bool there))) ?_
     refine rvc_case 31 there rfl (fun h12 => ?_) (fun h12 => ?_)
     ·
      replace hR := of_true h12 hR
      refine rvS ?_
      refine rvS ?_
      refine rvS ?_
      refine rvS ?_
      refine rvP C (.pv (.lit (.bool true))) ?_
      refine rvP C (.pv (.lit (.bool true))) ?_
      refine rvc_nil ?_
      refine Awp.regionP C ?_
      refine rvP C (.pv (.lit (.int .i64 (IntKind.i64.wrap ((i1 : Int) + 1))))) ?_
      refine rvP C (.pv (.lit (.int .i64 (IntKind.i64.wrap ((i1 : Int) + 1))))) ?_
      refine rvc_nil ?_
      refine ⟨h8, (at_, true), ?_, ?_⟩
      · exact ⟨hR, (by have := wrapI ((i1 : Int) + 1); dsimp only; omega)⟩
      · exact ⟨fun b => b, WeakerR.ofL (Ks := [5]) hI ⟨⟨rfl, rfl⟩, ⟨rfl, rfl⟩, ⟨rfl, rfl⟩, ⟨rfl, rfl⟩, ⟨rfl, rfl⟩, ⟨rfl, rfl⟩, ⟨rfl, rfl⟩, ⟨rfl, rfl⟩, ⟨rfl, rfl⟩, ⟨lit_cast (wrap_i64 (by omega) (by omega)), rfl⟩, trivial⟩ (okH_cons rfl rfl rfl rfl (okH_nil)) rfl⟩
     ·
      replace hR := of_false h12 hR
      refine rvO C (.agg [.pv (.lit (.int .u8 (x1 0))), .pv (.lit (.int .u8 (x1 1))), .pv (.lit (.int .u8 (x1 2))), .pv (.lit (.int .u8 (x1 3))), .pv (.lit (.int .u8 (x1 4))), .pv (.lit (.int .u8 (x1 5))), .pv (.lit (.int .u8 (x1 6))), .pv (.lit (.int .u8 (x1 7)))]) ?_
      refine rvO C (.ptr 5 3) ?_
      refine rvO C (.agg [.pv (.lit (.int .u8 (x.key 0))), .pv (.lit (.int .u8 (x.key 1))), .pv (.lit (.int .u8 (x.key 2))), .pv (.lit (.int .u8 (x.key 3))), .pv (.lit (.int .u8 (x.key 4))), .pv (.lit (.int .u8 (x.key 5))), .pv (.lit (.int .u8 (x.key 6))), .pv (.lit (.int .u8 (x.key 7)))]) ?_
      refine rvO C (.pv (.lit (.bool (((x1 0) == (x.key 0)) && (((x1 1) == (x.key 1)) && (((x1 2) == (x.key 2)) && (((x1 3) == (x.key 3)) && (((x1 4) == (x.key 4)) && (((x1 5) == (x.key 5)) && (((x1 6) == (x.key 6)) && (((x1 7) == (x.key 7)) && true))))))))))) ?_
      refine rvP C (.pv (.lit (.bool (((x1 0) == (x.key 0)) && (((x1 1) == (x.key 1)) && (((x1 2) == (x.key 2)) && (((x1 3) == (x.key 3)) && (((x1 4) == (x.key 4)) && (((x1 5) == (x.key 5)) && (((x1 6) == (x.key 6)) && (((x1 7) == (x.key 7)) && true))))))))))) ?_
      refine rvP C (.pv (.lit (.bool (((x1 0) == (x.key 0)) && (((x1 1) == (x.key 1)) && (((x1 2) == (x.key 2)) && (((x1 3) == (x.key 3)) && (((x1 4) == (x.key 4)) && (((x1 5) == (x.key 5)) && (((x1 6) == (x.key 6)) && (((x1 7) == (x.key 7)) && true))))))))))) ?_
      refine rvc_nil ?_
      refine Awp.regionP C ?_
      refine rvP C (.pv (.lit (.int .i64 (IntKind.i64.wrap ((i1 : Int) + 1))))) ?_
      refine rvP C (.pv (.lit (.int .i64 (IntKind.i64.wrap ((i1 : Int) + 1))))) ?_
      refine rvc_nil ?_
      refine ⟨h8, (at_, (((x1 0) == (x.key 0)) && (((x1 1) == (x.key 1)) && (((x1 2) == (x.key 2)) && (((x1 3) == (x.key 3)) && (((x1 4) == (x.key 4)) && (((x1 5) == (x.key 5)) && (((x1 6) == (x.key 6)) && (((x1 7) == (x.key 7)) && true))))))))), ?_, ?_⟩
      · exact ⟨hR, (by have := wrapI ((i1 : Int) + 1); dsimp only; omega)⟩
      · exact ⟨fun b => b, WeakerR.ofL (Ks := [5]) hI ⟨⟨rfl, rfl⟩, ⟨rfl, rfl⟩, ⟨rfl, rfl⟩, ⟨rfl, rfl⟩, ⟨rfl, rfl⟩, ⟨rfl, rfl⟩, ⟨rfl, rfl⟩, ⟨rfl, rfl⟩, ⟨rfl, rfl⟩, ⟨lit_cast (wrap_i64 (by omega) (by omega)), rfl⟩, trivial⟩ (okH_cons rfl rfl rfl rfl (okH_nil)) rfl⟩
   ·
    have h8 : ¬ i1 < out.length := by have := of_decide_eq_false h7; omega
    rw [drop_end h8] at hR
    refine Awp.exit ?_
    refine Awp.consP C ?_
    refine rvP C (.pv (.lit (.bool there))) ?_
    refine rvP C (.pv (.lit (.bool (!there)))) ?_
    refine rvc_nil ?_
    refine Awp.cond (b := (!there)) rfl (fun h13 => ?_) (fun h13 => ?_)
    ·
     replace hR := of_true h13 hR
     refine Awp.consP C ?_
     refine rvc_un (rexec_prim C (δ := { v := .sl 40 0 0 8 true, new := [(40, .cells (encC (eA8 .u8) []))] }) rfl rfl rfl rfl trivial rfl ?_)
     refine rvP C (sS (some out.isEmpty) (eA8 .u8) out) ?_
     refine rvP C (.pv (.lit (.int .i64 at_))) ?_
     refine rvc_un (rexec_sliceS C (e := (eA8 .u8)) (D := out) 0 at_.toNat rfl rfl rfl rfl rfl rfl rfl rfl rfl (by have := of_decide_eq_true h3; have := of_decide_eq_false h7; simp; omega) (by have := of_decide_eq_true h3; have := of_decide_eq_false h7; omega) (by have := of_decide_eq_true h3; have := of_decide_eq_false h7; omega) (out.take at_.toNat) (by simp) ?_)
     refine rvc_un (rexec_append C rfl rfl rfl rfl rfl rfl rfl rfl (fun _ h => by cases h) rfl (en := (eA8 .u8)) (D0 := []) (D := (out.take at_.toNat)) rfl rfl rfl rfl (by have := of_decide_eq_true h3; have := of_decide_eq_false h7; first | omega | (simp <;> omega)) (by decide) (nn := (out.take at_.toNat).length) (by simp <;> omega) ?_)
     refine rvP C (.sl 44 0 ((out.take at_.toNat).length) 8 false) ?_
     refine rvc_nil ?_
     refine Awp.consP C ?_
     refine rvP C (.sl 44 0 ((out.take at_.toNat).length) 8 false) ?_
     refine rvP C (.ptr 5 3) ?_
     refine rvP C (.agg [.pv (.lit (.int .u8 (x.key 0))), .pv (.lit (.int .u8 (x.key 1))), .pv (.lit (.int .u8 (x.key 2))), .pv (.lit (.int .u8 (x.key 3))), .pv (.lit (.int .u8 (x.key 4))), .pv (.lit (.int .u8 (x.key 5))), .pv (.lit (.int .u8 (x.key 6))), .pv (.lit (.int .u8 (x.key 7)))]) ?_
     refine rvc_un (rexec_buildSliceF C (eA8 .u8) [x.key] rfl rfl rfl rfl rfl rfl rfl (by decide) rfl ?_)
     refine rvc_un (rexec_append C rfl rfl rfl rfl rfl rfl rfl rfl (fun _ h => by cases h) rfl (en := (eA8 .u8)) (D0 := (out.take at_.toNat)) (D := [x.key]) rfl rfl rfl rfl (by have := of_decide_eq_true h3; have := of_decide_eq_false h7; first | omega | (simp <;> omega)) (by decide) (nn := ((out.take at_.toNat) ++ [x.key]).length) (by simp <;> omega) ?_)
     refine rvP C (.sl 49 0 (((out.take at_.toNat) ++ [x.key]).length) 8 false) ?_
     refine rvc_nil ?_
     refine Awp.regionP C ?_
     refine rvP C (.sl 49 0 (((out.take at_.toNat) ++ [x.key]).length) 8 false) ?_
     refine rvP C (sS (some out.isEmpty) (eA8 .u8) out) ?_
     refine rvP C (.pv (.lit (.int .i64 at_))) ?_
     refine rvc_un (rexec_sliceS C (e := (eA8 .u8)) (D := out) at_.toNat out.length rfl rfl rfl rfl rfl rfl rfl rfl (by have := of_decide_eq_true h3; have := of_decide_eq_false h7; simp; omega) rfl (by have := of_decide_eq_true h3; have := of_decide_eq_false h7; omega) (by have := of_decide_eq_true h3; have := of_decide_eq_false h7; omega) (out.drop at_.toNat) (by rw [List.take_of_length_le (by simp)]) ?_)
     refine rvc_un (rexec_append C rfl rfl rfl rfl rfl rfl rfl rfl (fun _ h => by cases h) rfl (en := (eA8 .u8)) (D0 := ((out.take at_.toNat) ++ [x.key])) (D := (out.drop at_.toNat)) rfl rfl rfl rfl (by have := of_decide_eq_true h3; have := of_decide_eq_false h7; first | omega | (simp <;> omega)) (by decide) (nn := (((out.take at_.toNat) ++ [x.key]) ++ (out.drop at_.toNat)).length) (by simp <;> omega) ?_)
     refine rvP C (.sl 54 0 ((((out.take at_.toNat) ++ [x.key]) ++ (out.drop at_.toNat)).length) 8 false) ?_
     refine rvc_nil ?_
     refine Awp.regionP C ?_
     refine rvP C (.pv (.lit (.int .i64 (IntKind.i64.wrap ((i : Int) + 1))))) ?_
     refine rvP C (.pv (.lit (.int .i64 (IntKind.i64.wrap ((i : Int) + 1))))) ?_
     refine rvc_nil ?_
     refine ⟨h4, (((out.take at_.toNat) ++ [x.key]) ++ (out.drop at_.toNat)), ?_, ?_⟩
     · exact ⟨hR, (by first | omega | (simp <;> omega))⟩
     · exact ⟨fun b => bif b == 900 then 54 else (fun b => b) b, WeakerR.ofL (Ks := [900]) hI ⟨⟨grow_to rfl rfl (by simp) rfl rfl, grow_within rfl⟩, ⟨rfl, rfl⟩, ⟨rfl, rfl⟩, ⟨lit_cast (wrap_i64 (by omega) (by omega)), rfl⟩, trivial⟩ (okH_grow (fun _ => rfl) rfl rfl (okH_nil)) rfl⟩
    ·
     replace hR := of_false h13 hR
     refine Awp.skip ?_
     refine Awp.regionP C ?_
     refine rvP C (.pv (.lit (.int .i64 (IntKind.i64.wrap ((i : Int) + 1))))) ?_
     refine rvP C (.pv (.lit (.int .i64 (IntKind.i64.wrap ((i : Int) + 1))))) ?_
     refine rvc_nil ?_
     refine ⟨h4, out, ?_, ?_⟩
     · exact ⟨hR, (by first | omega | (simp <;> omega))⟩
     · exact ⟨fun b => b, WeakerR.ofL (Ks := [900]) hI ⟨⟨grow_to_nil rfl h2 (.inr rfl), grow_within rfl⟩, ⟨rfl, rfl⟩, ⟨rfl, rfl⟩, ⟨lit_cast (wrap_i64 (by omega) (by omega)), rfl⟩, trivial⟩ (okH_grow (fun hne => absurd h2 hne) rfl rfl (okH_nil)) rfl⟩
  ·
   have h4 : ¬ i < calls.D.length := by have := of_decide_eq_false h3; omega
   rw [drop_end h4] at hR
   refine Awp.exit ?_
   refine Awp.consP C ?_
   refine rvP C (sS (some out.isEmpty) (eA8 .u8) out) ?_
   refine rvP C (sS (some out.isEmpty) (eA8 .u8) out) ?_
   refine rvc_nil ?_
   refine Awp.ret ?_
   subst hR
   exact ⟨.inl rfl, rfl⟩
 ·
  refine Awp.wordsR [(3, .sl 900 0 out.length 8 false), (11, sS (some calls.nil) eCall calls.D), (12, .pv (.lit (.int .i64 (calls.D.length : Int)))), (13, .pv (.lit (.int .i64 (i : Int))))] [(900, .cells (encC (eA8 .u8) out))] [900] (WeakerR.ofL (Ks := [900]) hI ⟨⟨(by exact grow_at_cons (b := 900) (b' := 900) (e := (eA8 .u8)) (l := out) rfl h2 rfl rfl rfl), rfl⟩, ⟨rfl, rfl⟩, ⟨rfl, rfl⟩, ⟨rfl, rfl⟩, trivial⟩ (okH_list (look_cons h2 rfl) rfl rfl (okH_nil)) rfl) ?_
  refine Awp.consP C ?_
  refine rvP C (.pv (.lit (.bool (decide ((i : Int) < (calls.D.length : Int)))))) ?_
  refine rvc_nil ?_
  refine Awp.seq ?_
  refine Awp.cond (b := (decide ((i : Int) < (calls.D.length : Int)))) rfl (fun h14 => ?_) (fun h14 => ?_)
  ·
   have h15 : i < calls.D.length := by have := of_decide_eq_true h14; omega
   obtain ⟨x, h16⟩ := getX h15
   rw [drop_at h16] at hR
   refine Awp.skip ?_
   refine Awp.seq ?_
   refine Awp.block ?_
   refine Awp.consP C ?_
   refine rvc_un (rexec_idxS C rfl rfl rfl rfl rfl rfl x (Int.natCast_nonneg _) h16 ?_)
   refine rvP C (.agg [.pv (.lit (.int .i64 x.client)), .pv (.lit (.int .i64 x.seq)), .pv (.lit (.bool x.write)), .pv (.lit (.int .u8 (x.key 0))), .pv (.lit (.int .u8 (x.key 1))), .pv (.lit (.int .u8 (x.key 2))), .pv (.lit (.int .u8 (x.key 3))), .pv (.lit (.int .u8 (x.key 4))), .pv (.lit (.int .u8 (x.key 5))), .pv (.lit (.int .u8 (x.key 6))), .pv (.lit (.int .u8 (x.key 7))), .pv (.lit (.string x.value)), .pv (.lit (.int .i64 x.mode)), .pv (.lit (.int .i64 x.bound)), .pv (.lit (.int .i64 x.began)), .pv (.lit (.int .i64 x.ended)), .pv (.lit (.int .i64 x.ver)), .pv (.lit (.int .i64 x.err)), .pv (.lit (.int .i64 x.floor))]) ?_
   refine rvc_un (rexec_prim C (δ := { v := .ptr 5 0, new := [(5, .cells [.pv (.lit (.int .i64 0)), .pv (.lit (.int .i64 0)), .pv (.lit (.bool false)), .pv (.lit (.int .u8 0)), .pv (.lit (.int .u8 0)), .pv (.lit (.int .u8 0)), .pv (.lit (.int .u8 0)), .pv (.lit (.int .u8 0)), .pv (.lit (.int .u8 0)), .pv (.lit (.int .u8 0)), .pv (.lit (.int .u8 0)), .pv (.lit (.string ⟨#[]⟩)), .pv (.lit (.int .i64 0)), .pv (.lit (.int .i64 0)), .pv (.lit (.int .i64 0)), .pv (.lit (.int .i64 0)), .pv (.lit (.int .i64 0)), .pv (.lit (.int .i64 0)), .pv (.lit (.int .i64 0))])] }) rfl rfl rfl rfl trivial rfl ?_)
   refine rvc_un (rexec_prim C (δ := { v := .undef, wr := [(5, some (.cells [.pv (.lit (.int .i64 x.client)), .pv (.lit (.int .i64 x.seq)), .pv (.lit (.bool x.write)), .pv (.lit (.int .u8 (x.key 0))), .pv (.lit (.int .u8 (x.key 1))), .pv (.lit (.int .u8 (x.key 2))), .pv (.lit (.int .u8 (x.key 3))), .pv (.lit (.int .u8 (x.key 4))), .pv (.lit (.int .u8 (x.key 5))), .pv (.lit (.int .u8 (x.key 6))), .pv (.lit (.int .u8 (x.key 7))), .pv (.lit (.string x.value)), .pv (.lit (.int .i64 x.mode)), .pv (.lit (.int .i64 x.bound)), .pv (.lit (.int .i64 x.began)), .pv (.lit (.int .i64 x.ended)), .pv (.lit (.int .i64 x.ver)), .pv (.lit (.int .i64 x.err)), .pv (.lit (.int .i64 x.floor))]))] }) rfl rfl rfl rfl trivial rfl ?_)
   refine rvc_nil ?_
   refine Awp.consP C ?_
   refine rvP C (.pv (.lit (.int .i64 0))) ?_
   refine rvc_nil ?_
   refine Awp.consP C ?_
   refine rvP C (.pv (.lit (.bool false))) ?_
   refine rvc_nil ?_
   refine Awp.seq ?_
   refine Awp.consP C ?_
   refine rvP C (.sl 900 0 out.length 8 false) ?_
   refine rvP C (.pv (.lit (.int .i64 (out.length : Int)))) ?_
   refine rvP C (.pv (.lit (.int .i64 0))) ?_
   refine rvc_nil ?_
   refine Awp.block ?_
   refine Awp.forR (σ := Int × Bool) (out.length) (fun i2 v => [(3, .sl 900 0 out.length 8 false), (5, .ptr 5 0), (6, .pv (.lit (.int .i64 v.1))), (7, .pv (.lit (.bool v.2))), (11, sS (some calls.nil) eCall calls.D), (12, .pv (.lit (.int .i64 (calls.D.length : Int)))), (13, .pv (.lit (.int .i64 (i : Int)))), (17, .sl 900 0 out.length 8 false), (18, .pv (.lit (.int .i64 (out.length : Int)))), (19, .pv (.lit (.int .i64 (i2 : Int))))]) (fun i2 v => [(900, .cells (encC (eA8 .u8) out)), (5, .cells [.pv (.lit (.int .i64 x.client)), .pv (.lit (.int .i64 x.seq)), .pv (.lit (.bool x.write)), .pv (.lit (.int .u8 (x.key 0))), .pv (.lit (.int .u8 (x.key 1))), .pv (.lit (.int .u8 (x.key 2))), .pv (.lit (.int .u8 (x.key 3))), .pv (.lit (.int .u8 (x.key 4))), .pv (.lit (.int .u8 (x.key 5))), .pv (.lit (.int .u8 (x.key 6))), .pv (.lit (.int .u8 (x.key 7))), .pv (.lit (.string x.value)), .pv (.lit (.int .i64 x.mode)), .pv (.lit (.int .i64 x.bound)), .pv (.lit (.int .i64 x.began)), .pv (.lit (.int .i64 x.ended)), .pv (.lit (.int .i64 x.ver)), .pv (.lit (.int .i64 x.err)), .pv (.lit (.int .i64 x.floor))])]) [5, 900] (fun i2 v => (rKeys_l1 x (fun at_1 there1 => (bif (!there1) then rKeys_l0 (calls.D.drop (i + 1)) (i + 1) (((out.take at_1.toNat) ++ [x.key]) ++ (out.drop at_1.toNat)) else rKeys_l0 (calls.D.drop (i + 1)) (i + 1) out)) (out.drop i2) i2 v.1 v.2 = R) ∧ (0 ≤ v.1 ∧ v.1 ≤ (i2 : Int))) (0, false) ?_ ?_ (fun i2 v h17 hR => ?_)
   · exact ⟨hR, (by simp)⟩
   · exact ⟨fun b => b, WeakerR.ofL (Ks := [5, 900]) hI ⟨⟨rfl, rfl⟩, ⟨rfl, rfl⟩, ⟨rfl, rfl⟩, ⟨rfl, rfl⟩, ⟨rfl, rfl⟩, ⟨rfl, rfl⟩, ⟨rfl, rfl⟩, ⟨rfl, rfl⟩, ⟨rfl, rfl⟩, ⟨rfl, rfl⟩, trivial⟩ (okH_list rfl rfl rfl (okH_cons rfl rfl rfl rfl (okH_nil))) rfl⟩
   obtain ⟨at_1, there1⟩ := v
   obtain ⟨hR, hV⟩ := hR
   replace hV : 0 ≤ at_1 ∧ at_1 ≤ (i2 : Int) := hV
   refine Awp.consP C ?_
   refine rvP C (.pv (.lit (.bool (decide ((i2 : Int) < (out.length : Int)))))) ?_
   refine rvc_nil ?_
   refine Awp.seq ?_
   refine Awp.cond (b := (decide ((i2 : Int) < (out.length : Int)))) rfl (fun h18 => ?_) (fun h18 => ?_)
   ·
    have h19 : i2 < out.length := by have := of_decide_eq_true h18; omega
    obtain ⟨x2, h20⟩ := getX h19
    rw [drop_at h20] at hR
    refine Awp.skip ?_
    refine Awp.seq ?_
    refine Awp.block ?_
    refine Awp.consP C ?_
    refine rvP C (.pv (.lit (.int .i64 (i2 : Int)))) ?_
    refine rvc_un (rexec_prim C (δ := { v := .ptr 900 (0 + i2 * 8) }) rfl rfl rfl rfl ⟨(by have := of_decide_eq_true h14; have := of_decide_eq_true h18; omega), getlt h20 (by first | rfl | omega | (have := of_decide_eq_true h14; have := of_decide_eq_true h18; omega)) (by first | rfl | omega | simp)⟩ rfl ?_)
    refine rvc_un (rexec_loadE C (e := (eA8 .u8)) i2 0 x2 (.agg [.pv (.lit (.int .u8 (x2 0))), .pv (.lit (.int .u8 (x2 1))), .pv (.lit (.int .u8 (x2 2))), .pv (.lit (.int .u8 (x2 3))), .pv (.lit (.int .u8 (x2 4))), .pv (.lit (.int .u8 (x2 5))), .pv (.lit (.int .u8 (x2 6))), .pv (.lit (.int .u8 (x2 7)))]) rfl rfl rfl rfl h20 (by simp [eA8]) (by decide) (by decide) rfl ?_)
    refine rvc_un (rexec_prim C (δ := { v := .ptr 9 0, new := [(9, .cells [.pv (.lit (.int .u8 0)), .pv (.lit (.int .u8 0)), .pv (.lit (.int .u8 0)), .pv (.lit (.int .u8 0)), .pv (.lit (.int .u8 0)), .pv (.lit (.int .u8 0)), .pv (.lit (.int .u8 0)), .pv (.lit (.int .u8 0))])] }) rfl rfl rfl rfl trivial rfl ?_)
    refine rvP C (.pv (.lit (.int .i64 (i2 : Int)))) ?_
    refine rvc_un (rexec_prim C (δ := { v := .undef, wr := [(9, some (.cells [.pv (.lit (.int .u8 (x2 0))), .pv (.lit (.int .u8 (x2 1))), .pv (.lit (.int .u8 (x2 2))), .pv (.lit (.int .u8 (x2 3))), .pv (.lit (.int .u8 (x2 4))), .pv (.lit (.int .u8 (x2 5))), .pv (.lit (.int .u8 (x2 6))), .pv (.lit (.int .u8 (x2 7)))]))] }) rfl rfl rfl rfl trivial rfl ?_)
    refine rvc_nil ?_
    refine Awp.seq ?_
    refine Awp.consP C ?_
    refine rvP C (.agg [.pv (.lit (.int .u8 (x2 0))), .pv (.lit (.int .u8 (x2 1))), .pv (.lit (.int .u8 (x2 2))), .pv (.lit (.int .u8 (x2 3))), .pv (.lit (.int .u8 (x2 4))), .pv (.lit (.int .u8 (x2 5))), .pv (.lit (.int .u8 (x2 6))), .pv (.lit (.int .u8 (x2 7)))]) ?_
    refine rvP C (.ptr 5 3) ?_
    refine rvP C (.agg [.pv (.lit (.int .u8 (x.key 0))), .pv (.lit (.int .u8 (x.key 1))), .pv (.lit (.int .u8 (x.key 2))), .pv (.lit (.int .u8 (x.key 3))), .pv (.lit (.int .u8 (x.key 4))), .pv (.lit (.int .u8 (x.key 5))), .pv (.lit (.int .u8 (x.key 6))), .pv (.lit (.int .u8 (x.key 7)))]) ?_
    refine rvc_un (rexec_call hP C rfl rfl rfl (rLess_calls x2 x.key) ?_)
    refine rvc_nil ?_
    refine Awp.cond (b := (rLess x2 x.key)) rfl (fun h21 => ?_) (fun h21 => ?_)
    ·
     replace hR := of_true h21 hR
     refine Awp.regionP C ?_
     refine rvP C (.pv (.lit (.int .i64 (i2 : Int)))) ?_
     refine rvP C (.pv (.lit (.int .i64 (IntKind.i64.wrap ((i2 : Int) + 1))))) ?_
     refine rvP C (.pv (.lit (.int .i64 (IntKind.i64.wrap ((i2 : Int) + 1))))) ?_
     refine rvc_nil ?_
     refine Awp.regionP C ?_
     refine rvP C (.pv (.lit (.bool there1))) ?_
     refine rvP C (.pv (.lit (.bool there1))) ?_
     refine rvc_case 31 there1 rfl (fun h22 => ?_) (fun h22 => ?_)
     ·
      replace hR := of_true h22 hR
      refine rvS ?_
      refine rvS ?_
      refine rvS ?_
      refine rvS ?_
      refine rvP C (.pv (.lit (.bool true))) ?_
      refine rvP C (.pv (.lit (.bool true))) ?_
      refine rvc_nil ?_
      refine Awp.regionP C ?_
      refine rvP C (.pv (.lit (.int .i64 (IntKind.i64.wrap ((i2 : Int) + 1))))) ?_
      refine rvP C (.pv (.lit (.int .i64 (IntKind.i64.wrap ((i2 : Int) + 1))))) ?_
      refine rvc_nil ?_
      refine ⟨h19, ((IntKind.i64.wrap ((i2 : Int) + 1)), true), ?_, ?_⟩
      · exact ⟨hR, (by have := wrapI ((i2 : Int) + 1); dsimp only; omega)⟩
      · exact ⟨fun b => b, WeakerR.ofL (Ks := [5, 900]) hI ⟨⟨rfl, rfl⟩, ⟨rfl, rfl⟩, ⟨rfl, rfl⟩, ⟨rfl, rfl⟩, ⟨rfl, rfl⟩, ⟨rfl, rfl⟩, ⟨rfl, rfl⟩, ⟨rfl, rfl⟩, ⟨rfl, rfl⟩, ⟨lit_cast (wrap_i64 (by omega) (by omega)), rfl⟩, trivial⟩ (okH_list rfl rfl rfl (okH_cons rfl rfl rfl rfl (okH_nil))) rfl⟩
     ·
      replace hR := of_false h22 hR
      refine rvO C (.agg [.pv (.lit (.int .u8 (x2 0))), .pv (.lit (.int .u8 (x2 1))), .pv (.lit (.int .u8 (x2 2))), .pv (.lit (.int .u8 (x2 3))), .pv (.lit (.int .u8 (x2 4))), .pv (.lit (.int .u8 (x2 5))), .pv (.lit (.int .u8 (x2 6))), .pv (.lit (.int .u8 (x2 7)))]) ?_
      refine rvO C (.ptr 5 3) ?_
      refine rvO C (.agg [.pv (.lit (.int .u8 (x.key 0))), .pv (.lit (.int .u8 (x.key 1))), .pv (.lit (.int .u8 (x.key 2))), .pv (.lit (.int .u8 (x.key 3))), .pv (.lit (.int .u8 (x.key 4))), .pv (.lit (.int .u8 (x.key 5))), .pv (.lit (.int .u8 (x.key 6))), .pv (.lit (.int .u8 (x.key 7)))]) ?_
      refine rvO C (.pv (.lit (.bool (((x2 0) == (x.key 0)) && (((x2 1) == (x.key 1)) && (((x2 2) == (x.key 2)) && (((x2 3) == (x.key 3)) && (((x2 4) == (x.key 4)) && (((x2 5) == (x.key 5)) && (((x2 6) == (x.key 6)) && (((x2 7) == (x.key 7)) && true))))))))))) ?_
      refine rvP C (.pv (.lit (.bool (((x2 0) == (x.key 0)) && (((x2 1) == (x.key 1)) && (((x2 2) == (x.key 2)) && (((x2 3) == (x.key 3)) && (((x2 4) == (x.key 4)) && (((x2 5) == (x.key 5)) && (((x2 6) == (x.key 6)) && (((x2 7) == (x.key 7)) && true))))))))))) ?_
      refine rvP C (.pv (.lit (.bool (((x2 0) == (x.key 0)) && (((x2 1) == (x.key 1)) && (((x2 2) == (x.key 2)) && (((x2 3) == (x.key 3)) && (((x2 4) == (x.key 4)) && (((x2 5) == (x.key 5)) && (((x2 6) == (x.key 6)) && (((x2 7) == (x.key 7)) && true))))))))))) ?_
      refine rvc_nil ?_
      refine Awp.regionP C ?_
      refine rvP C (.pv (.lit (.int .i64 (IntKind.i64.wrap ((i2 : Int) + 1))))) ?_
      refine rvP C (.pv (.lit (.int .i64 (IntKind.i64.wrap ((i2 : Int) + 1))))) ?_
      refine rvc_nil ?_
      refine ⟨h19, ((IntKind.i64.wrap ((i2 : Int) + 1)), (((x2 0) == (x.key 0)) && (((x2 1) == (x.key 1)) && (((x2 2) == (x.key 2)) && (((x2 3) == (x.key 3)) && (((x2 4) == (x.key 4)) && (((x2 5) == (x.key 5)) && (((x2 6) == (x.key 6)) && (((x2 7) == (x.key 7)) && true))))))))), ?_, ?_⟩
      · exact ⟨hR, (by have := wrapI ((i2 : Int) + 1); dsimp only; omega)⟩
      · exact ⟨fun b => b, WeakerR.ofL (Ks := [5, 900]) hI ⟨⟨rfl, rfl⟩, ⟨rfl, rfl⟩, ⟨rfl, rfl⟩, ⟨rfl, rfl⟩, ⟨rfl, rfl⟩, ⟨rfl, rfl⟩, ⟨rfl, rfl⟩, ⟨rfl, rfl⟩, ⟨rfl, rfl⟩, ⟨lit_cast (wrap_i64 (by omega) (by omega)), rfl⟩, trivial⟩ (okH_list rfl rfl rfl (okH_cons rfl rfl rfl rfl (okH_nil))) rfl⟩
    ·
     replace hR := of_false h21 hR
     refine Awp.skip ?_
     refine Awp.regionP C ?_
     refine rvP C (.pv (.lit (.bool there1))) ?_
     refine rvP C (.pv (.lit (.bool there1))) ?_
     refine rvc_case 31 there1 rfl (fun h23 => ?_) (fun h23 => ?_)
     ·
      replace hR := of_true h23 hR
      refine rvS ?_
      refine rvS ?_
      refine rvS ?_
      refine rvS ?_
      refine rvP C (.pv (.lit (.bool true))) ?_
      refine rvP C (.pv (.lit (.bool true))) ?_
      refine rvc_nil ?_
      refine Awp.regionP C ?_
      refine rvP C (.pv (.lit (.int .i64 (IntKind.i64.wrap ((i2 : Int) + 1))))) ?_
      refine rvP C (.pv (.lit (.int .i64 (IntKind.i64.wrap ((i2 : Int) + 1))))) ?_
      refine rvc_nil ?_
      refine ⟨h19, (at_1, true), ?_, ?_⟩
      · exact ⟨hR, (by have := wrapI ((i2 : Int) + 1); dsimp only; omega)⟩
      · exact ⟨fun b => b, WeakerR.ofL (Ks := [5, 900]) hI ⟨⟨rfl, rfl⟩, ⟨rfl, rfl⟩, ⟨rfl, rfl⟩, ⟨rfl, rfl⟩, ⟨rfl, rfl⟩, ⟨rfl, rfl⟩, ⟨rfl, rfl⟩, ⟨rfl, rfl⟩, ⟨rfl, rfl⟩, ⟨lit_cast (wrap_i64 (by omega) (by omega)), rfl⟩, trivial⟩ (okH_list rfl rfl rfl (okH_cons rfl rfl rfl rfl (okH_nil))) rfl⟩
     ·
      replace hR := of_false h23 hR
      refine rvO C (.agg [.pv (.lit (.int .u8 (x2 0))), .pv (.lit (.int .u8 (x2 1))), .pv (.lit (.int .u8 (x2 2))), .pv (.lit (.int .u8 (x2 3))), .pv (.lit (.int .u8 (x2 4))), .pv (.lit (.int .u8 (x2 5))), .pv (.lit (.int .u8 (x2 6))), .pv (.lit (.int .u8 (x2 7)))]) ?_
      refine rvO C (.ptr 5 3) ?_
      refine rvO C (.agg [.pv (.lit (.int .u8 (x.key 0))), .pv (.lit (.int .u8 (x.key 1))), .pv (.lit (.int .u8 (x.key 2))), .pv (.lit (.int .u8 (x.key 3))), .pv (.lit (.int .u8 (x.key 4))), .pv (.lit (.int .u8 (x.key 5))), .pv (.lit (.int .u8 (x.key 6))), .pv (.lit (.int .u8 (x.key 7)))]) ?_
      refine rvO C (.pv (.lit (.bool (((x2 0) == (x.key 0)) && (((x2 1) == (x.key 1)) && (((x2 2) == (x.key 2)) && (((x2 3) == (x.key 3)) && (((x2 4) == (x.key 4)) && (((x2 5) == (x.key 5)) && (((x2 6) == (x.key 6)) && (((x2 7) == (x.key 7)) && true))))))))))) ?_
      refine rvP C (.pv (.lit (.bool (((x2 0) == (x.key 0)) && (((x2 1) == (x.key 1)) && (((x2 2) == (x.key 2)) && (((x2 3) == (x.key 3)) && (((x2 4) == (x.key 4)) && (((x2 5) == (x.key 5)) && (((x2 6) == (x.key 6)) && (((x2 7) == (x.key 7)) && true))))))))))) ?_
      refine rvP C (.pv (.lit (.bool (((x2 0) == (x.key 0)) && (((x2 1) == (x.key 1)) && (((x2 2) == (x.key 2)) && (((x2 3) == (x.key 3)) && (((x2 4) == (x.key 4)) && (((x2 5) == (x.key 5)) && (((x2 6) == (x.key 6)) && (((x2 7) == (x.key 7)) && true))))))))))) ?_
      refine rvc_nil ?_
      refine Awp.regionP C ?_
      refine rvP C (.pv (.lit (.int .i64 (IntKind.i64.wrap ((i2 : Int) + 1))))) ?_
      refine rvP C (.pv (.lit (.int .i64 (IntKind.i64.wrap ((i2 : Int) + 1))))) ?_
      refine rvc_nil ?_
      refine ⟨h19, (at_1, (((x2 0) == (x.key 0)) && (((x2 1) == (x.key 1)) && (((x2 2) == (x.key 2)) && (((x2 3) == (x.key 3)) && (((x2 4) == (x.key 4)) && (((x2 5) == (x.key 5)) && (((x2 6) == (x.key 6)) && (((x2 7) == (x.key 7)) && true))))))))), ?_, ?_⟩
      · exact ⟨hR, (by have := wrapI ((i2 : Int) + 1); dsimp only; omega)⟩
      · exact ⟨fun b => b, WeakerR.ofL (Ks := [5, 900]) hI ⟨⟨rfl, rfl⟩, ⟨rfl, rfl⟩, ⟨rfl, rfl⟩, ⟨rfl, rfl⟩, ⟨rfl, rfl⟩, ⟨rfl, rfl⟩, ⟨rfl, rfl⟩, ⟨rfl, rfl⟩, ⟨rfl, rfl⟩, ⟨lit_cast (wrap_i64 (by omega) (by omega)), rfl⟩, trivial⟩ (okH_list rfl rfl rfl (okH_cons rfl rfl rfl rfl (okH_nil))) rfl⟩
   ·
    have h19 : ¬ i2 < out.length := by have := of_decide_eq_false h18; omega
    rw [drop_end h19] at hR
    refine Awp.exit ?_
    refine Awp.consP C ?_
    refine rvP C (.pv (.lit (.bool there1))) ?_
    refine rvP C (.pv (.lit (.bool (!there1)))) ?_
    refine rvc_nil ?_
    refine Awp.cond (b := (!there1)) rfl (fun h24 => ?_) (fun h24 => ?_)
    ·
     replace hR := of_true h24 hR
     refine Awp.freezeW 900 (encL (eA8 .u8) out) ?_ [(3, sS (some out.isEmpty) (eA8 .u8) out), (5, .ptr 5 0), (6, .pv (.lit (.int .i64 at_1))), (11, sS (some calls.nil) eCall calls.D), (12, .pv (.lit (.int .i64 (calls.D.length : Int)))), (13, .pv (.lit (.int .i64 (i : Int))))] [(5, .cells [.pv (.lit (.int .i64 x.client)), .pv (.lit (.int .i64 x.seq)), .pv (.lit (.bool x.write)), .pv (.lit (.int .u8 (x.key 0))), .pv (.lit (.int .u8 (x.key 1))), .pv (.lit (.int .u8 (x.key 2))), .pv (.lit (.int .u8 (x.key 3))), .pv (.lit (.int .u8 (x.key 4))), .pv (.lit (.int .u8 (x.key 5))), .pv (.lit (.int .u8 (x.key 6))), .pv (.lit (.int .u8 (x.key 7))), .pv (.lit (.string x.value)), .pv (.lit (.int .i64 x.mode)), .pv (.lit (.int .i64 x.bound)), .pv (.lit (.int .i64 x.began)), .pv (.lit (.int .i64 x.ended)), .pv (.lit (.int .i64 x.ver)), .pv (.lit (.int .i64 x.err)), .pv (.lit (.int .i64 x.floor))])] ?_ ?_ ?_
     · rfl
     · exact ⟨⟨_, rfl, .inl (.inr ⟨_, _, _, rfl, by rw [ne_isEmpty h2]; rfl⟩)⟩, ⟨_, rfl, .inl (.inl rfl)⟩, ⟨_, rfl, .inl (.inl rfl)⟩, ⟨_, rfl, .inl (.inl rfl)⟩, ⟨_, rfl, .inl (.inl rfl)⟩, ⟨_, rfl, .inl (.inl rfl)⟩, trivial⟩
     · exact ⟨⟨(by show (5 : Nat) ≠ 900; decide), .inl rfl⟩, trivial⟩
     refine Awp.consP C ?_
     refine rvc_un (rexec_prim C (δ := { v := .sl 40 0 0 8 true, new := [(40, .cells (encC (eA8 .u8) []))] }) rfl rfl rfl rfl trivial rfl ?_)
     refine rvP C (sS (some out.isEmpty) (eA8 .u8) out) ?_
     refine rvP C (.pv (.lit (.int .i64 at_1))) ?_
     refine rvc_un (rexec_sliceS C (e := (eA8 .u8)) (D := out) 0 at_1.toNat rfl rfl rfl rfl rfl rfl rfl rfl rfl (by have := of_decide_eq_true h14; have := of_decide_eq_false h18; simp; omega) (by have := of_decide_eq_true h14; have := of_decide_eq_false h18; omega) (by have := of_decide_eq_true h14; have := of_decide_eq_false h18; omega) (out.take at_1.toNat) (by simp) ?_)
     refine rvc_un (rexec_append C rfl rfl rfl rfl rfl rfl rfl rfl (fun _ h => by cases h) rfl (en := (eA8 .u8)) (D0 := []) (D := (out.take at_1.toNat)) rfl rfl rfl rfl (by have := of_decide_eq_true h14; have := of_decide_eq_false h18; first | omega | (simp <;> omega)) (by decide) (nn := (out.take at_1.toNat).length) (by simp <;> omega) ?_)
     refine rvP C (.sl 44 0 ((out.take at_1.toNat).length) 8 false) ?_
     refine rvc_nil ?_
     refine Awp.consP C ?_
     refine rvP C (.sl 44 0 ((out.take at_1.toNat).length) 8 false) ?_
     refine rvP C (.ptr 5 3) ?_
     refine rvP C (.agg [.pv (.lit (.int .u8 (x.key 0))), .pv (.lit (.int .u8 (x.key 1))), .pv (.lit (.int .u8 (x.key 2))), .pv (.lit (.int .u8 (x.key 3))), .pv (.lit (.int .u8 (x.key 4))), .pv (.lit (.int .u8 (x.key 5))), .pv (.lit (.int .u8 (x.key 6))), .pv (.lit (.int .u8 (x.key 7)))]) ?_
     refine rvc_un (rexec_buildSliceF C (eA8 .u8) [x.key] rfl rfl rfl rfl rfl rfl rfl (by decide) rfl ?_)
     refine rvc_un (rexec_append C rfl rfl rfl rfl rfl rfl rfl rfl (fun _ h => by cases h) rfl (en := (eA8 .u8)) (D0 := (out.take at_1.toNat)) (D := [x.key]) rfl rfl rfl rfl (by have := of_decide_eq_true h14; have := of_decide_eq_false h18; first | omega | (simp <;> omega)) (by decide) (nn := ((out.take at_1.toNat) ++ [x.key]).length) (by simp <;> omega) ?_)
     refine rvP C (.sl 49 0 (((out.take at_1.toNat) ++ [x.key]).length) 8 false) ?_
     refine rvc_nil ?_
     refine Awp.regionP C ?_
     refine rvP C (.sl 49 0 (((out.take at_1.toNat) ++ [x.key]).length) 8 false) ?_
     refine rvP C (sS (some out.isEmpty) (eA8 .u8) out) ?_
     refine rvP C (.pv (.lit (.int .i64 at_1))) ?_
     refine rvc_un (rexec_sliceS C (e := (eA8 .u8)) (D := out) at_1.toNat out.length rfl rfl rfl rfl rfl rfl rfl rfl (by have := of_decide_eq_true h14; have := of_decide_eq_false h18; simp; omega) rfl (by have := of_decide_eq_true h14; have := of_decide_eq_false h18; omega) (by have := of_decide_eq_true h14; have := of_decide_eq_false h18; omega) (out.drop at_1.toNat) (by rw [List.take_of_length_le (by simp)]) ?_)
     refine rvc_un (rexec_append C rfl rfl rfl rfl rfl rfl rfl rfl (fun _ h => by cases h) rfl (en := (eA8 .u8)) (D0 := ((out.take at_1.toNat) ++ [x.key])) (D := (out.drop at_1.toNat)) rfl rfl rfl rfl (by have := of_decide_eq_true h14; have := of_decide_eq_false h18; first | omega | (simp <;> omega)) (by decide) (nn := (((out.take at_1.toNat) ++ [x.key]) ++ (out.drop at_1.toNat)).length) (by simp <;> omega) ?_)
     refine rvP C (.sl 54 0 ((((out.take at_1.toNat) ++ [x.key]) ++ (out.drop at_1.toNat)).length) 8 false) ?_
     refine rvc_nil ?_
     refine Awp.regionP C ?_
     refine rvP C (.pv (.lit (.int .i64 (IntKind.i64.wrap ((i : Int) + 1))))) ?_
     refine rvP C (.pv (.lit (.int .i64 (IntKind.i64.wrap ((i : Int) + 1))))) ?_
     refine rvc_nil ?_
     refine ⟨h15, (((out.take at_1.toNat) ++ [x.key]) ++ (out.drop at_1.toNat)), ?_, ?_⟩
     · exact ⟨hR, (by first | omega | (simp <;> omega))⟩
     · exact ⟨fun b => bif b == 900 then 54 else (fun b => b) b, WeakerR.ofL (Ks := [900]) hI ⟨⟨grow_to rfl rfl (by simp) rfl rfl, grow_within rfl⟩, ⟨rfl, rfl⟩, ⟨rfl, rfl⟩, ⟨lit_cast (wrap_i64 (by omega) (by omega)), rfl⟩, trivial⟩ (okH_grow (fun _ => rfl) rfl rfl (okH_nil)) rfl⟩
    ·
     replace hR := of_false h24 hR
     refine Awp.skip ?_
     refine Awp.regionP C ?_
     refine rvP C (.pv (.lit (.int .i64 (IntKind.i64.wrap ((i : Int) + 1))))) ?_
     refine rvP C (.pv (.lit (.int .i64 (IntKind.i64.wrap ((i : Int) + 1))))) ?_
     refine rvc_nil ?_
     refine ⟨h15, out, ?_, ?_⟩
     · exact ⟨hR, (by first | omega | (simp <;> omega))⟩
     · exact ⟨fun b => b, WeakerR.ofL (Ks := [900]) hI ⟨⟨grow_to rfl rfl h2 rfl rfl, grow_within rfl⟩, ⟨rfl, rfl⟩, ⟨rfl, rfl⟩, ⟨lit_cast (wrap_i64 (by omega) (by omega)), rfl⟩, trivial⟩ (okH_grow (fun _ => rfl) rfl rfl (okH_nil)) rfl⟩
  ·
   have h15 : ¬ i < calls.D.length := by have := of_decide_eq_false h14; omega
   rw [drop_end h15] at hR
   refine Awp.exit ?_
   refine Awp.consP C ?_
   refine rvP C (.sl 900 0 out.length 8 false) ?_
   refine rvP C (.sl 900 0 out.length 8 false) ?_
   refine rvc_nil ?_
   refine Awp.freezeW 900 (encL (eA8 .u8) out) ?_ [(2, sS (some out.isEmpty) (eA8 .u8) out)] [] ?_ ?_ ?_
   · rfl
   · exact ⟨⟨_, rfl, .inl (.inr ⟨_, _, _, rfl, by rw [ne_isEmpty h2]; rfl⟩)⟩, trivial⟩
   · exact trivial
   refine Awp.ret ?_
   subst hR
   exact ⟨.inl rfl, rfl⟩
 -- !! two models: ('(Sl.mk out.isEmpty out)', 'rKeys_l1 x (fun at_ there => (bif (!there) then rKeys_l0 (calls.D.drop (i + 1)) (i + 1) (((out.take at_.toNat) ++ [x.key]) ++ (out.drop at_.toNat)) else rKeys_l0 (calls.D.drop (i + 1)) (i + 1) out)) out 0 0 false') ||| ('(Sl.mk out.isEmpty out)', 'rKeys_l1 x (fun at_1 there1 => (bif (!there1) then rKeys_l0 (calls.D.drop (i + 1)) (i + 1) (((out.take at_1.toNat) ++ [x.key]) ++ (out.drop at_1.toNat)) else rKeys_l0 (calls.D.drop (i + 1)) (i + 1) out)) out 0 0 false')
def rVersions_l1 (i : Nat) (x : Op) (kk : Bool) : List Op → Nat → Bool
  | [], _ => kk 
  | x1 :: x1s, i1 => (bif ((i : Int) != (i1 : Int)) then (bif x1.write then (bif (x.ver == x1.ver) then (bif (x.ver != 0) then false else rVersions_l1 i x kk x1s (i1 + 1) ) else rVersions_l1 i x kk x1s (i1 + 1) ) else rVersions_l1 i x kk x1s (i1 + 1) ) else rVersions_l1 i x kk x1s (i1 + 1) )
def rVersions_l2 (x : Op) (kk : Bool → Bool) : List Op → Nat → Bool → Bool
  | [], _, ok => kk ok
  | x4 :: x4s, i4, ok => (bif ok then rVersions_l2 x kk x4s (i4 + 1) true else (bif x4.write then (bif (x4.ver == x.ver) then (bif (x.ver != 0) then (bif (x4.value.toList == x.value.toList) then rVersions_l2 x kk x4s (i4 + 1) (decide (x4.began < x.ended)) else rVersions_l2 x kk x4s (i4 + 1) false) else rVersions_l2 x kk x4s (i4 + 1) false) else rVersions_l2 x kk x4s (i4 + 1) false) else rVersions_l2 x kk x4s (i4 + 1) false))
def rVersions_l1b (i : Nat) (kk : Bool) : List Op → Nat → Bool
  | [], _ => kk 
  | _ :: x3s, i3 => (bif ((i : Int) != (i3 : Int)) then rVersions_l1b i kk x3s (i3 + 1)  else rVersions_l1b i kk x3s (i3 + 1) )
def rVersions_l4 (x6 : Op) (kk : Bool) : List Op → Nat → Bool
  | [], _ => kk 
  | x7 :: x7s, i7 => (bif (x7.ended != 0) then (bif (x6.ended == 0) then rVersions_l4 x6 kk x7s (i7 + 1)  else (bif (decide (x6.ended ≥ x7.began)) then rVersions_l4 x6 kk x7s (i7 + 1)  else (bif (decide (x6.ver > x7.ver)) then false else (bif x7.write then (bif (x6.ver == x7.ver) then false else rVersions_l4 x6 kk x7s (i7 + 1) ) else rVersions_l4 x6 kk x7s (i7 + 1) )))) else (bif x7.write then (bif (x6.ended == 0) then rVersions_l4 x6 kk x7s (i7 + 1)  else (bif (!(x7.ver != 0)) then rVersions_l4 x6 kk x7s (i7 + 1)  else (bif (decide (x6.ended ≥ x7.began)) then rVersions_l4 x6 kk x7s (i7 + 1)  else (bif (decide (x6.ver > x7.ver)) then false else (bif (x6.ver == x7.ver) then false else rVersions_l4 x6 kk x7s (i7 + 1) ))))) else (bif (x6.ended == 0) then rVersions_l4 x6 kk x7s (i7 + 1)  else rVersions_l4 x6 kk x7s (i7 + 1) )))
def rVersions_l3 (l : (Sl Op)) : List Op → Nat → Bool
  | [], _ => true
  | x6 :: x6s, i6 => rVersions_l4 x6 (rVersions_l3 l x6s (i6 + 1) ) l.D 0
def rVersions_l0 (l : (Sl Op)) : List Op → Nat → Bool
  | [], _ => rVersions_l3 l l.D 0 
  | x :: xs, i => (bif x.write then (bif (x.ended != 0) then (bif (x.ver == 0) then false else rVersions_l1 i x (rVersions_l0 l xs (i + 1) ) l.D 0 ) else rVersions_l1 i x (rVersions_l0 l xs (i + 1) ) l.D 0 ) else rVersions_l1b i ((bif (x.ended == 0) then rVersions_l0 l xs (i + 1)  else (bif (x.ver == 0) then rVersions_l2 x (fun ok => (bif (!ok) then false else rVersions_l0 l xs (i + 1) )) l.D 0 (x.value.toList == (⟨#[]⟩ : ByteArray).toList) else rVersions_l2 x (fun ok1 => (bif (!ok1) then false else rVersions_l0 l xs (i + 1) )) l.D 0 false))) l.D 0 )
def rVersions (l : (Sl Op)) : Bool :=
  rVersions_l0 l l.D 0
theorem rVersions_calls (l : (Sl Op)) (hl1 : l.D.length ≤ 1000000) : PCalls Try.prog 33 [sS (some l.nil) eOp l.D] (.pv (.lit (.bool (rVersions l)))) := by
 generalize hR : rVersions l = R
 refine PCalls.of_body tabOk Try.func33 rfl rfl rfl rfl rfl mixed fun E hP C hI => ?_
 refine Awp.consP C ?_
 refine rvP C (.pv (.lit (.bool false))) ?_
 refine rvc_nil ?_
 refine Awp.seq ?_
 refine Awp.consP C ?_
 refine rvP C (sS (some l.nil) eOp l.D) ?_
 refine rvP C (.pv (.lit (.int .i64 (l.D.length : Int)))) ?_
 refine rvP C (.pv (.lit (.int .i64 0))) ?_
 refine rvc_nil ?_
 refine Awp.block ?_
 refine Awp.forR (σ := Unit) (l.D.length) (fun i _v => [(0, sS (some l.nil) eOp l.D), (15, sS (some l.nil) eOp l.D), (16, .pv (.lit (.int .i64 (l.D.length : Int)))), (17, .pv (.lit (.int .i64 (i : Int))))]) (fun i _v => []) [] (fun i _v => rVersions_l0 l (l.D.drop i) i  = R) () ?_ ?_ (fun i _v h1 hR => ?_)
 · exact hR
 · exact ⟨fun b => b, WeakerR.ofL (Ks := []) hI ⟨⟨rfl, rfl⟩, ⟨rfl, rfl⟩, ⟨rfl, rfl⟩, ⟨rfl, rfl⟩, trivial⟩ (okH_nil) rfl⟩
 refine Awp.consP C ?_
 refine rvP C (.pv (.lit (.bool (decide ((i : Int) < (l.D.length : Int)))))) ?_
 refine rvc_nil ?_
 refine Awp.seq ?_
 refine Awp.cond (b := (decide ((i : Int) < (l.D.length : Int)))) rfl (fun h2 => ?_) (fun h2 => ?_)
 ·
  have h3 : i < l.D.length := by have := of_decide_eq_true h2; omega
  obtain ⟨x, h4⟩ := getX h3
  rw [drop_at h4] at hR
  refine Awp.skip ?_
  refine Awp.seq ?_
  refine Awp.block ?_
  refine Awp.consP C ?_
  refine rvP C (.pv (.lit (.int .i64 (i : Int)))) ?_
  refine rvc_un (rexec_idxS C rfl rfl rfl rfl rfl rfl x (Int.natCast_nonneg _) h4 ?_)
  refine rvP C (.agg [.pv (.lit (.bool x.write)), .pv (.lit (.string x.value)), .pv (.lit (.int .i64 x.ver)), .pv (.lit (.int .i64 x.began)), .pv (.lit (.int .i64 x.ended))]) ?_
  refine rvc_un (rexec_prim C (δ := { v := .ptr 4 0, new := [(4, .cells [.pv (.lit (.bool false)), .pv (.lit (.string ⟨#[]⟩)), .pv (.lit (.int .i64 0)), .pv (.lit (.int .i64 0)), .pv (.lit (.int .i64 0))])] }) rfl rfl rfl rfl trivial rfl ?_)
  refine rvP C (.pv (.lit (.int .i64 (i : Int)))) ?_
  refine rvc_un (rexec_prim C (δ := { v := .undef, wr := [(4, some (.cells [.pv (.lit (.bool x.write)), .pv (.lit (.string x.value)), .pv (.lit (.int .i64 x.ver)), .pv (.lit (.int .i64 x.began)), .pv (.lit (.int .i64 x.ended))]))] }) rfl rfl rfl rfl trivial rfl ?_)
  refine rvc_nil ?_
  refine Awp.seq ?_
  refine Awp.consP C ?_
  refine rvP C (.ptr 4 0) ?_
  refine rvP C (.pv (.lit (.bool x.write))) ?_
  refine rvP C (.pv (.lit (.bool x.write))) ?_
  refine rvc_case 24 x.write rfl (fun h5 => ?_) (fun h5 => ?_)
  ·
   replace hR := of_true h5 hR
   refine rvO C (.ptr 4 4) ?_
   refine rvO C (.pv (.lit (.int .i64 x.ended))) ?_
   refine rvO C (.pv (.lit (.bool (x.ended != 0)))) ?_
   refine rvP C (.pv (.lit (.bool (x.ended != 0)))) ?_
   refine rvP C (.pv (.lit (.bool (x.ended != 0)))) ?_
   refine rvc_case 29 (x.ended != 0) rfl (fun h6 => ?_) (fun h6 => ?_)
   ·
    replace hR := of_true h6 hR
    refine rvO C (.ptr 4 2) ?_
    refine rvO C (.pv (.lit (.int .i64 x.ver))) ?_
    refine rvO C (.pv (.lit (.bool (x.ver == 0)))) ?_
    refine rvP C (.pv (.lit (.bool (x.ver == 0)))) ?_
    refine rvc_nil ?_
    refine Awp.cond (b := (x.ver == 0)) rfl (fun h7 => ?_) (fun h7 => ?_)
    ·
     replace hR := of_true h7 hR
     refine Awp.consP C ?_
     refine rvP C (.pv (.lit (.bool false))) ?_
     refine rvc_nil ?_
     refine Awp.ret ?_
     subst hR
     exact ⟨.inl rfl, rfl⟩
    ·
     replace hR := of_false h7 hR
     refine Awp.skip ?_
     refine Awp.seq ?_
     refine Awp.consP C ?_
     refine rvP C (sS (some l.nil) eOp l.D) ?_
     refine rvP C (.pv (.lit (.int .i64 (l.D.length : Int)))) ?_
     refine rvP C (.pv (.lit (.int .i64 0))) ?_
     refine rvc_nil ?_
     refine Awp.block ?_
     refine Awp.forR (σ := Unit) (l.D.length) (fun i1 _v => [(0, sS (some l.nil) eOp l.D), (3, .pv (.lit (.int .i64 (i : Int)))), (4, .ptr 4 0), (15, sS (some l.nil) eOp l.D), (16, .pv (.lit (.int .i64 (l.D.length : Int)))), (17, .pv (.lit (.int .i64 (i : Int)))), (25, .ptr 4 4), (26, .pv (.lit (.int .i64 x.ended))), (27, .pv (.lit (.bool (x.ended != 0)))), (30, .ptr 4 2), (31, .pv (.lit (.int .i64 x.ver))), (32, .pv (.lit (.bool (x.ver == 0)))), (34, sS (some l.nil) eOp l.D), (35, .pv (.lit (.int .i64 (l.D.length : Int)))), (36, .pv (.lit (.int .i64 (i1 : Int))))]) (fun i1 _v => [(4, .cells [.pv (.lit (.bool x.write)), .pv (.lit (.string x.value)), .pv (.lit (.int .i64 x.ver)), .pv (.lit (.int .i64 x.began)), .pv (.lit (.int .i64 x.ended))])]) [4] (fun i1 _v => rVersions_l1 i x (rVersions_l0 l (l.D.drop (i + 1)) (i + 1) ) (l.D.drop i1) i1  = R) () ?_ ?_ (fun i1 _v h8 hR => ?_)
     · exact hR
     · exact ⟨fun b => b, WeakerR.ofL (Ks := [4]) hI ⟨⟨rfl, rfl⟩, ⟨rfl, rfl⟩, ⟨rfl, rfl⟩, ⟨rfl, rfl⟩, ⟨rfl, rfl⟩, ⟨rfl, rfl⟩, ⟨rfl, rfl⟩, ⟨rfl, rfl⟩, ⟨rfl, rfl⟩, ⟨rfl, rfl⟩, ⟨rfl, rfl⟩, ⟨rfl, rfl⟩, ⟨rfl, rfl⟩, ⟨rfl, rfl⟩, ⟨rfl, rfl⟩, trivial⟩ (okH_cons rfl rfl rfl rfl (okH_nil)) rfl⟩
     refine Awp.consP C ?_
     refine rvP C (.pv (.lit (.bool (decide ((i1 : Int) < (l.D.length : Int)))))) ?_
     refine rvc_nil ?_
     refine Awp.seq ?_
     refine Awp.cond (b := (decide ((i1 : Int) < (l.D.length : Int)))) rfl (fun h9 => ?_) (fun h9 => ?_)
     ·
      have h10 : i1 < l.D.length := by have := of_decide_eq_true h9; omega
      obtain ⟨x1, h11⟩ := getX h10
      rw [drop_at h11] at hR
      refine Awp.skip ?_
      refine Awp.seq ?_
      refine Awp.block ?_
      refine Awp.consP C ?_
      refine rvP C (.pv (.lit (.int .i64 (i1 : Int)))) ?_
      refine rvc_un (rexec_idxS C rfl rfl rfl rfl rfl rfl x1 (Int.natCast_nonneg _) h11 ?_)
      refine rvP C (.agg [.pv (.lit (.bool x1.write)), .pv (.lit (.string x1.value)), .pv (.lit (.int .i64 x1.ver)), .pv (.lit (.int .i64 x1.began)), .pv (.lit (.int .i64 x1.ended))]) ?_
      refine rvc_un (rexec_prim C (δ := { v := .ptr 6 0, new := [(6, .cells [.pv (.lit (.bool false)), .pv (.lit (.string ⟨#[]⟩)), .pv (.lit (.int .i64 0)), .pv (.lit (.int .i64 0)), .pv (.lit (.int .i64 0))])] }) rfl rfl rfl rfl trivial rfl ?_)
      refine rvP C (.pv (.lit (.int .i64 (i1 : Int)))) ?_
      refine rvc_un (rexec_prim C (δ := { v := .undef, wr := [(6, some (.cells [.pv (.lit (.bool x1.write)), .pv (.lit (.string x1.value)), .pv (.lit (.int .i64 x1.ver)), .pv (.lit (.int .i64 x1.began)), .pv (.lit (.int .i64 x1.ended))]))] }) rfl rfl rfl rfl trivial rfl ?_)
      refine rvc_nil ?_
      refine Awp.consP C ?_
      refine rvP C (.pv (.lit (.int .i64 (i : Int)))) ?_
      refine rvP C (.pv (.lit (.int .i64 (i1 : Int)))) ?_
      refine rvP C (.pv (.lit (.bool ((i : Int) != (i1 : Int))))) ?_
      refine rvP C (.pv (.lit (.bool ((i : Int) != (i1 : Int))))) ?_
      refine rvc_case 44 ((i : Int) != (i1 : Int)) rfl (fun h12 => ?_) (fun h12 => ?_)
      ·
       replace hR := of_true h12 hR
       refine rvO C (.ptr 4 0) ?_
       refine rvO C (.pv (.lit (.bool x.write))) ?_
       refine rvP C (.pv (.lit (.bool x.write))) ?_
       refine rvP C (.pv (.lit (.bool x.write))) ?_
       refine rvc_known 48 x.write true rfl h5 ?_
       refine rvO C (.ptr 6 0) ?_
       refine rvO C (.pv (.lit (.bool x1.write))) ?_
       refine rvP C (.pv (.lit (.bool x1.write))) ?_
       refine rvP C (.pv (.lit (.bool x1.write))) ?_
       refine rvc_case 52 x1.write rfl (fun h13 => ?_) (fun h13 => ?_)
       ·
        replace hR := of_true h13 hR
        refine rvO C (.ptr 4 2) ?_
        refine rvO C (.pv (.lit (.int .i64 x.ver))) ?_
        refine rvO C (.ptr 6 2) ?_
        refine rvO C (.pv (.lit (.int .i64 x1.ver))) ?_
        refine rvO C (.pv (.lit (.bool (x.ver == x1.ver)))) ?_
        refine rvP C (.pv (.lit (.bool (x.ver == x1.ver)))) ?_
        refine rvP C (.pv (.lit (.bool (x.ver == x1.ver)))) ?_
        refine rvc_case 59 (x.ver == x1.ver) rfl (fun h14 => ?_) (fun h14 => ?_)
        ·
         replace hR := of_true h14 hR
         refine rvO C (.ptr 4 2) ?_
         refine rvO C (.pv (.lit (.int .i64 x.ver))) ?_
         refine rvO C (.pv (.lit (.bool (x.ver != 0)))) ?_
         refine rvP C (.pv (.lit (.bool (x.ver != 0)))) ?_
         refine rvc_nil ?_
         refine Awp.cond (b := (x.ver != 0)) rfl (fun h15 => ?_) (fun h15 => ?_)
         ·
          replace hR := of_true h15 hR
          refine Awp.consP C ?_
          refine rvP C (.pv (.lit (.bool false))) ?_
          refine rvc_nil ?_
          refine Awp.ret ?_
          subst hR
          exact ⟨.inl rfl, rfl⟩
         ·
          replace hR := of_false h15 hR
          refine Awp.skip ?_
          refine Awp.regionP C ?_
          refine rvP C (.pv (.lit (.int .i64 (IntKind.i64.wrap ((i1 : Int) + 1))))) ?_
          refine rvP C (.pv (.lit (.int .i64 (IntKind.i64.wrap ((i1 : Int) + 1))))) ?_
          refine rvc_nil ?_
          refine ⟨h10, (), ?_, ?_⟩
          · exact hR
          · exact ⟨fun b => b, WeakerR.ofL (Ks := [4]) hI ⟨⟨rfl, rfl⟩, ⟨rfl, rfl⟩, ⟨rfl, rfl⟩, ⟨rfl, rfl⟩, ⟨rfl, rfl⟩, ⟨rfl, rfl⟩, ⟨rfl, rfl⟩, ⟨rfl, rfl⟩, ⟨rfl, rfl⟩, ⟨rfl, rfl⟩, ⟨rfl, rfl⟩, ⟨rfl, rfl⟩, ⟨rfl, rfl⟩, ⟨rfl, rfl⟩, ⟨lit_cast (wrap_i64 (by omega) (by omega)), rfl⟩, trivial⟩ (okH_cons rfl rfl rfl rfl (okH_nil)) rfl⟩
        ·
         replace hR := of_false h14 hR
         refine rvS ?_
         refine rvS ?_
         refine rvS ?_
         refine rvP C (.pv (.lit (.bool false))) ?_
         refine rvc_nil ?_
         refine Awp.condF (b := false) rfl rfl ?_
         refine Awp.skip ?_
         refine Awp.regionP C ?_
         refine rvP C (.pv (.lit (.int .i64 (IntKind.i64.wrap ((i1 : Int) + 1))))) ?_
         refine rvP C (.pv (.lit (.int .i64 (IntKind.i64.wrap ((i1 : Int) + 1))))) ?_
         refine rvc_nil ?_
         refine ⟨h10, (), ?_, ?_⟩
         · exact hR
         · exact ⟨fun b => b, WeakerR.ofL (Ks := [4]) hI ⟨⟨rfl, rfl⟩, ⟨rfl, rfl⟩, ⟨rfl, rfl⟩, ⟨rfl, rfl⟩, ⟨rfl, rfl⟩, ⟨rfl, rfl⟩, ⟨rfl, rfl⟩, ⟨rfl, rfl⟩, ⟨rfl, rfl⟩, ⟨rfl, rfl⟩, ⟨rfl, rfl⟩, ⟨rfl, rfl⟩, ⟨rfl, rfl⟩, ⟨rfl, rfl⟩, ⟨lit_cast (wrap_i64 (by omega) (by omega)), rfl⟩, trivial⟩ (okH_cons rfl rfl rfl rfl (okH_nil)) rfl⟩
       ·
        replace hR := of_false h13 hR
        refine rvS ?_
        refine rvS ?_
        refine rvS ?_
        refine rvS ?_
        refine rvS ?_
        refine rvP C (.pv (.lit (.bool false))) ?_
        refine rvP C (.pv (.lit (.bool false))) ?_
        refine rvS ?_
        refine rvS ?_
        refine rvS ?_
        refine rvP C (.pv (.lit (.bool false))) ?_
        refine rvc_nil ?_
        refine Awp.condF (b := false) rfl rfl ?_
        refine Awp.skip ?_
        refine Awp.regionP C ?_
        refine rvP C (.pv (.lit (.int .i64 (IntKind.i64.wrap ((i1 : Int) + 1))))) ?_
        refine rvP C (.pv (.lit (.int .i64 (IntKind.i64.wrap ((i1 : Int) + 1))))) ?_
        refine rvc_nil ?_
        refine ⟨h10, (), ?_, ?_⟩
        · exact hR
        · exact ⟨fun b => b, WeakerR.ofL (Ks := [4]) hI ⟨⟨rfl, rfl⟩, ⟨rfl, rfl⟩, ⟨rfl, rfl⟩, ⟨rfl, rfl⟩, ⟨rfl, rfl⟩, ⟨rfl, rfl⟩, ⟨rfl, rfl⟩, ⟨rfl, rfl⟩, ⟨rfl, rfl⟩, ⟨rfl, rfl⟩, ⟨rfl, rfl⟩, ⟨rfl, rfl⟩, ⟨rfl, rfl⟩, ⟨rfl, rfl⟩, ⟨lit_cast (wrap_i64 (by omega) (by omega)), rfl⟩, trivial⟩ (okH_cons rfl rfl rfl rfl (okH_nil)) rfl⟩
      ·
       replace hR := of_false h12 hR
       refine rvS ?_
       refine rvS ?_
       refine rvP C (.pv (.lit (.bool false))) ?_
       refine rvP C (.pv (.lit (.bool false))) ?_
       refine rvS ?_
       refine rvS ?_
       refine rvP C (.pv (.lit (.bool false))) ?_
       refine rvP C (.pv (.lit (.bool false))) ?_
       refine rvS ?_
       refine rvS ?_
       refine rvS ?_
       refine rvS ?_
       refine rvS ?_
       refine rvP C (.pv (.lit (.bool false))) ?_
       refine rvP C (.pv (.lit (.bool false))) ?_
       refine rvS ?_
       refine rvS ?_
       refine rvS ?_
       refine rvP C (.pv (.lit (.bool false))) ?_
       refine rvc_nil ?_
       refine Awp.condF (b := false) rfl rfl ?_
       refine Awp.skip ?_
       refine Awp.regionP C ?_
       refine rvP C (.pv (.lit (.int .i64 (IntKind.i64.wrap ((i1 : Int) + 1))))) ?_
       refine rvP C (.pv (.lit (.int .i64 (IntKind.i64.wrap ((i1 : Int) + 1))))) ?_
       refine rvc_nil ?_
       refine ⟨h10, (), ?_, ?_⟩
       · exact hR
       · exact ⟨fun b => b, WeakerR.ofL (Ks := [4]) hI ⟨⟨rfl, rfl⟩, ⟨rfl, rfl⟩, ⟨rfl, rfl⟩, ⟨rfl, rfl⟩, ⟨rfl, rfl⟩, ⟨rfl, rfl⟩, ⟨rfl, rfl⟩, ⟨rfl, rfl⟩, ⟨rfl, rfl⟩, ⟨rfl, rfl⟩, ⟨rfl, rfl⟩, ⟨rfl, rfl⟩, ⟨rfl, rfl⟩, ⟨rfl, rfl⟩, ⟨lit_cast (wrap_i64 (by omega) (by omega)), rfl⟩, trivial⟩ (okH_cons rfl rfl rfl rfl (okH_nil)) rfl⟩
     ·
      have h10 : ¬ i1 < l.D.length := by have := of_decide_eq_false h9; omega
      rw [drop_end h10] at hR
      refine Awp.exit ?_
      refine Awp.seq ?_
      refine Awp.consP C ?_
      refine rvP C (.ptr 4 0) ?_
      refine rvP C (.pv (.lit (.bool x.write))) ?_
      refine rvP C (.pv (.lit (.bool x.write))) ?_
      refine rvc_known 67 x.write true rfl h5 ?_
      refine rvS ?_
      refine rvS ?_
      refine rvS ?_
      refine rvP C (.pv (.lit (.bool true))) ?_
      refine rvc_nil ?_
      refine Awp.condT (b := true) rfl rfl ?_
      refine Awp.exit ?_
      refine Awp.regionP C ?_
      refine rvP C (.pv (.lit (.int .i64 (IntKind.i64.wrap ((i : Int) + 1))))) ?_
      refine rvP C (.pv (.lit (.int .i64 (IntKind.i64.wrap ((i : Int) + 1))))) ?_
      refine rvc_nil ?_
      refine ⟨h3, (), ?_, ?_⟩
      · exact hR
      · exact ⟨fun b => b, WeakerR.ofL (Ks := []) hI ⟨⟨rfl, rfl⟩, ⟨rfl, rfl⟩, ⟨rfl, rfl⟩, ⟨lit_cast (wrap_i64 (by omega) (by omega)), rfl⟩, trivial⟩ (okH_nil) rfl⟩
   ·
    replace hR := of_false h6 hR
    refine rvS ?_
    refine rvS ?_
    refine rvS ?_
    refine rvP C (.pv (.lit (.bool false))) ?_
    refine rvc_nil ?_
    refine Awp.condF (b := false) rfl rfl ?_
    refine Awp.skip ?_
    refine Awp.seq ?_
    refine Awp.consP C ?_
    refine rvP C (sS (some l.nil) eOp l.D) ?_
    refine rvP C (.pv (.lit (.int .i64 (l.D.length : Int)))) ?_
    refine rvP C (.pv (.lit (.int .i64 0))) ?_
    refine rvc_nil ?_
    refine Awp.block ?_
    refine Awp.forR (σ := Unit) (l.D.length) (fun i2 _v => [(0, sS (some l.nil) eOp l.D), (3, .pv (.lit (.int .i64 (i : Int)))), (4, .ptr 4 0), (15, sS (some l.nil) eOp l.D), (16, .pv (.lit (.int .i64 (l.D.length : Int)))), (17, .pv (.lit (.int .i64 (i : Int)))), (25, .ptr 4 4), (26, .pv (.lit (.int .i64 x.ended))), (27, .pv (.lit (.bool (x.ended != 0)))), (34, sS (some l.nil) eOp l.D), (35, .pv (.lit (.int .i64 (l.D.length : Int)))), (36, .pv (.lit (.int .i64 (i2 : Int))))]) (fun i2 _v => [(4, .cells [.pv (.lit (.bool x.write)), .pv (.lit (.string x.value)), .pv (.lit (.int .i64 x.ver)), .pv (.lit (.int .i64 x.began)), .pv (.lit (.int .i64 x.ended))])]) [4] (fun i2 _v => rVersions_l1 i x (rVersions_l0 l (l.D.drop (i + 1)) (i + 1) ) (l.D.drop i2) i2  = R) () ?_ ?_ (fun i2 _v h16 hR => ?_)
    · exact hR
    · exact ⟨fun b => b, WeakerR.ofL (Ks := [4]) hI ⟨⟨rfl, rfl⟩, ⟨rfl, rfl⟩, ⟨rfl, rfl⟩, ⟨rfl, rfl⟩, ⟨rfl, rfl⟩, ⟨rfl, rfl⟩, ⟨rfl, rfl⟩, ⟨rfl, rfl⟩, ⟨rfl, rfl⟩, ⟨rfl, rfl⟩, ⟨rfl, rfl⟩, ⟨rfl, rfl⟩, trivial⟩ (okH_cons rfl rfl rfl rfl (okH_nil)) rfl⟩
    refine Awp.consP C ?_
    refine rvP C (.pv (.lit (.bool (decide ((i2 : Int) < (l.D.length : Int)))))) ?_
    refine rvc_nil ?_
    refine Awp.seq ?_
    refine Awp.cond (b := (decide ((i2 : Int) < (l.D.length : Int)))) rfl (fun h17 => ?_) (fun h17 => ?_)
    ·
     have h18 : i2 < l.D.length := by have := of_decide_eq_true h17; omega
     obtain ⟨x2, h19⟩ := getX h18
     rw [drop_at h19] at hR
     refine Awp.skip ?_
     refine Awp.seq ?_
     refine Awp.block ?_
     refine Awp.consP C ?_
     refine rvP C (.pv (.lit (.int .i64 (i2 : Int)))) ?_
     refine rvc_un (rexec_idxS C rfl rfl rfl rfl rfl rfl x2 (Int.natCast_nonneg _) h19 ?_)
     refine rvP C (.agg [.pv (.lit (.bool x2.write)), .pv (.lit (.string x2.value)), .pv (.lit (.int .i64 x2.ver)), .pv (.lit (.int .i64 x2.began)), .pv (.lit (.int .i64 x2.ended))]) ?_
     refine rvc_un (rexec_prim C (δ := { v := .ptr 6 0, new := [(6, .cells [.pv (.lit (.bool false)), .pv (.lit (.string ⟨#[]⟩)), .pv (.lit (.int .i64 0)), .pv (.lit (.int .i64 0)), .pv (.lit (.int .i64 0))])] }) rfl rfl rfl rfl trivial rfl ?_)
     refine rvP C (.pv (.lit (.int .i64 (i2 : Int)))) ?_
     refine rvc_un (rexec_prim C (δ := { v := .undef, wr := [(6, some (.cells [.pv (.lit (.bool x2.write)), .pv (.lit (.string x2.value)), .pv (.lit (.int .i64 x2.ver)), .pv (.lit (.int .i64 x2.began)), .pv (.lit (.int .i64 x2.ended))]))] }) rfl rfl rfl rfl trivial rfl ?_)
     refine rvc_nil ?_
     refine Awp.consP C ?_
     refine rvP C (.pv (.lit (.int .i64 (i : Int)))) ?_
     refine rvP C (.pv (.lit (.int .i64 (i2 : Int)))) ?_
     refine rvP C (.pv (.lit (.bool ((i : Int) != (i2 : Int))))) ?_
     refine rvP C (.pv (.lit (.bool ((i : Int) != (i2 : Int))))) ?_
     refine rvc_case 44 ((i : Int) != (i2 : Int)) rfl (fun h20 => ?_) (fun h20 => ?_)
     ·
      replace hR := of_true h20 hR
      refine rvO C (.ptr 4 0) ?_
      refine rvO C (.pv (.lit (.bool x.write))) ?_
      refine rvP C (.pv (.lit (.bool x.write))) ?_
      refine rvP C (.pv (.lit (.bool x.write))) ?_
      refine rvc_known 48 x.write true rfl h5 ?_
      refine rvO C (.ptr 6 0) ?_
      refine rvO C (.pv (.lit (.bool x2.write))) ?_
      refine rvP C (.pv (.lit (.bool x2.write))) ?_
      refine rvP C (.pv (.lit (.bool x2.write))) ?_
      refine rvc_case 52 x2.write rfl (fun h21 => ?_) (fun h21 => ?_)
      ·
       replace hR := of_true h21 hR
       refine rvO C (.ptr 4 2) ?_
       refine rvO C (.pv (.lit (.int .i64 x.ver))) ?_
       refine rvO C (.ptr 6 2) ?_
       refine rvO C (.pv (.lit (.int .i64 x2.ver))) ?_
       refine rvO C (.pv (.lit (.bool (x.ver == x2.ver)))) ?_
       refine rvP C (.pv (.lit (.bool (x.ver == x2.ver)))) ?_
       refine rvP C (.pv (.lit (.bool (x.ver == x2.ver)))) ?_
       refine rvc_case 59 (x.ver == x2.ver) rfl (fun h22 => ?_) (fun h22 => ?_)
       ·
        replace hR := of_true h22 hR
        refine rvO C (.ptr 4 2) ?_
        refine rvO C (.pv (.lit (.int .i64 x.ver))) ?_
        refine rvO C (.pv (.lit (.bool (x.ver != 0)))) ?_
        refine rvP C (.pv (.lit (.bool (x.ver != 0)))) ?_
        refine rvc_nil ?_
        refine Awp.cond (b := (x.ver != 0)) rfl (fun h23 => ?_) (fun h23 => ?_)
        ·
         replace hR := of_true h23 hR
         refine Awp.consP C ?_
         refine rvP C (.pv (.lit (.bool false))) ?_
         refine rvc_nil ?_
         refine Awp.ret ?_
         subst hR
         exact ⟨.inl rfl, rfl⟩
        ·
         replace hR := of_false h23 hR
         refine Awp.skip ?_
         refine Awp.regionP C ?_
         refine rvP C (.pv (.lit (.int .i64 (IntKind.i64.wrap ((i2 : Int) + 1))))) ?_
         refine rvP C (.pv (.lit (.int .i64 (IntKind.i64.wrap ((i2 : Int) + 1))))) ?_
         refine rvc_nil ?_
         refine ⟨h18, (), ?_, ?_⟩
         · exact hR
         · exact ⟨fun b => b, WeakerR.ofL (Ks := [4]) hI ⟨⟨rfl, rfl⟩, ⟨rfl, rfl⟩, ⟨rfl, rfl⟩, ⟨rfl, rfl⟩, ⟨rfl, rfl⟩, ⟨rfl, rfl⟩, ⟨rfl, rfl⟩, ⟨rfl, rfl⟩, ⟨rfl, rfl⟩, ⟨rfl, rfl⟩, ⟨rfl, rfl⟩, ⟨lit_cast (wrap_i64 (by omega) (by omega)), rfl⟩, trivial⟩ (okH_cons rfl rfl rfl rfl (okH_nil)) rfl⟩
       ·
        replace hR := of_false h22 hR
        refine rvS ?_
        refine rvS ?_
        refine rvS ?_
        refine rvP C (.pv (.lit (.bool false))) ?_
        refine rvc_nil ?_
        refine Awp.condF (b := false) rfl rfl ?_
        refine Awp.skip ?_
        refine Awp.regionP C ?_
        refine rvP C (.pv (.lit (.int .i64 (IntKind.i64.wrap ((i2 : Int) + 1))))) ?_
        refine rvP C (.pv (.lit (.int .i64 (IntKind.i64.wrap ((i2 : Int) + 1))))) ?_
        refine rvc_nil ?_
        refine ⟨h18, (), ?_, ?_⟩
        · exact hR
        · exact ⟨fun b => b, WeakerR.ofL (Ks := [4]) hI ⟨⟨rfl, rfl⟩, ⟨rfl, rfl⟩, ⟨rfl, rfl⟩, ⟨rfl, rfl⟩, ⟨rfl, rfl⟩, ⟨rfl, rfl⟩, ⟨rfl, rfl⟩, ⟨rfl, rfl⟩, ⟨rfl, rfl⟩, ⟨rfl, rfl⟩, ⟨rfl, rfl⟩, ⟨lit_cast (wrap_i64 (by omega) (by omega)), rfl⟩, trivial⟩ (okH_cons rfl rfl rfl rfl (okH_nil)) rfl⟩
      ·
       replace hR := of_false h21 hR
       refine rvS ?_
       refine rvS ?_
       refine rvS ?_
       refine rvS ?_
       refine rvS ?_
       refine rvP C (.pv (.lit (.bool false))) ?_
       refine rvP C (.pv (.lit (.bool false))) ?_
       refine rvS ?_
       refine rvS ?_
       refine rvS ?_
       refine rvP C (.pv (.lit (.bool false))) ?_
       refine rvc_nil ?_
       refine Awp.condF (b := false) rfl rfl ?_
       refine Awp.skip ?_
       refine Awp.regionP C ?_
       refine rvP C (.pv (.lit (.int .i64 (IntKind.i64.wrap ((i2 : Int) + 1))))) ?_
       refine rvP C (.pv (.lit (.int .i64 (IntKind.i64.wrap ((i2 : Int) + 1))))) ?_
       refine rvc_nil ?_
       refine ⟨h18, (), ?_, ?_⟩
       · exact hR
       · exact ⟨fun b => b, WeakerR.ofL (Ks := [4]) hI ⟨⟨rfl, rfl⟩, ⟨rfl, rfl⟩, ⟨rfl, rfl⟩, ⟨rfl, rfl⟩, ⟨rfl, rfl⟩, ⟨rfl, rfl⟩, ⟨rfl, rfl⟩, ⟨rfl, rfl⟩, ⟨rfl, rfl⟩, ⟨rfl, rfl⟩, ⟨rfl, rfl⟩, ⟨lit_cast (wrap_i64 (by omega) (by omega)), rfl⟩, trivial⟩ (okH_cons rfl rfl rfl rfl (okH_nil)) rfl⟩
     ·
      replace hR := of_false h20 hR
      refine rvS ?_
      refine rvS ?_
      refine rvP C (.pv (.lit (.bool false))) ?_
      refine rvP C (.pv (.lit (.bool false))) ?_
      refine rvS ?_
      refine rvS ?_
      refine rvP C (.pv (.lit (.bool false))) ?_
      refine rvP C (.pv (.lit (.bool false))) ?_
      refine rvS ?_
      refine rvS ?_
      refine rvS ?_
      refine rvS ?_
      refine rvS ?_
      refine rvP C (.pv (.lit (.bool false))) ?_
      refine rvP C (.pv (.lit (.bool false))) ?_
      refine rvS ?_
      refine rvS ?_
      refine rvS ?_
      refine rvP C (.pv (.lit (.bool false))) ?_
      refine rvc_nil ?_
      refine Awp.condF (b := false) rfl rfl ?_
      refine Awp.skip ?_
      refine Awp.regionP C ?_
      refine rvP C (.pv (.lit (.int .i64 (IntKind.i64.wrap ((i2 : Int) + 1))))) ?_
      refine rvP C (.pv (.lit (.int .i64 (IntKind.i64.wrap ((i2 : Int) + 1))))) ?_
      refine rvc_nil ?_
      refine ⟨h18, (), ?_, ?_⟩
      · exact hR
      · exact ⟨fun b => b, WeakerR.ofL (Ks := [4]) hI ⟨⟨rfl, rfl⟩, ⟨rfl, rfl⟩, ⟨rfl, rfl⟩, ⟨rfl, rfl⟩, ⟨rfl, rfl⟩, ⟨rfl, rfl⟩, ⟨rfl, rfl⟩, ⟨rfl, rfl⟩, ⟨rfl, rfl⟩, ⟨rfl, rfl⟩, ⟨rfl, rfl⟩, ⟨lit_cast (wrap_i64 (by omega) (by omega)), rfl⟩, trivial⟩ (okH_cons rfl rfl rfl rfl (okH_nil)) rfl⟩
    ·
     have h18 : ¬ i2 < l.D.length := by have := of_decide_eq_false h17; omega
     rw [drop_end h18] at hR
     refine Awp.exit ?_
     refine Awp.seq ?_
     refine Awp.consP C ?_
     refine rvP C (.ptr 4 0) ?_
     refine rvP C (.pv (.lit (.bool x.write))) ?_
     refine rvP C (.pv (.lit (.bool x.write))) ?_
     refine rvc_known 67 x.write true rfl h5 ?_
     refine rvS ?_
     refine rvS ?_
     refine rvS ?_
     refine rvP C (.pv (.lit (.bool true))) ?_
     refine rvc_nil ?_
     refine Awp.condT (b := true) rfl rfl ?_
     refine Awp.exit ?_
     refine Awp.regionP C ?_
     refine rvP C (.pv (.lit (.int .i64 (IntKind.i64.wrap ((i : Int) + 1))))) ?_
     refine rvP C (.pv (.lit (.int .i64 (IntKind.i64.wrap ((i : Int) + 1))))) ?_
     refine rvc_nil ?_
     refine ⟨h3, (), ?_, ?_⟩
     · exact hR
     · exact ⟨fun b => b, WeakerR.ofL (Ks := []) hI ⟨⟨rfl, rfl⟩, ⟨rfl, rfl⟩, ⟨rfl, rfl⟩, ⟨lit_cast (wrap_i64 (by omega) (by omega)), rfl⟩, trivial⟩ (okH_nil) rfl⟩
  ·
   replace hR := of_false h5 hR
   refine rvS ?_
   refine rvS ?_
   refine rvS ?_
   refine rvP C (.pv (.lit (.bool false))) ?_
   refine rvP C (.pv (.lit (.bool false))) ?_
   refine rvS ?_
   refine rvS ?_
   refine rvS ?_
   refine rvP C (.pv (.lit (.bool false))) ?_
   refine rvc_nil ?_
   refine Awp.condF (b := false) rfl rfl ?_
   refine Awp.skip ?_
   refine Awp.seq ?_
   refine Awp.consP C ?_
   refine rvP C (sS (some l.nil) eOp l.D) ?_
   refine rvP C (.pv (.lit (.int .i64 (l.D.length : Int)))) ?_
   refine rvP C (.pv (.lit (.int .i64 0))) ?_
   refine rvc_nil ?_
   refine Awp.block ?_
   refine Awp.forR (σ := Unit) (l.D.length) (fun i3 _v => [(0, sS (some l.nil) eOp l.D), (3, .pv (.lit (.int .i64 (i : Int)))), (4, .ptr 4 0), (15, sS (some l.nil) eOp l.D), (16, .pv (.lit (.int .i64 (l.D.length : Int)))), (17, .pv (.lit (.int .i64 (i : Int)))), (34, sS (some l.nil) eOp l.D), (35, .pv (.lit (.int .i64 (l.D.length : Int)))), (36, .pv (.lit (.int .i64 (i3 : Int))))]) (fun i3 _v => [(4, .cells [.pv (.lit (.bool x.write)), .pv (.lit (.string x.value)), .pv (.lit (.int .i64 x.ver)), .pv (.lit (.int .i64 x.began)), .pv (.lit (.int .i64 x.ended))])]) [4] (fun i3 _v => rVersions_l1b i ((bif (x.ended == 0) then rVersions_l0 l (l.D.drop (i + 1)) (i + 1)  else (bif (x.ver == 0) then rVersions_l2 x (fun ok => (bif (!ok) then false else rVersions_l0 l (l.D.drop (i + 1)) (i + 1) )) l.D 0 (x.value.toList == (⟨#[]⟩ : ByteArray).toList) else rVersions_l2 x (fun ok1 => (bif (!ok1) then false else rVersions_l0 l (l.D.drop (i + 1)) (i + 1) )) l.D 0 false))) (l.D.drop i3) i3  = R) () ?_ ?_ (fun i3 _v h24 hR => ?_)
   · exact hR
   · exact ⟨fun b => b, WeakerR.ofL (Ks := [4]) hI ⟨⟨rfl, rfl⟩, ⟨rfl, rfl⟩, ⟨rfl, rfl⟩, ⟨rfl, rfl⟩, ⟨rfl, rfl⟩, ⟨rfl, rfl⟩, ⟨rfl, rfl⟩, ⟨rfl, rfl⟩, ⟨rfl, rfl⟩, trivial⟩ (okH_cons rfl rfl rfl rfl (okH_nil)) rfl⟩
   refine Awp.consP C ?_
   refine rvP C (.pv (.lit (.bool (decide ((i3 : Int) < (l.D.length : Int)))))) ?_
   refine rvc_nil ?_
   refine Awp.seq ?_
   refine Awp.cond (b := (decide ((i3 : Int) < (l.D.length : Int)))) rfl (fun h25 => ?_) (fun h25 => ?_)
   ·
    have h26 : i3 < l.D.length := by have := of_decide_eq_true h25; omega
    obtain ⟨x3, h27⟩ := getX h26
    rw [drop_at h27] at hR
    refine Awp.skip ?_
    refine Awp.seq ?_
    refine Awp.block ?_
    refine Awp.consP C ?_
    refine rvP C (.pv (.lit (.int .i64 (i3 : Int)))) ?_
    refine rvc_un (rexec_idxS C rfl rfl rfl rfl rfl rfl x3 (Int.natCast_nonneg _) h27 ?_)
    refine rvP C (.agg [.pv (.lit (.bool x3.write)), .pv (.lit (.string x3.value)), .pv (.lit (.int .i64 x3.ver)), .pv (.lit (.int .i64 x3.began)), .pv (.lit (.int .i64 x3.ended))]) ?_
    refine rvc_un (rexec_prim C (δ := { v := .ptr 6 0, new := [(6, .cells [.pv (.lit (.bool false)), .pv (.lit (.string ⟨#[]⟩)), .pv (.lit (.int .i64 0)), .pv (.lit (.int .i64 0)), .pv (.lit (.int .i64 0))])] }) rfl rfl rfl rfl trivial rfl ?_)
    refine rvP C (.pv (.lit (.int .i64 (i3 : Int)))) ?_
    refine rvc_un (rexec_prim C (δ := { v := .undef, wr := [(6, some (.cells [.pv (.lit (.bool x3.write)), .pv (.lit (.string x3.value)), .pv (.lit (.int .i64 x3.ver)), .pv (.lit (.int .i64 x3.began)), .pv (.lit (.int .i64 x3.ended))]))] }) rfl rfl rfl rfl trivial rfl ?_)
    refine rvc_nil ?_
    refine Awp.consP C ?_
    refine rvP C (.pv (.lit (.int .i64 (i : Int)))) ?_
    refine rvP C (.pv (.lit (.int .i64 (i3 : Int)))) ?_
    refine rvP C (.pv (.lit (.bool ((i : Int) != (i3 : Int))))) ?_
    refine rvP C (.pv (.lit (.bool ((i : Int) != (i3 : Int))))) ?_
    refine rvc_case 44 ((i : Int) != (i3 : Int)) rfl (fun h28 => ?_) (fun h28 => ?_)
    ·
     replace hR := of_true h28 hR
     refine rvO C (.ptr 4 0) ?_
     refine rvO C (.pv (.lit (.bool x.write))) ?_
     refine rvP C (.pv (.lit (.bool x.write))) ?_
     refine rvP C (.pv (.lit (.bool x.write))) ?_
     refine rvc_known 48 x.write false rfl h5 ?_
     refine rvS ?_
     refine rvS ?_
     refine rvP C (.pv (.lit (.bool false))) ?_
     refine rvP C (.pv (.lit (.bool false))) ?_
     refine rvS ?_
     refine rvS ?_
     refine rvS ?_
     refine rvS ?_
     refine rvS ?_
     refine rvP C (.pv (.lit (.bool false))) ?_
     refine rvP C (.pv (.lit (.bool false))) ?_
     refine rvS ?_
     refine rvS ?_
     refine rvS ?_
     refine rvP C (.pv (.lit (.bool false))) ?_
     refine rvc_nil ?_
     refine Awp.condF (b := false) rfl rfl ?_
     refine Awp.skip ?_
     refine Awp.regionP C ?_
     refine rvP C (.pv (.lit (.int .i64 (IntKind.i64.wrap ((i3 : Int) + 1))))) ?_
     refine rvP C (.pv (.lit (.int .i64 (IntKind.i64.wrap ((i3 : Int) + 1))))) ?_
     refine rvc_nil ?_
     refine ⟨h26, (), ?_, ?_⟩
     · exact hR
     · exact ⟨fun b => b, WeakerR.ofL (Ks := [4]) hI ⟨⟨rfl, rfl⟩, ⟨rfl, rfl⟩, ⟨rfl, rfl⟩, ⟨rfl, rfl⟩, ⟨rfl, rfl⟩, ⟨rfl, rfl⟩, ⟨rfl, rfl⟩, ⟨rfl, rfl⟩, ⟨lit_cast (wrap_i64 (by omega) (by omega)), rfl⟩, trivial⟩ (okH_cons rfl rfl rfl rfl (okH_nil)) rfl⟩
    ·
     replace hR := of_false h28 hR
     refine rvS ?_
     refine rvS ?_
     refine rvP C (.pv (.lit (.bool false))) ?_
     refine rvP C (.pv (.lit (.bool false))) ?_
     refine rvS ?_
     refine rvS ?_
     refine rvP C (.pv (.lit (.bool false))) ?_
     refine rvP C (.pv (.lit (.bool false))) ?_
     refine rvS ?_
     refine rvS ?_
     refine rvS ?_
     refine rvS ?_
     refine rvS ?_
     refine rvP C (.pv (.lit (.bool false))) ?_
     refine rvP C (.pv (.lit (.bool false))) ?_
     refine rvS ?_
     refine rvS ?_
     refine rvS ?_
     refine rvP C (.pv (.lit (.bool false))) ?_
     refine rvc_nil ?_
     refine Awp.condF (b := false) rfl rfl ?_
     refine Awp.skip ?_
     refine Awp.regionP C ?_
     refine rvP C (.pv (.lit (.int .i64 (IntKind.i64.wrap ((i3 : Int) + 1))))) ?_
     refine rvP C (.pv (.lit (.int .i64 (IntKind.i64.wrap ((i3 : Int) + 1))))) ?_
     refine rvc_nil ?_
     refine ⟨h26, (), ?_, ?_⟩
     · exact hR
     · exact ⟨fun b => b, WeakerR.ofL (Ks := [4]) hI ⟨⟨rfl, rfl⟩, ⟨rfl, rfl⟩, ⟨rfl, rfl⟩, ⟨rfl, rfl⟩, ⟨rfl, rfl⟩, ⟨rfl, rfl⟩, ⟨rfl, rfl⟩, ⟨rfl, rfl⟩, ⟨lit_cast (wrap_i64 (by omega) (by omega)), rfl⟩, trivial⟩ (okH_cons rfl rfl rfl rfl (okH_nil)) rfl⟩
   ·
    have h26 : ¬ i3 < l.D.length := by have := of_decide_eq_false h25; omega
    rw [drop_end h26] at hR
    refine Awp.exit ?_
    refine Awp.seq ?_
    refine Awp.consP C ?_
    refine rvP C (.ptr 4 0) ?_
    refine rvP C (.pv (.lit (.bool x.write))) ?_
    refine rvP C (.pv (.lit (.bool x.write))) ?_
    refine rvc_known 67 x.write false rfl h5 ?_
    refine rvO C (.ptr 4 4) ?_
    refine rvO C (.pv (.lit (.int .i64 x.ended))) ?_
    refine rvO C (.pv (.lit (.bool (x.ended == 0)))) ?_
    refine rvP C (.pv (.lit (.bool (x.ended == 0)))) ?_
    refine rvc_nil ?_
    refine Awp.cond (b := (x.ended == 0)) rfl (fun h29 => ?_) (fun h29 => ?_)
    ·
     replace hR := of_true h29 hR
     refine Awp.exit ?_
     refine Awp.regionP C ?_
     refine rvP C (.pv (.lit (.int .i64 (IntKind.i64.wrap ((i : Int) + 1))))) ?_
     refine rvP C (.pv (.lit (.int .i64 (IntKind.i64.wrap ((i : Int) + 1))))) ?_
     refine rvc_nil ?_
     refine ⟨h3, (), ?_, ?_⟩
     · exact hR
     · exact ⟨fun b => b, WeakerR.ofL (Ks := []) hI ⟨⟨rfl, rfl⟩, ⟨rfl, rfl⟩, ⟨rfl, rfl⟩, ⟨lit_cast (wrap_i64 (by omega) (by omega)), rfl⟩, trivial⟩ (okH_nil) rfl⟩
    ·
     replace hR := of_false h29 hR
     refine Awp.skip ?_
     refine Awp.consP C ?_
     refine rvP C (.ptr 4 2) ?_
     refine rvP C (.pv (.lit (.int .i64 x.ver))) ?_
     refine rvP C (.pv (.lit (.bool (x.ver == 0)))) ?_
     refine rvP C (.pv (.lit (.bool (x.ver == 0)))) ?_
     refine rvc_case 75 (x.ver == 0) rfl (fun h30 => ?_) (fun h30 => ?_)
     ·
      replace hR := of_true h30 hR
      refine rvO C (.ptr 4 1) ?_
      refine rvO C (.pv (.lit (.string x.value))) ?_
      refine rvO C (.pv (.lit (.bool (x.value.toList == (⟨#[]⟩ : ByteArray).toList)))) ?_
      refine rvP C (.pv (.lit (.bool (x.value.toList == (⟨#[]⟩ : ByteArray).toList)))) ?_
      refine rvP C (.pv (.lit (.bool (x.value.toList == (⟨#[]⟩ : ByteArray).toList)))) ?_
      refine rvc_nil ?_
      refine Awp.seq ?_
      refine Awp.consP C ?_
      refine rvP C (sS (some l.nil) eOp l.D) ?_
      refine rvP C (.pv (.lit (.int .i64 (l.D.length : Int)))) ?_
      refine rvP C (.pv (.lit (.int .i64 0))) ?_
      refine rvc_nil ?_
      refine Awp.block ?_
      refine Awp.forR (σ := Bool) (l.D.length) (fun i4 v => [(0, sS (some l.nil) eOp l.D), (4, .ptr 4 0), (7, .pv (.lit (.bool v))), (15, sS (some l.nil) eOp l.D), (16, .pv (.lit (.int .i64 (l.D.length : Int)))), (17, .pv (.lit (.int .i64 (i : Int)))), (68, .ptr 4 4), (69, .pv (.lit (.int .i64 x.ended))), (70, .pv (.lit (.bool (x.ended == 0)))), (76, .ptr 4 1), (77, .pv (.lit (.string x.value))), (78, .pv (.lit (.bool (x.value.toList == (⟨#[]⟩ : ByteArray).toList)))), (80, sS (some l.nil) eOp l.D), (81, .pv (.lit (.int .i64 (l.D.length : Int)))), (82, .pv (.lit (.int .i64 (i4 : Int))))]) (fun i4 v => [(4, .cells [.pv (.lit (.bool x.write)), .pv (.lit (.string x.value)), .pv (.lit (.int .i64 x.ver)), .pv (.lit (.int .i64 x.began)), .pv (.lit (.int .i64 x.ended))])]) [4] (fun i4 v => rVersions_l2 x (fun ok => (bif (!ok) then false else rVersions_l0 l (l.D.drop (i + 1)) (i + 1) )) (l.D.drop i4) i4 v = R) (x.value.toList == (⟨#[]⟩ : ByteArray).toList) ?_ ?_ (fun i4 ok h31 hR => ?_)
      · exact hR
      · exact ⟨fun b => b, WeakerR.ofL (Ks := [4]) hI ⟨⟨rfl, rfl⟩, ⟨rfl, rfl⟩, ⟨rfl, rfl⟩, ⟨rfl, rfl⟩, ⟨rfl, rfl⟩, ⟨rfl, rfl⟩, ⟨rfl, rfl⟩, ⟨rfl, rfl⟩, ⟨rfl, rfl⟩, ⟨rfl, rfl⟩, ⟨rfl, rfl⟩, ⟨rfl, rfl⟩, ⟨rfl, rfl⟩, ⟨rfl, rfl⟩, ⟨rfl, rfl⟩, trivial⟩ (okH_cons rfl rfl rfl rfl (okH_nil)) rfl⟩
      refine Awp.consP C ?_
      refine rvP C (.pv (.lit (.bool (decide ((i4 : Int) < (l.D.length : Int)))))) ?_
      refine rvc_nil ?_
      refine Awp.seq ?_
      refine Awp.cond (b := (decide ((i4 : Int) < (l.D.length : Int)))) rfl (fun h32 => ?_) (fun h32 => ?_)
      ·
       have h33 : i4 < l.D.length := by have := of_decide_eq_true h32; omega
       obtain ⟨x4, h34⟩ := getX h33
       rw [drop_at h34] at hR
       refine Awp.skip ?_
       refine Awp.seq ?_
       refine Awp.block ?_
       refine Awp.consP C ?_
       refine rvc_un (rexec_idxS C rfl rfl rfl rfl rfl rfl x4 (Int.natCast_nonneg _) h34 ?_)
       refine rvP C (.agg [.pv (.lit (.bool x4.write)), .pv (.lit (.string x4.value)), .pv (.lit (.int .i64 x4.ver)), .pv (.lit (.int .i64 x4.began)), .pv (.lit (.int .i64 x4.ended))]) ?_
       refine rvc_un (rexec_prim C (δ := { v := .ptr 9 0, new := [(9, .cells [.pv (.lit (.bool false)), .pv (.lit (.string ⟨#[]⟩)), .pv (.lit (.int .i64 0)), .pv (.lit (.int .i64 0)), .pv (.lit (.int .i64 0))])] }) rfl rfl rfl rfl trivial rfl ?_)
       refine rvc_un (rexec_prim C (δ := { v := .undef, wr := [(9, some (.cells [.pv (.lit (.bool x4.write)), .pv (.lit (.string x4.value)), .pv (.lit (.int .i64 x4.ver)), .pv (.lit (.int .i64 x4.began)), .pv (.lit (.int .i64 x4.ended))]))] }) rfl rfl rfl rfl trivial rfl ?_)
       refine rvc_nil ?_
       refine Awp.regionP C ?_
       refine rvP C (.pv (.lit (.bool ok))) ?_
       refine rvP C (.pv (.lit (.bool ok))) ?_
       refine rvc_case 87 ok rfl (fun h35 => ?_) (fun h35 => ?_)
       ·
        replace hR := of_true h35 hR
        refine rvS ?_
        refine rvS ?_
        refine rvS ?_
        refine rvc_shutU rfl rfl rfl ?_
        refine rvc_shutU rfl rfl rfl ?_
        refine rvc_shutU rfl rfl rfl ?_
        refine rvc_shutU rfl rfl rfl ?_
        refine rvc_shutU rfl rfl rfl ?_
        refine rvS ?_
        refine rvS ?_
        refine rvc_shutU rfl rfl rfl ?_
        refine rvc_shutU rfl rfl rfl ?_
        refine rvc_shutU rfl rfl rfl ?_
        refine rvS ?_
        refine rvS ?_
        refine rvc_shutU rfl rfl rfl ?_
        refine rvc_shutU rfl rfl rfl ?_
        refine rvc_shutU rfl rfl rfl ?_
        refine rvc_shutU rfl rfl rfl ?_
        refine rvc_shutU rfl rfl rfl ?_
        refine rvS ?_
        refine rvS ?_
        refine rvc_shutU rfl rfl rfl ?_
        refine rvc_shutU rfl rfl rfl ?_
        refine rvc_shutU rfl rfl rfl ?_
        refine rvc_shutU rfl rfl rfl ?_
        refine rvc_shutU rfl rfl rfl ?_
        refine rvS ?_
        refine rvP C (.pv (.lit (.bool true))) ?_
        refine rvP C (.pv (.lit (.bool true))) ?_
        refine rvc_nil ?_
        refine Awp.regionP C ?_
        refine rvP C (.pv (.lit (.int .i64 (IntKind.i64.wrap ((i4 : Int) + 1))))) ?_
        refine rvP C (.pv (.lit (.int .i64 (IntKind.i64.wrap ((i4 : Int) + 1))))) ?_
        refine rvc_nil ?_
        refine ⟨h33, true, ?_, ?_⟩
        · exact hR
        · exact ⟨fun b => b, WeakerR.ofL (Ks := [4]) hI ⟨⟨rfl, rfl⟩, ⟨rfl, rfl⟩, ⟨rfl, rfl⟩, ⟨rfl, rfl⟩, ⟨rfl, rfl⟩, ⟨rfl, rfl⟩, ⟨rfl, rfl⟩, ⟨rfl, rfl⟩, ⟨rfl, rfl⟩, ⟨rfl, rfl⟩, ⟨rfl, rfl⟩, ⟨rfl, rfl⟩, ⟨rfl, rfl⟩, ⟨rfl, rfl⟩, ⟨lit_cast (wrap_i64 (by omega) (by omega)), rfl⟩, trivial⟩ (okH_cons rfl rfl rfl rfl (okH_nil)) rfl⟩
       ·
        replace hR := of_false h35 hR
        refine rvO C (.ptr 9 0) ?_
        refine rvO C (.pv (.lit (.bool x4.write))) ?_
        refine rvO C (.pv (.lit (.bool x4.write))) ?_
        refine rvc_case 90 x4.write rfl (fun h36 => ?_) (fun h36 => ?_)
        ·
         replace hR := of_true h36 hR
         refine rvO C (.ptr 9 2) ?_
         refine rvO C (.pv (.lit (.int .i64 x4.ver))) ?_
         refine rvO C (.ptr 4 2) ?_
         refine rvO C (.pv (.lit (.int .i64 x.ver))) ?_
         refine rvO C (.pv (.lit (.bool (x4.ver == x.ver)))) ?_
         refine rvO C (.pv (.lit (.bool (x4.ver == x.ver)))) ?_
         refine rvO C (.pv (.lit (.bool (x4.ver == x.ver)))) ?_
         refine rvc_case 97 (x4.ver == x.ver) rfl (fun h37 => ?_) (fun h37 => ?_)
         ·
          replace hR := of_true h37 hR
          refine rvO C (.ptr 4 2) ?_
          refine rvO C (.pv (.lit (.int .i64 x.ver))) ?_
          refine rvO C (.pv (.lit (.bool (x.ver != 0)))) ?_
          refine rvO C (.pv (.lit (.bool (x.ver != 0)))) ?_
          refine rvO C (.pv (.lit (.bool (x.ver != 0)))) ?_
          refine rvc_case 102 (x.ver != 0) rfl (fun h38 => ?_) (fun h38 => ?_)
          ·
           replace hR := of_true h38 hR
           refine rvO C (.ptr 9 1) ?_
           refine rvO C (.pv (.lit (.string x4.value))) ?_
           refine rvO C (.ptr 4 1) ?_
           refine rvO C (.pv (.lit (.string x.value))) ?_
           refine rvO C (.pv (.lit (.bool (x4.value.toList == x.value.toList)))) ?_
           refine rvO C (.pv (.lit (.bool (x4.value.toList == x.value.toList)))) ?_
           refine rvO C (.pv (.lit (.bool (x4.value.toList == x.value.toList)))) ?_
           refine rvc_case 109 (x4.value.toList == x.value.toList) rfl (fun h39 => ?_) (fun h39 => ?_)
           ·
            replace hR := of_true h39 hR
            refine rvO C (.ptr 9 3) ?_
            refine rvO C (.pv (.lit (.int .i64 x4.began))) ?_
            refine rvO C (.ptr 4 4) ?_
            refine rvO C (.pv (.lit (.int .i64 x.ended))) ?_
            refine rvO C (.pv (.lit (.bool (decide (x4.began < x.ended))))) ?_
            refine rvO C (.pv (.lit (.bool (decide (x4.began < x.ended))))) ?_
            refine rvP C (.pv (.lit (.bool (decide (x4.began < x.ended))))) ?_
            refine rvP C (.pv (.lit (.bool (decide (x4.began < x.ended))))) ?_
            refine rvc_nil ?_
            refine Awp.regionP C ?_
            refine rvP C (.pv (.lit (.int .i64 (IntKind.i64.wrap ((i4 : Int) + 1))))) ?_
            refine rvP C (.pv (.lit (.int .i64 (IntKind.i64.wrap ((i4 : Int) + 1))))) ?_
            refine rvc_nil ?_
            refine ⟨h33, (decide (x4.began < x.ended)), ?_, ?_⟩
            · exact hR
            · exact ⟨fun b => b, WeakerR.ofL (Ks := [4]) hI ⟨⟨rfl, rfl⟩, ⟨rfl, rfl⟩, ⟨rfl, rfl⟩, ⟨rfl, rfl⟩, ⟨rfl, rfl⟩, ⟨rfl, rfl⟩, ⟨rfl, rfl⟩, ⟨rfl, rfl⟩, ⟨rfl, rfl⟩, ⟨rfl, rfl⟩, ⟨rfl, rfl⟩, ⟨rfl, rfl⟩, ⟨rfl, rfl⟩, ⟨rfl, rfl⟩, ⟨lit_cast (wrap_i64 (by omega) (by omega)), rfl⟩, trivial⟩ (okH_cons rfl rfl rfl rfl (okH_nil)) rfl⟩
           ·
            replace hR := of_false h39 hR
            refine rvS ?_
            refine rvS ?_
            refine rvS ?_
            refine rvS ?_
            refine rvS ?_
            refine rvO C (.pv (.lit (.bool false))) ?_
            refine rvP C (.pv (.lit (.bool false))) ?_
            refine rvP C (.pv (.lit (.bool false))) ?_
            refine rvc_nil ?_
            refine Awp.regionP C ?_
            refine rvP C (.pv (.lit (.int .i64 (IntKind.i64.wrap ((i4 : Int) + 1))))) ?_
            refine rvP C (.pv (.lit (.int .i64 (IntKind.i64.wrap ((i4 : Int) + 1))))) ?_
            refine rvc_nil ?_
            refine ⟨h33, false, ?_, ?_⟩
            · exact hR
            · exact ⟨fun b => b, WeakerR.ofL (Ks := [4]) hI ⟨⟨rfl, rfl⟩, ⟨rfl, rfl⟩, ⟨rfl, rfl⟩, ⟨rfl, rfl⟩, ⟨rfl, rfl⟩, ⟨rfl, rfl⟩, ⟨rfl, rfl⟩, ⟨rfl, rfl⟩, ⟨rfl, rfl⟩, ⟨rfl, rfl⟩, ⟨rfl, rfl⟩, ⟨rfl, rfl⟩, ⟨rfl, rfl⟩, ⟨rfl, rfl⟩, ⟨lit_cast (wrap_i64 (by omega) (by omega)), rfl⟩, trivial⟩ (okH_cons rfl rfl rfl rfl (okH_nil)) rfl⟩
          ·
           replace hR := of_false h38 hR
           refine rvS ?_
           refine rvS ?_
           refine rvS ?_
           refine rvS ?_
           refine rvS ?_
           refine rvO C (.pv (.lit (.bool false))) ?_
           refine rvO C (.pv (.lit (.bool false))) ?_
           refine rvS ?_
           refine rvS ?_
           refine rvS ?_
           refine rvS ?_
           refine rvS ?_
           refine rvO C (.pv (.lit (.bool false))) ?_
           refine rvP C (.pv (.lit (.bool false))) ?_
           refine rvP C (.pv (.lit (.bool false))) ?_
           refine rvc_nil ?_
           refine Awp.regionP C ?_
           refine rvP C (.pv (.lit (.int .i64 (IntKind.i64.wrap ((i4 : Int) + 1))))) ?_
           refine rvP C (.pv (.lit (.int .i64 (IntKind.i64.wrap ((i4 : Int) + 1))))) ?_
           refine rvc_nil ?_
           refine ⟨h33, false, ?_, ?_⟩
           · exact hR
           · exact ⟨fun b => b, WeakerR.ofL (Ks := [4]) hI ⟨⟨rfl, rfl⟩, ⟨rfl, rfl⟩, ⟨rfl, rfl⟩, ⟨rfl, rfl⟩, ⟨rfl, rfl⟩, ⟨rfl, rfl⟩, ⟨rfl, rfl⟩, ⟨rfl, rfl⟩, ⟨rfl, rfl⟩, ⟨rfl, rfl⟩, ⟨rfl, rfl⟩, ⟨rfl, rfl⟩, ⟨rfl, rfl⟩, ⟨rfl, rfl⟩, ⟨lit_cast (wrap_i64 (by omega) (by omega)), rfl⟩, trivial⟩ (okH_cons rfl rfl rfl rfl (okH_nil)) rfl⟩
         ·
          replace hR := of_false h37 hR
          refine rvS ?_
          refine rvS ?_
          refine rvS ?_
          refine rvO C (.pv (.lit (.bool false))) ?_
          refine rvO C (.pv (.lit (.bool false))) ?_
          refine rvS ?_
          refine rvS ?_
          refine rvS ?_
          refine rvS ?_
          refine rvS ?_
          refine rvO C (.pv (.lit (.bool false))) ?_
          refine rvO C (.pv (.lit (.bool false))) ?_
          refine rvS ?_
          refine rvS ?_
          refine rvS ?_
          refine rvS ?_
          refine rvS ?_
          refine rvO C (.pv (.lit (.bool false))) ?_
          refine rvP C (.pv (.lit (.bool false))) ?_
          refine rvP C (.pv (.lit (.bool false))) ?_
          refine rvc_nil ?_
          refine Awp.regionP C ?_
          refine rvP C (.pv (.lit (.int .i64 (IntKind.i64.wrap ((i4 : Int) + 1))))) ?_
          refine rvP C (.pv (.lit (.int .i64 (IntKind.i64.wrap ((i4 : Int) + 1))))) ?_
          refine rvc_nil ?_
          refine ⟨h33, false, ?_, ?_⟩
          · exact hR
          · exact ⟨fun b => b, WeakerR.ofL (Ks := [4]) hI ⟨⟨rfl, rfl⟩, ⟨rfl, rfl⟩, ⟨rfl, rfl⟩, ⟨rfl, rfl⟩, ⟨rfl, rfl⟩, ⟨rfl, rfl⟩, ⟨rfl, rfl⟩, ⟨rfl, rfl⟩, ⟨rfl, rfl⟩, ⟨rfl, rfl⟩, ⟨rfl, rfl⟩, ⟨rfl, rfl⟩, ⟨rfl, rfl⟩, ⟨rfl, rfl⟩, ⟨lit_cast (wrap_i64 (by omega) (by omega)), rfl⟩, trivial⟩ (okH_cons rfl rfl rfl rfl (okH_nil)) rfl⟩
        ·
         replace hR := of_false h36 hR
         refine rvS ?_
         refine rvS ?_
         refine rvS ?_
         refine rvS ?_
         refine rvS ?_
         refine rvO C (.pv (.lit (.bool false))) ?_
         refine rvO C (.pv (.lit (.bool false))) ?_
         refine rvS ?_
         refine rvS ?_
         refine rvS ?_
         refine rvO C (.pv (.lit (.bool false))) ?_
         refine rvO C (.pv (.lit (.bool false))) ?_
         refine rvS ?_
         refine rvS ?_
         refine rvS ?_
         refine rvS ?_
         refine rvS ?_
         refine rvO C (.pv (.lit (.bool false))) ?_
         refine rvO C (.pv (.lit (.bool false))) ?_
         refine rvS ?_
         refine rvS ?_
         refine rvS ?_
         refine rvS ?_
         refine rvS ?_
         refine rvO C (.pv (.lit (.bool false))) ?_
         refine rvP C (.pv (.lit (.bool false))) ?_
         refine rvP C (.pv (.lit (.bool false))) ?_
         refine rvc_nil ?_
         refine Awp.regionP C ?_
         refine rvP C (.pv (.lit (.int .i64 (IntKind.i64.wrap ((i4 : Int) + 1))))) ?_
         refine rvP C (.pv (.lit (.int .i64 (IntKind.i64.wrap ((i4 : Int) + 1))))) ?_
         refine rvc_nil ?_
         refine ⟨h33, false, ?_, ?_⟩
         · exact hR
         · exact ⟨fun b => b, WeakerR.ofL (Ks := [4]) hI ⟨⟨rfl, rfl⟩, ⟨rfl, rfl⟩, ⟨rfl, rfl⟩, ⟨rfl, rfl⟩, ⟨rfl, rfl⟩, ⟨rfl, rfl⟩, ⟨rfl, rfl⟩, ⟨rfl, rfl⟩, ⟨rfl, rfl⟩, ⟨rfl, rfl⟩, ⟨rfl, rfl⟩, ⟨rfl, rfl⟩, ⟨rfl, rfl⟩, ⟨rfl, rfl⟩, ⟨lit_cast (wrap_i64 (by omega) (by omega)), rfl⟩, trivial⟩ (okH_cons rfl rfl rfl rfl (okH_nil)) rfl⟩
      ·
       have h33 : ¬ i4 < l.D.length := by have := of_decide_eq_false h32; omega
       rw [drop_end h33] at hR
       refine Awp.exit ?_
       refine Awp.consP C ?_
       refine rvP C (.pv (.lit (.bool ok))) ?_
       refine rvP C (.pv (.lit (.bool (!ok)))) ?_
       refine rvc_nil ?_
       refine Awp.cond (b := (!ok)) rfl (fun h40 => ?_) (fun h40 => ?_)
       ·
        replace hR := of_true h40 hR
        refine Awp.consP C ?_
        refine rvP C (.pv (.lit (.bool false))) ?_
        refine rvc_nil ?_
        refine Awp.ret ?_
        subst hR
        exact ⟨.inl rfl, rfl⟩
       ·
        replace hR := of_false h40 hR
        refine Awp.skip ?_
        refine Awp.regionP C ?_
        refine rvP C (.pv (.lit (.int .i64 (IntKind.i64.wrap ((i : Int) + 1))))) ?_
        refine rvP C (.pv (.lit (.int .i64 (IntKind.i64.wrap ((i : Int) + 1))))) ?_
        refine rvc_nil ?_
        refine ⟨h3, (), ?_, ?_⟩
        · exact hR
        · exact ⟨fun b => b, WeakerR.ofL (Ks := []) hI ⟨⟨rfl, rfl⟩, ⟨rfl, rfl⟩, ⟨rfl, rfl⟩, ⟨lit_cast (wrap_i64 (by omega) (by omega)), rfl⟩, trivial⟩ (okH_nil) rfl⟩
     ·
      replace hR := of_false h30 hR
      refine rvS ?_
      refine rvS ?_
      refine rvS ?_
      refine rvP C (.pv (.lit (.bool false))) ?_
      refine rvP C (.pv (.lit (.bool false))) ?_
      refine rvc_nil ?_
      refine Awp.seq ?_
      refine Awp.consP C ?_
      refine rvP C (sS (some l.nil) eOp l.D) ?_
      refine rvP C (.pv (.lit (.int .i64 (l.D.length : Int)))) ?_
      refine rvP C (.pv (.lit (.int .i64 0))) ?_
      refine rvc_nil ?_
      refine Awp.block ?_
      refine Awp.forR (σ := Bool) (l.D.length) (fun i5 v => [(0, sS (some l.nil) eOp l.D), (4, .ptr 4 0), (7, .pv (.lit (.bool v))), (15, sS (some l.nil) eOp l.D), (16, .pv (.lit (.int .i64 (l.D.length : Int)))), (17, .pv (.lit (.int .i64 (i : Int)))), (68, .ptr 4 4), (69, .pv (.lit (.int .i64 x.ended))), (70, .pv (.lit (.bool (x.ended == 0)))), (80, sS (some l.nil) eOp l.D), (81, .pv (.lit (.int .i64 (l.D.length : Int)))), (82, .pv (.lit (.int .i64 (i5 : Int))))]) (fun i5 v => [(4, .cells [.pv (.lit (.bool x.write)), .pv (.lit (.string x.value)), .pv (.lit (.int .i64 x.ver)), .pv (.lit (.int .i64 x.began)), .pv (.lit (.int .i64 x.ended))])]) [4] (fun i5 v => rVersions_l2 x (fun ok1 => (bif (!ok1) then false else rVersions_l0 l (l.D.drop (i + 1)) (i + 1) )) (l.D.drop i5) i5 v = R) false ?_ ?_ (fun i5 ok1 h41 hR => ?_)
      · exact hR
      · exact ⟨fun b => b, WeakerR.ofL (Ks := [4]) hI ⟨⟨rfl, rfl⟩, ⟨rfl, rfl⟩, ⟨rfl, rfl⟩, ⟨rfl, rfl⟩, ⟨rfl, rfl⟩, ⟨rfl, rfl⟩, ⟨rfl, rfl⟩, ⟨rfl, rfl⟩, ⟨rfl, rfl⟩, ⟨rfl, rfl⟩, ⟨rfl, rfl⟩, ⟨rfl, rfl⟩, trivial⟩ (okH_cons rfl rfl rfl rfl (okH_nil)) rfl⟩
      refine Awp.consP C ?_
      refine rvP C (.pv (.lit (.bool (decide ((i5 : Int) < (l.D.length : Int)))))) ?_
      refine rvc_nil ?_
      refine Awp.seq ?_
      refine Awp.cond (b := (decide ((i5 : Int) < (l.D.length : Int)))) rfl (fun h42 => ?_) (fun h42 => ?_)
      ·
       have h43 : i5 < l.D.length := by have := of_decide_eq_true h42; omega
       obtain ⟨x5, h44⟩ := getX h43
       rw [drop_at h44] at hR
       refine Awp.skip ?_
       refine Awp.seq ?_
       refine Awp.block ?_
       refine Awp.consP C ?_
       refine rvc_un (rexec_idxS C rfl rfl rfl rfl rfl rfl x5 (Int.natCast_nonneg _) h44 ?_)
       refine rvP C (.agg [.pv (.lit (.bool x5.write)), .pv (.lit (.string x5.value)), .pv (.lit (.int .i64 x5.ver)), .pv (.lit (.int .i64 x5.began)), .pv (.lit (.int .i64 x5.ended))]) ?_
       refine rvc_un (rexec_prim C (δ := { v := .ptr 9 0, new := [(9, .cells [.pv (.lit (.bool false)), .pv (.lit (.string ⟨#[]⟩)), .pv (.lit (.int .i64 0)), .pv (.lit (.int .i64 0)), .pv (.lit (.int .i64 0))])] }) rfl rfl rfl rfl trivial rfl ?_)
       refine rvc_un (rexec_prim C (δ := { v := .undef, wr := [(9, some (.cells [.pv (.lit (.bool x5.write)), .pv (.lit (.string x5.value)), .pv (.lit (.int .i64 x5.ver)), .pv (.lit (.int .i64 x5.began)), .pv (.lit (.int .i64 x5.ended))]))] }) rfl rfl rfl rfl trivial rfl ?_)
       refine rvc_nil ?_
       refine Awp.regionP C ?_
       refine rvP C (.pv (.lit (.bool ok1))) ?_
       refine rvP C (.pv (.lit (.bool ok1))) ?_
       refine rvc_case 87 ok1 rfl (fun h45 => ?_) (fun h45 => ?_)
       ·
        replace hR := of_true h45 hR
        refine rvS ?_
        refine rvS ?_
        refine rvS ?_
        refine rvc_shutU rfl rfl rfl ?_
        refine rvc_shutU rfl rfl rfl ?_
        refine rvc_shutU rfl rfl rfl ?_
        refine rvc_shutU rfl rfl rfl ?_
        refine rvc_shutU rfl rfl rfl ?_
        refine rvS ?_
        refine rvS ?_
        refine rvc_shutU rfl rfl rfl ?_
        refine rvc_shutU rfl rfl rfl ?_
        refine rvc_shutU rfl rfl rfl ?_
        refine rvS ?_
        refine rvS ?_
        refine rvc_shutU rfl rfl rfl ?_
        refine rvc_shutU rfl rfl rfl ?_
        refine rvc_shutU rfl rfl rfl ?_
        refine rvc_shutU rfl rfl rfl ?_
        refine rvc_shutU rfl rfl rfl ?_
        refine rvS ?_
        refine rvS ?_
        refine rvc_shutU rfl rfl rfl ?_
        refine rvc_shutU rfl rfl rfl ?_
        refine rvc_shutU rfl rfl rfl ?_
        refine rvc_shutU rfl rfl rfl ?_
        refine rvc_shutU rfl rfl rfl ?_
        refine rvS ?_
        refine rvP C (.pv (.lit (.bool true))) ?_
        refine rvP C (.pv (.lit (.bool true))) ?_
        refine rvc_nil ?_
        refine Awp.regionP C ?_
        refine rvP C (.pv (.lit (.int .i64 (IntKind.i64.wrap ((i5 : Int) + 1))))) ?_
        refine rvP C (.pv (.lit (.int .i64 (IntKind.i64.wrap ((i5 : Int) + 1))))) ?_
        refine rvc_nil ?_
        refine ⟨h43, true, ?_, ?_⟩
        · exact hR
        · exact ⟨fun b => b, WeakerR.ofL (Ks := [4]) hI ⟨⟨rfl, rfl⟩, ⟨rfl, rfl⟩, ⟨rfl, rfl⟩, ⟨rfl, rfl⟩, ⟨rfl, rfl⟩, ⟨rfl, rfl⟩, ⟨rfl, rfl⟩, ⟨rfl, rfl⟩, ⟨rfl, rfl⟩, ⟨rfl, rfl⟩, ⟨rfl, rfl⟩, ⟨lit_cast (wrap_i64 (by omega) (by omega)), rfl⟩, trivial⟩ (okH_cons rfl rfl rfl rfl (okH_nil)) rfl⟩
       ·
        replace hR := of_false h45 hR
        refine rvO C (.ptr 9 0) ?_
        refine rvO C (.pv (.lit (.bool x5.write))) ?_
        refine rvO C (.pv (.lit (.bool x5.write))) ?_
        refine rvc_case 90 x5.write rfl (fun h46 => ?_) (fun h46 => ?_)
        ·
         replace hR := of_true h46 hR
         refine rvO C (.ptr 9 2) ?_
         refine rvO C (.pv (.lit (.int .i64 x5.ver))) ?_
         refine rvO C (.ptr 4 2) ?_
         refine rvO C (.pv (.lit (.int .i64 x.ver))) ?_
         refine rvO C (.pv (.lit (.bool (x5.ver == x.ver)))) ?_
         refine rvO C (.pv (.lit (.bool (x5.ver == x.ver)))) ?_
         refine rvO C (.pv (.lit (.bool (x5.ver == x.ver)))) ?_
         refine rvc_case 97 (x5.ver == x.ver) rfl (fun h47 => ?_) (fun h47 => ?_)
         ·
          replace hR := of_true h47 hR
          refine rvO C (.ptr 4 2) ?_
          refine rvO C (.pv (.lit (.int .i64 x.ver))) ?_
          refine rvO C (.pv (.lit (.bool (x.ver != 0)))) ?_
          refine rvO C (.pv (.lit (.bool (x.ver != 0)))) ?_
          refine rvO C (.pv (.lit (.bool (x.ver != 0)))) ?_
          refine rvc_case 102 (x.ver != 0) rfl (fun h48 => ?_) (fun h48 => ?_)
          ·
           replace hR := of_true h48 hR
           refine rvO C (.ptr 9 1) ?_
           refine rvO C (.pv (.lit (.string x5.value))) ?_
           refine rvO C (.ptr 4 1) ?_
           refine rvO C (.pv (.lit (.string x.value))) ?_
           refine rvO C (.pv (.lit (.bool (x5.value.toList == x.value.toList)))) ?_
           refine rvO C (.pv (.lit (.bool (x5.value.toList == x.value.toList)))) ?_
           refine rvO C (.pv (.lit (.bool (x5.value.toList == x.value.toList)))) ?_
           refine rvc_case 109 (x5.value.toList == x.value.toList) rfl (fun h49 => ?_) (fun h49 => ?_)
           ·
            replace hR := of_true h49 hR
            refine rvO C (.ptr 9 3) ?_
            refine rvO C (.pv (.lit (.int .i64 x5.began))) ?_
            refine rvO C (.ptr 4 4) ?_
            refine rvO C (.pv (.lit (.int .i64 x.ended))) ?_
            refine rvO C (.pv (.lit (.bool (decide (x5.began < x.ended))))) ?_
            refine rvO C (.pv (.lit (.bool (decide (x5.began < x.ended))))) ?_
            refine rvP C (.pv (.lit (.bool (decide (x5.began < x.ended))))) ?_
            refine rvP C (.pv (.lit (.bool (decide (x5.began < x.ended))))) ?_
            refine rvc_nil ?_
            refine Awp.regionP C ?_
            refine rvP C (.pv (.lit (.int .i64 (IntKind.i64.wrap ((i5 : Int) + 1))))) ?_
            refine rvP C (.pv (.lit (.int .i64 (IntKind.i64.wrap ((i5 : Int) + 1))))) ?_
            refine rvc_nil ?_
            refine ⟨h43, (decide (x5.began < x.ended)), ?_, ?_⟩
            · exact hR
            · exact ⟨fun b => b, WeakerR.ofL (Ks := [4]) hI ⟨⟨rfl, rfl⟩, ⟨rfl, rfl⟩, ⟨rfl, rfl⟩, ⟨rfl, rfl⟩, ⟨rfl, rfl⟩, ⟨rfl, rfl⟩, ⟨rfl, rfl⟩, ⟨rfl, rfl⟩, ⟨rfl, rfl⟩, ⟨rfl, rfl⟩, ⟨rfl, rfl⟩, ⟨lit_cast (wrap_i64 (by omega) (by omega)), rfl⟩, trivial⟩ (okH_cons rfl rfl rfl rfl (okH_nil)) rfl⟩
           ·
            replace hR := of_false h49 hR
            refine rvS ?_
            refine rvS ?_
            refine rvS ?_
            refine rvS ?_
            refine rvS ?_
            refine rvO C (.pv (.lit (.bool false))) ?_
            refine rvP C (.pv (.lit (.bool false))) ?_
            refine rvP C (.pv (.lit (.bool false))) ?_
            refine rvc_nil ?_
            refine Awp.regionP C ?_
            refine rvP C (.pv (.lit (.int .i64 (IntKind.i64.wrap ((i5 : Int) + 1))))) ?_
            refine rvP C (.pv (.lit (.int .i64 (IntKind.i64.wrap ((i5 : Int) + 1))))) ?_
            refine rvc_nil ?_
            refine ⟨h43, false, ?_, ?_⟩
            · exact hR
            · exact ⟨fun b => b, WeakerR.ofL (Ks := [4]) hI ⟨⟨rfl, rfl⟩, ⟨rfl, rfl⟩, ⟨rfl, rfl⟩, ⟨rfl, rfl⟩, ⟨rfl, rfl⟩, ⟨rfl, rfl⟩, ⟨rfl, rfl⟩, ⟨rfl, rfl⟩, ⟨rfl, rfl⟩, ⟨rfl, rfl⟩, ⟨rfl, rfl⟩, ⟨lit_cast (wrap_i64 (by omega) (by omega)), rfl⟩, trivial⟩ (okH_cons rfl rfl rfl rfl (okH_nil)) rfl⟩
          ·
           replace hR := of_false h48 hR
           refine rvS ?_
           refine rvS ?_
           refine rvS ?_
           refine rvS ?_
           refine rvS ?_
           refine rvO C (.pv (.lit (.bool false))) ?_
           refine rvO C (.pv (.lit (.bool false))) ?_
           refine rvS ?_
           refine rvS ?_
           refine rvS ?_
           refine rvS ?_
           refine rvS ?_
           refine rvO C (.pv (.lit (.bool false))) ?_
           refine rvP C (.pv (.lit (.bool false))) ?_
           refine rvP C (.pv (.lit (.bool false))) ?_
           refine rvc_nil ?_
           refine Awp.regionP C ?_
           refine rvP C (.pv (.lit (.int .i64 (IntKind.i64.wrap ((i5 : Int) + 1))))) ?_
           refine rvP C (.pv (.lit (.int .i64 (IntKind.i64.wrap ((i5 : Int) + 1))))) ?_
           refine rvc_nil ?_
           refine ⟨h43, false, ?_, ?_⟩
           · exact hR
           · exact ⟨fun b => b, WeakerR.ofL (Ks := [4]) hI ⟨⟨rfl, rfl⟩, ⟨rfl, rfl⟩, ⟨rfl, rfl⟩, ⟨rfl, rfl⟩, ⟨rfl, rfl⟩, ⟨rfl, rfl⟩, ⟨rfl, rfl⟩, ⟨rfl, rfl⟩, ⟨rfl, rfl⟩, ⟨rfl, rfl⟩, ⟨rfl, rfl⟩, ⟨lit_cast (wrap_i64 (by omega) (by omega)), rfl⟩, trivial⟩ (okH_cons rfl rfl rfl rfl (okH_nil)) rfl⟩
         ·
          replace hR := of_false h47 hR
          refine rvS ?_
          refine rvS ?_
          refine rvS ?_
          refine rvO C (.pv (.lit (.bool false))) ?_
          refine rvO C (.pv (.lit (.bool false))) ?_
          refine rvS ?_
          refine rvS ?_
          refine rvS ?_
          refine rvS ?_
          refine rvS ?_
          refine rvO C (.pv (.lit (.bool false))) ?_
          refine rvO C (.pv (.lit (.bool false))) ?_
          refine rvS ?_
          refine rvS ?_
          refine rvS ?_
          refine rvS ?_
          refine rvS ?_
          refine rvO C (.pv (.lit (.bool false))) ?_
          refine rvP C (.pv (.lit (.bool false))) ?_
          refine rvP C (.pv (.lit (.bool false))) ?_
          refine rvc_nil ?_
          refine Awp.regionP C ?_
          refine rvP C (.pv (.lit (.int .i64 (IntKind.i64.wrap ((i5 : Int) + 1))))) ?_
          refine rvP C (.pv (.lit (.int .i64 (IntKind.i64.wrap ((i5 : Int) + 1))))) ?_
          refine rvc_nil ?_
          refine ⟨h43, false, ?_, ?_⟩
          · exact hR
          · exact ⟨fun b => b, WeakerR.ofL (Ks := [4]) hI ⟨⟨rfl, rfl⟩, ⟨rfl, rfl⟩, ⟨rfl, rfl⟩, ⟨rfl, rfl⟩, ⟨rfl, rfl⟩, ⟨rfl, rfl⟩, ⟨rfl, rfl⟩, ⟨rfl, rfl⟩, ⟨rfl, rfl⟩, ⟨rfl, rfl⟩, ⟨rfl, rfl⟩, ⟨lit_cast (wrap_i64 (by omega) (by omega)), rfl⟩, trivial⟩ (okH_cons rfl rfl rfl rfl (okH_nil)) rfl⟩
        ·
         replace hR := of_false h46 hR
         refine rvS ?_
         refine rvS ?_
         refine rvS ?_
         refine rvS ?_
         refine rvS ?_
         refine rvO C (.pv (.lit (.bool false))) ?_
         refine rvO C (.pv (.lit (.bool false))) ?_
         refine rvS ?_
         refine rvS ?_
         refine rvS ?_
         refine rvO C (.pv (.lit (.bool false))) ?_
         refine rvO C (.pv (.lit (.bool false))) ?_
         refine rvS ?_
         refine rvS ?_
         refine rvS ?_
         refine rvS ?_
         refine rvS ?_
         refine rvO C (.pv (.lit (.bool false))) ?_
         refine rvO C (.pv (.lit (.bool false))) ?_
         refine rvS ?_
         refine rvS ?_
         refine rvS ?_
         refine rvS ?_
         refine rvS ?_
         refine rvO C (.pv (.lit (.bool false))) ?_
         refine rvP C (.pv (.lit (.bool false))) ?_
         refine rvP C (.pv (.lit (.bool false))) ?_
         refine rvc_nil ?_
         refine Awp.regionP C ?_
         refine rvP C (.pv (.lit (.int .i64 (IntKind.i64.wrap ((i5 : Int) + 1))))) ?_
         refine rvP C (.pv (.lit (.int .i64 (IntKind.i64.wrap ((i5 : Int) + 1))))) ?_
         refine rvc_nil ?_
         refine ⟨h43, false, ?_, ?_⟩
         · exact hR
         · exact ⟨fun b => b, WeakerR.ofL (Ks := [4]) hI ⟨⟨rfl, rfl⟩, ⟨rfl, rfl⟩, ⟨rfl, rfl⟩, ⟨rfl, rfl⟩, ⟨rfl, rfl⟩, ⟨rfl, rfl⟩, ⟨rfl, rfl⟩, ⟨rfl, rfl⟩, ⟨rfl, rfl⟩, ⟨rfl, rfl⟩, ⟨rfl, rfl⟩, ⟨lit_cast (wrap_i64 (by omega) (by omega)), rfl⟩, trivial⟩ (okH_cons rfl rfl rfl rfl (okH_nil)) rfl⟩
      ·
       have h43 : ¬ i5 < l.D.length := by have := of_decide_eq_false h42; omega
       rw [drop_end h43] at hR
       refine Awp.exit ?_
       refine Awp.consP C ?_
       refine rvP C (.pv (.lit (.bool ok1))) ?_
       refine rvP C (.pv (.lit (.bool (!ok1)))) ?_
       refine rvc_nil ?_
       refine Awp.cond (b := (!ok1)) rfl (fun h50 => ?_) (fun h50 => ?_)
       ·
        replace hR := of_true h50 hR
        refine Awp.consP C ?_
        refine rvP C (.pv (.lit (.bool false))) ?_
        refine rvc_nil ?_
        refine Awp.ret ?_
        subst hR
        exact ⟨.inl rfl, rfl⟩
       ·
        replace hR := of_false h50 hR
        refine Awp.skip ?_
        refine Awp.regionP C ?_
        refine rvP C (.pv (.lit (.int .i64 (IntKind.i64.wrap ((i : Int) + 1))))) ?_
        refine rvP C (.pv (.lit (.int .i64 (IntKind.i64.wrap ((i : Int) + 1))))) ?_
        refine rvc_nil ?_
        refine ⟨h3, (), ?_, ?_⟩
        · exact hR
        · exact ⟨fun b => b, WeakerR.ofL (Ks := []) hI ⟨⟨rfl, rfl⟩, ⟨rfl, rfl⟩, ⟨rfl, rfl⟩, ⟨lit_cast (wrap_i64 (by omega) (by omega)), rfl⟩, trivial⟩ (okH_nil) rfl⟩
 ·
  have h3 : ¬ i < l.D.length := by have := of_decide_eq_false h2; omega
  rw [drop_end h3] at hR
  refine Awp.exit ?_
  refine Awp.seq ?_
  refine Awp.consP C ?_
  refine rvP C (sS (some l.nil) eOp l.D) ?_
  refine rvP C (.pv (.lit (.int .i64 (l.D.length : Int)))) ?_
  refine rvP C (.pv (.lit (.int .i64 0))) ?_
  refine rvc_nil ?_
  refine Awp.block ?_
  refine Awp.forR (σ := Unit) (l.D.length) (fun i6 _v => [(0, sS (some l.nil) eOp l.D), (121, sS (some l.nil) eOp l.D), (122, .pv (.lit (.int .i64 (l.D.length : Int)))), (123, .pv (.lit (.int .i64 (i6 : Int))))]) (fun i6 _v => []) [] (fun i6 _v => rVersions_l3 l (l.D.drop i6) i6  = R) () ?_ ?_ (fun i6 _v h51 hR => ?_)
  · exact hR
  · exact ⟨fun b => b, WeakerR.ofL (Ks := []) hI ⟨⟨rfl, rfl⟩, ⟨rfl, rfl⟩, ⟨rfl, rfl⟩, ⟨rfl, rfl⟩, trivial⟩ (okH_nil) rfl⟩
  refine Awp.consP C ?_
  refine rvP C (.pv (.lit (.bool (decide ((i6 : Int) < (l.D.length : Int)))))) ?_
  refine rvc_nil ?_
  refine Awp.seq ?_
  refine Awp.cond (b := (decide ((i6 : Int) < (l.D.length : Int)))) rfl (fun h52 => ?_) (fun h52 => ?_)
  ·
   have h53 : i6 < l.D.length := by have := of_decide_eq_true h52; omega
   obtain ⟨x6, h54⟩ := getX h53
   rw [drop_at h54] at hR
   refine Awp.skip ?_
   refine Awp.seq ?_
   refine Awp.block ?_
   refine Awp.consP C ?_
   refine rvc_un (rexec_idxS C rfl rfl rfl rfl rfl rfl x6 (Int.natCast_nonneg _) h54 ?_)
   refine rvP C (.agg [.pv (.lit (.bool x6.write)), .pv (.lit (.string x6.value)), .pv (.lit (.int .i64 x6.ver)), .pv (.lit (.int .i64 x6.began)), .pv (.lit (.int .i64 x6.ended))]) ?_
   refine rvc_un (rexec_prim C (δ := { v := .ptr 11 0, new := [(11, .cells [.pv (.lit (.bool false)), .pv (.lit (.string ⟨#[]⟩)), .pv (.lit (.int .i64 0)), .pv (.lit (.int .i64 0)), .pv (.lit (.int .i64 0))])] }) rfl rfl rfl rfl trivial rfl ?_)
   refine rvc_un (rexec_prim C (δ := { v := .undef, wr := [(11, some (.cells [.pv (.lit (.bool x6.write)), .pv (.lit (.string x6.value)), .pv (.lit (.int .i64 x6.ver)), .pv (.lit (.int .i64 x6.began)), .pv (.lit (.int .i64 x6.ended))]))] }) rfl rfl rfl rfl trivial rfl ?_)
   refine rvc_nil ?_
   refine Awp.consP C ?_
   refine rvP C (sS (some l.nil) eOp l.D) ?_
   refine rvP C (.pv (.lit (.int .i64 (l.D.length : Int)))) ?_
   refine rvP C (.pv (.lit (.int .i64 0))) ?_
   refine rvc_nil ?_
   refine Awp.block ?_
   refine Awp.forR (σ := Unit) (l.D.length) (fun i7 _v => [(0, sS (some l.nil) eOp l.D), (11, .ptr 11 0), (121, sS (some l.nil) eOp l.D), (122, .pv (.lit (.int .i64 (l.D.length : Int)))), (123, .pv (.lit (.int .i64 (i6 : Int)))), (127, sS (some l.nil) eOp l.D), (128, .pv (.lit (.int .i64 (l.D.length : Int)))), (129, .pv (.lit (.int .i64 (i7 : Int))))]) (fun i7 _v => [(11, .cells [.pv (.lit (.bool x6.write)), .pv (.lit (.string x6.value)), .pv (.lit (.int .i64 x6.ver)), .pv (.lit (.int .i64 x6.began)), .pv (.lit (.int .i64 x6.ended))])]) [11] (fun i7 _v => rVersions_l4 x6 (rVersions_l3 l (l.D.drop (i6 + 1)) (i6 + 1) ) (l.D.drop i7) i7  = R) () ?_ ?_ (fun i7 _v h55 hR => ?_)
   · exact hR
   · exact ⟨fun b => b, WeakerR.ofL (Ks := [11]) hI ⟨⟨rfl, rfl⟩, ⟨rfl, rfl⟩, ⟨rfl, rfl⟩, ⟨rfl, rfl⟩, ⟨rfl, rfl⟩, ⟨rfl, rfl⟩, ⟨rfl, rfl⟩, ⟨rfl, rfl⟩, trivial⟩ (okH_cons rfl rfl rfl rfl (okH_nil)) rfl⟩
   refine Awp.consP C ?_
   refine rvP C (.pv (.lit (.bool (decide ((i7 : Int) < (l.D.length : Int)))))) ?_
   refine rvc_nil ?_
   refine Awp.seq ?_
   refine Awp.cond (b := (decide ((i7 : Int) < (l.D.length : Int)))) rfl (fun h56 => ?_) (fun h56 => ?_)
   ·
    have h57 : i7 < l.D.length := by have := of_decide_eq_true h56; omega
    obtain ⟨x7, h58⟩ := getX h57
    rw [drop_at h58] at hR
    refine Awp.skip ?_
    refine Awp.seq ?_
    refine Awp.block ?_
    refine Awp.consP C ?_
    refine rvc_un (rexec_idxS C rfl rfl rfl rfl rfl rfl x7 (Int.natCast_nonneg _) h58 ?_)
    refine rvP C (.agg [.pv (.lit (.bool x7.write)), .pv (.lit (.string x7.value)), .pv (.lit (.int .i64 x7.ver)), .pv (.lit (.int .i64 x7.began)), .pv (.lit (.int .i64 x7.ended))]) ?_
    refine rvc_un (rexec_prim C (δ := { v := .ptr 13 0, new := [(13, .cells [.pv (.lit (.bool false)), .pv (.lit (.string ⟨#[]⟩)), .pv (.lit (.int .i64 0)), .pv (.lit (.int .i64 0)), .pv (.lit (.int .i64 0))])] }) rfl rfl rfl rfl trivial rfl ?_)
    refine rvc_un (rexec_prim C (δ := { v := .undef, wr := [(13, some (.cells [.pv (.lit (.bool x7.write)), .pv (.lit (.string x7.value)), .pv (.lit (.int .i64 x7.ver)), .pv (.lit (.int .i64 x7.began)), .pv (.lit (.int .i64 x7.ended))]))] }) rfl rfl rfl rfl trivial rfl ?_)
    refine rvc_nil ?_
    refine Awp.consP C ?_
    refine rvP C (.ptr 13 4) ?_
    refine rvP C (.pv (.lit (.int .i64 x7.ended))) ?_
    refine rvP C (.pv (.lit (.bool (x7.ended != 0)))) ?_
    refine rvP C (.pv (.lit (.bool (x7.ended != 0)))) ?_
    refine rvc_case 136 (x7.ended != 0) rfl (fun h59 => ?_) (fun h59 => ?_)
    ·
     replace hR := of_true h59 hR
     refine rvS ?_
     refine rvS ?_
     refine rvS ?_
     refine rvc_shutU rfl rfl rfl ?_
     refine rvc_shutU rfl rfl rfl ?_
     refine rvc_shutU rfl rfl rfl ?_
     refine rvS ?_
     refine rvP C (.pv (.lit (.bool true))) ?_
     refine rvP C (.pv (.lit (.bool true))) ?_
     refine rvc_nil ?_
     refine Awp.seq ?_
     refine Awp.consP C ?_
     refine rvP C (.ptr 11 4) ?_
     refine rvP C (.pv (.lit (.int .i64 x6.ended))) ?_
     refine rvP C (.pv (.lit (.bool (x6.ended == 0)))) ?_
     refine rvP C (.pv (.lit (.bool (x6.ended == 0)))) ?_
     refine rvc_case 148 (x6.ended == 0) rfl (fun h60 => ?_) (fun h60 => ?_)
     ·
      replace hR := of_true h60 hR
      refine rvS ?_
      refine rvS ?_
      refine rvP C (.pv (.lit (.bool true))) ?_
      refine rvP C (.pv (.lit (.bool true))) ?_
      refine rvS ?_
      refine rvS ?_
      refine rvS ?_
      refine rvS ?_
      refine rvS ?_
      refine rvP C (.pv (.lit (.bool true))) ?_
      refine rvc_nil ?_
      refine Awp.condT (b := true) rfl rfl ?_
      refine Awp.exit ?_
      refine Awp.regionP C ?_
      refine rvP C (.pv (.lit (.int .i64 (IntKind.i64.wrap ((i7 : Int) + 1))))) ?_
      refine rvP C (.pv (.lit (.int .i64 (IntKind.i64.wrap ((i7 : Int) + 1))))) ?_
      refine rvc_nil ?_
      refine ⟨h57, (), ?_, ?_⟩
      · exact hR
      · exact ⟨fun b => b, WeakerR.ofL (Ks := [11]) hI ⟨⟨rfl, rfl⟩, ⟨rfl, rfl⟩, ⟨rfl, rfl⟩, ⟨rfl, rfl⟩, ⟨rfl, rfl⟩, ⟨rfl, rfl⟩, ⟨rfl, rfl⟩, ⟨lit_cast (wrap_i64 (by omega) (by omega)), rfl⟩, trivial⟩ (okH_cons rfl rfl rfl rfl (okH_nil)) rfl⟩
     ·
      replace hR := of_false h60 hR
      refine rvO C (.pv (.lit (.bool true))) ?_
      refine rvO C (.pv (.lit (.bool false))) ?_
      refine rvP C (.pv (.lit (.bool false))) ?_
      refine rvP C (.pv (.lit (.bool false))) ?_
      refine rvO C (.ptr 11 4) ?_
      refine rvO C (.pv (.lit (.int .i64 x6.ended))) ?_
      refine rvO C (.ptr 13 3) ?_
      refine rvO C (.pv (.lit (.int .i64 x7.began))) ?_
      refine rvO C (.pv (.lit (.bool (decide (x6.ended ≥ x7.began))))) ?_
      refine rvP C (.pv (.lit (.bool (decide (x6.ended ≥ x7.began))))) ?_
      refine rvc_nil ?_
      refine Awp.cond (b := (decide (x6.ended ≥ x7.began))) rfl (fun h61 => ?_) (fun h61 => ?_)
      ·
       replace hR := of_true h61 hR
       refine Awp.exit ?_
       refine Awp.regionP C ?_
       refine rvP C (.pv (.lit (.int .i64 (IntKind.i64.wrap ((i7 : Int) + 1))))) ?_
       refine rvP C (.pv (.lit (.int .i64 (IntKind.i64.wrap ((i7 : Int) + 1))))) ?_
       refine rvc_nil ?_
       refine ⟨h57, (), ?_, ?_⟩
       · exact hR
       · exact ⟨fun b => b, WeakerR.ofL (Ks := [11]) hI ⟨⟨rfl, rfl⟩, ⟨rfl, rfl⟩, ⟨rfl, rfl⟩, ⟨rfl, rfl⟩, ⟨rfl, rfl⟩, ⟨rfl, rfl⟩, ⟨rfl, rfl⟩, ⟨lit_cast (wrap_i64 (by omega) (by omega)), rfl⟩, trivial⟩ (okH_cons rfl rfl rfl rfl (okH_nil)) rfl⟩
      ·
       replace hR := of_false h61 hR
       refine Awp.skip ?_
       refine Awp.consP C ?_
       refine rvP C (.ptr 11 2) ?_
       refine rvP C (.pv (.lit (.int .i64 x6.ver))) ?_
       refine rvP C (.ptr 13 2) ?_
       refine rvP C (.pv (.lit (.int .i64 x7.ver))) ?_
       refine rvP C (.pv (.lit (.bool (decide (x6.ver > x7.ver))))) ?_
       refine rvP C (.pv (.lit (.bool (decide (x6.ver > x7.ver))))) ?_
       refine rvc_case 164 (decide (x6.ver > x7.ver)) rfl (fun h62 => ?_) (fun h62 => ?_)
       ·
        replace hR := of_true h62 hR
        refine rvS ?_
        refine rvS ?_
        refine rvS ?_
        refine rvc_shutU rfl rfl rfl ?_
        refine rvc_shutU rfl rfl rfl ?_
        refine rvc_shutU rfl rfl rfl ?_
        refine rvc_shutU rfl rfl rfl ?_
        refine rvc_shutU rfl rfl rfl ?_
        refine rvS ?_
        refine rvP C (.pv (.lit (.bool true))) ?_
        refine rvc_nil ?_
        refine Awp.condT (b := true) rfl rfl ?_
        refine Awp.consP C ?_
        refine rvP C (.pv (.lit (.bool false))) ?_
        refine rvc_nil ?_
        refine Awp.ret ?_
        subst hR
        exact ⟨.inl rfl, rfl⟩
       ·
        replace hR := of_false h62 hR
        refine rvO C (.ptr 13 0) ?_
        refine rvO C (.pv (.lit (.bool x7.write))) ?_
        refine rvO C (.pv (.lit (.bool x7.write))) ?_
        refine rvc_case 167 x7.write rfl (fun h63 => ?_) (fun h63 => ?_)
        ·
         replace hR := of_true h63 hR
         refine rvO C (.ptr 11 2) ?_
         refine rvO C (.pv (.lit (.int .i64 x6.ver))) ?_
         refine rvO C (.ptr 13 2) ?_
         refine rvO C (.pv (.lit (.int .i64 x7.ver))) ?_
         refine rvO C (.pv (.lit (.bool (x6.ver == x7.ver)))) ?_
         refine rvO C (.pv (.lit (.bool (x6.ver == x7.ver)))) ?_
         refine rvP C (.pv (.lit (.bool (x6.ver == x7.ver)))) ?_
         refine rvc_nil ?_
         refine Awp.cond (b := (x6.ver == x7.ver)) rfl (fun h64 => ?_) (fun h64 => ?_)
         ·
          replace hR := of_true h64 hR
          refine Awp.consP C ?_
          refine rvP C (.pv (.lit (.bool false))) ?_
          refine rvc_nil ?_
          refine Awp.ret ?_
          subst hR
          exact ⟨.inl rfl, rfl⟩
         ·
          replace hR := of_false h64 hR
          refine Awp.skip ?_
          refine Awp.regionP C ?_
          refine rvP C (.pv (.lit (.int .i64 (IntKind.i64.wrap ((i7 : Int) + 1))))) ?_
          refine rvP C (.pv (.lit (.int .i64 (IntKind.i64.wrap ((i7 : Int) + 1))))) ?_
          refine rvc_nil ?_
          refine ⟨h57, (), ?_, ?_⟩
          · exact hR
          · exact ⟨fun b => b, WeakerR.ofL (Ks := [11]) hI ⟨⟨rfl, rfl⟩, ⟨rfl, rfl⟩, ⟨rfl, rfl⟩, ⟨rfl, rfl⟩, ⟨rfl, rfl⟩, ⟨rfl, rfl⟩, ⟨rfl, rfl⟩, ⟨lit_cast (wrap_i64 (by omega) (by omega)), rfl⟩, trivial⟩ (okH_cons rfl rfl rfl rfl (okH_nil)) rfl⟩
        ·
         replace hR := of_false h63 hR
         refine rvS ?_
         refine rvS ?_
         refine rvS ?_
         refine rvS ?_
         refine rvS ?_
         refine rvO C (.pv (.lit (.bool false))) ?_
         refine rvP C (.pv (.lit (.bool false))) ?_
         refine rvc_nil ?_
         refine Awp.condF (b := false) rfl rfl ?_
         refine Awp.skip ?_
         refine Awp.regionP C ?_
         refine rvP C (.pv (.lit (.int .i64 (IntKind.i64.wrap ((i7 : Int) + 1))))) ?_
         refine rvP C (.pv (.lit (.int .i64 (IntKind.i64.wrap ((i7 : Int) + 1))))) ?_
         refine rvc_nil ?_
         refine ⟨h57, (), ?_, ?_⟩
         · exact hR
         · exact ⟨fun b => b, WeakerR.ofL (Ks := [11]) hI ⟨⟨rfl, rfl⟩, ⟨rfl, rfl⟩, ⟨rfl, rfl⟩, ⟨rfl, rfl⟩, ⟨rfl, rfl⟩, ⟨rfl, rfl⟩, ⟨rfl, rfl⟩, ⟨lit_cast (wrap_i64 (by omega) (by omega)), rfl⟩, trivial⟩ (okH_cons rfl rfl rfl rfl (okH_nil)) rfl⟩
    ·
     replace hR := of_false h59 hR
     refine rvO C (.ptr 13 0) ?_
     refine rvO C (.pv (.lit (.bool x7.write))) ?_
     refine rvO C (.pv (.lit (.bool x7.write))) ?_
     refine rvc_case 139 x7.write rfl (fun h65 => ?_) (fun h65 => ?_)
     ·
      replace hR := of_true h65 hR
      refine rvO C (.ptr 13 2) ?_
      refine rvO C (.pv (.lit (.int .i64 x7.ver))) ?_
      refine rvO C (.pv (.lit (.bool (x7.ver != 0)))) ?_
      refine rvO C (.pv (.lit (.bool (x7.ver != 0)))) ?_
      refine rvP C (.pv (.lit (.bool (x7.ver != 0)))) ?_
      refine rvP C (.pv (.lit (.bool (x7.ver != 0)))) ?_
      refine rvc_nil ?_
      refine Awp.seq ?_
      refine Awp.consP C ?_
      refine rvP C (.ptr 11 4) ?_
      refine rvP C (.pv (.lit (.int .i64 x6.ended))) ?_
      refine rvP C (.pv (.lit (.bool (x6.ended == 0)))) ?_
      refine rvP C (.pv (.lit (.bool (x6.ended == 0)))) ?_
      refine rvc_case 148 (x6.ended == 0) rfl (fun h66 => ?_) (fun h66 => ?_)
      ·
       replace hR := of_true h66 hR
       refine rvS ?_
       refine rvS ?_
       refine rvP C (.pv (.lit (.bool true))) ?_
       refine rvP C (.pv (.lit (.bool true))) ?_
       refine rvS ?_
       refine rvS ?_
       refine rvS ?_
       refine rvS ?_
       refine rvS ?_
       refine rvP C (.pv (.lit (.bool true))) ?_
       refine rvc_nil ?_
       refine Awp.condT (b := true) rfl rfl ?_
       refine Awp.exit ?_
       refine Awp.regionP C ?_
       refine rvP C (.pv (.lit (.int .i64 (IntKind.i64.wrap ((i7 : Int) + 1))))) ?_
       refine rvP C (.pv (.lit (.int .i64 (IntKind.i64.wrap ((i7 : Int) + 1))))) ?_
       refine rvc_nil ?_
       refine ⟨h57, (), ?_, ?_⟩
       · exact hR
       · exact ⟨fun b => b, WeakerR.ofL (Ks := [11]) hI ⟨⟨rfl, rfl⟩, ⟨rfl, rfl⟩, ⟨rfl, rfl⟩, ⟨rfl, rfl⟩, ⟨rfl, rfl⟩, ⟨rfl, rfl⟩, ⟨rfl, rfl⟩, ⟨lit_cast (wrap_i64 (by omega) (by omega)), rfl⟩, trivial⟩ (okH_cons rfl rfl rfl rfl (okH_nil)) rfl⟩
      ·
       replace hR := of_false h66 hR
       refine rvO C (.pv (.lit (.bool (x7.ver != 0)))) ?_
       refine rvO C (.pv (.lit (.bool (!(x7.ver != 0))))) ?_
       refine rvP C (.pv (.lit (.bool (!(x7.ver != 0))))) ?_
       refine rvP C (.pv (.lit (.bool (!(x7.ver != 0))))) ?_
       refine rvc_case 152 (!(x7.ver != 0)) rfl (fun h67 => ?_) (fun h67 => ?_)
       ·
        replace hR := of_true h67 hR
        refine rvS ?_
        refine rvS ?_
        refine rvS ?_
        refine rvS ?_
        refine rvS ?_
        refine rvP C (.pv (.lit (.bool true))) ?_
        refine rvc_nil ?_
        refine Awp.condT (b := true) rfl rfl ?_
        refine Awp.exit ?_
        refine Awp.regionP C ?_
        refine rvP C (.pv (.lit (.int .i64 (IntKind.i64.wrap ((i7 : Int) + 1))))) ?_
        refine rvP C (.pv (.lit (.int .i64 (IntKind.i64.wrap ((i7 : Int) + 1))))) ?_
        refine rvc_nil ?_
        refine ⟨h57, (), ?_, ?_⟩
        · exact hR
        · exact ⟨fun b => b, WeakerR.ofL (Ks := [11]) hI ⟨⟨rfl, rfl⟩, ⟨rfl, rfl⟩, ⟨rfl, rfl⟩, ⟨rfl, rfl⟩, ⟨rfl, rfl⟩, ⟨rfl, rfl⟩, ⟨rfl, rfl⟩, ⟨lit_cast (wrap_i64 (by omega) (by omega)), rfl⟩, trivial⟩ (okH_cons rfl rfl rfl rfl (okH_nil)) rfl⟩
       ·
        replace hR := of_false h67 hR
        refine rvO C (.ptr 11 4) ?_
        refine rvO C (.pv (.lit (.int .i64 x6.ended))) ?_
        refine rvO C (.ptr 13 3) ?_
        refine rvO C (.pv (.lit (.int .i64 x7.began))) ?_
        refine rvO C (.pv (.lit (.bool (decide (x6.ended ≥ x7.began))))) ?_
        refine rvP C (.pv (.lit (.bool (decide (x6.ended ≥ x7.began))))) ?_
        refine rvc_nil ?_
        refine Awp.cond (b := (decide (x6.ended ≥ x7.began))) rfl (fun h68 => ?_) (fun h68 => ?_)
        ·
         replace hR := of_true h68 hR
         refine Awp.exit ?_
         refine Awp.regionP C ?_
         refine rvP C (.pv (.lit (.int .i64 (IntKind.i64.wrap ((i7 : Int) + 1))))) ?_
         refine rvP C (.pv (.lit (.int .i64 (IntKind.i64.wrap ((i7 : Int) + 1))))) ?_
         refine rvc_nil ?_
         refine ⟨h57, (), ?_, ?_⟩
         · exact hR
         · exact ⟨fun b => b, WeakerR.ofL (Ks := [11]) hI ⟨⟨rfl, rfl⟩, ⟨rfl, rfl⟩, ⟨rfl, rfl⟩, ⟨rfl, rfl⟩, ⟨rfl, rfl⟩, ⟨rfl, rfl⟩, ⟨rfl, rfl⟩, ⟨lit_cast (wrap_i64 (by omega) (by omega)), rfl⟩, trivial⟩ (okH_cons rfl rfl rfl rfl (okH_nil)) rfl⟩
        ·
         replace hR := of_false h68 hR
         refine Awp.skip ?_
         refine Awp.consP C ?_
         refine rvP C (.ptr 11 2) ?_
         refine rvP C (.pv (.lit (.int .i64 x6.ver))) ?_
         refine rvP C (.ptr 13 2) ?_
         refine rvP C (.pv (.lit (.int .i64 x7.ver))) ?_
         refine rvP C (.pv (.lit (.bool (decide (x6.ver > x7.ver))))) ?_
         refine rvP C (.pv (.lit (.bool (decide (x6.ver > x7.ver))))) ?_
         refine rvc_case 164 (decide (x6.ver > x7.ver)) rfl (fun h69 => ?_) (fun h69 => ?_)
         ·
          replace hR := of_true h69 hR
          refine rvS ?_
          refine rvS ?_
          refine rvS ?_
          refine rvc_shutU rfl rfl rfl ?_
          refine rvc_shutU rfl rfl rfl ?_
          refine rvc_shutU rfl rfl rfl ?_
          refine rvc_shutU rfl rfl rfl ?_
          refine rvc_shutU rfl rfl rfl ?_
          refine rvS ?_
          refine rvP C (.pv (.lit (.bool true))) ?_
          refine rvc_nil ?_
          refine Awp.condT (b := true) rfl rfl ?_
          refine Awp.consP C ?_
          refine rvP C (.pv (.lit (.bool false))) ?_
          refine rvc_nil ?_
          refine Awp.ret ?_
          subst hR
          exact ⟨.inl rfl, rfl⟩
         ·
          replace hR := of_false h69 hR
          refine rvO C (.ptr 13 0) ?_
          refine rvO C (.pv (.lit (.bool x7.write))) ?_
          refine rvO C (.pv (.lit (.bool x7.write))) ?_
          refine rvc_known 167 x7.write true rfl h65 ?_
          refine rvO C (.ptr 11 2) ?_
          refine rvO C (.pv (.lit (.int .i64 x6.ver))) ?_
          refine rvO C (.ptr 13 2) ?_
          refine rvO C (.pv (.lit (.int .i64 x7.ver))) ?_
          refine rvO C (.pv (.lit (.bool (x6.ver == x7.ver)))) ?_
          refine rvO C (.pv (.lit (.bool (x6.ver == x7.ver)))) ?_
          refine rvP C (.pv (.lit (.bool (x6.ver == x7.ver)))) ?_
          refine rvc_nil ?_
          refine Awp.cond (b := (x6.ver == x7.ver)) rfl (fun h70 => ?_) (fun h70 => ?_)
          ·
           replace hR := of_true h70 hR
           refine Awp.consP C ?_
           refine rvP C (.pv (.lit (.bool false))) ?_
           refine rvc_nil ?_
           refine Awp.ret ?_
           subst hR
           exact ⟨.inl rfl, rfl⟩
          ·
           replace hR := of_false h70 hR
           refine Awp.skip ?_
           refine Awp.regionP C ?_
           refine rvP C (.pv (.lit (.int .i64 (IntKind.i64.wrap ((i7 : Int) + 1))))) ?_
           refine rvP C (.pv (.lit (.int .i64 (IntKind.i64.wrap ((i7 : Int) + 1))))) ?_
           refine rvc_nil ?_
           refine ⟨h57, (), ?_, ?_⟩
           · exact hR
           · exact ⟨fun b => b, WeakerR.ofL (Ks := [11]) hI ⟨⟨rfl, rfl⟩, ⟨rfl, rfl⟩, ⟨rfl, rfl⟩, ⟨rfl, rfl⟩, ⟨rfl, rfl⟩, ⟨rfl, rfl⟩, ⟨rfl, rfl⟩, ⟨lit_cast (wrap_i64 (by omega) (by omega)), rfl⟩, trivial⟩ (okH_cons rfl rfl rfl rfl (okH_nil)) rfl⟩
     ·
      replace hR := of_false h65 hR
      refine rvS ?_
      refine rvS ?_
      refine rvS ?_
      refine rvO C (.pv (.lit (.bool false))) ?_
      refine rvP C (.pv (.lit (.bool false))) ?_
      refine rvP C (.pv (.lit (.bool false))) ?_
      refine rvc_nil ?_
      refine Awp.seq ?_
      refine Awp.consP C ?_
      refine rvP C (.ptr 11 4) ?_
      refine rvP C (.pv (.lit (.int .i64 x6.ended))) ?_
      refine rvP C (.pv (.lit (.bool (x6.ended == 0)))) ?_
      refine rvP C (.pv (.lit (.bool (x6.ended == 0)))) ?_
      refine rvc_case 148 (x6.ended == 0) rfl (fun h71 => ?_) (fun h71 => ?_)
      ·
       replace hR := of_true h71 hR
       refine rvS ?_
       refine rvS ?_
       refine rvP C (.pv (.lit (.bool true))) ?_
       refine rvP C (.pv (.lit (.bool true))) ?_
       refine rvS ?_
       refine rvS ?_
       refine rvS ?_
       refine rvS ?_
       refine rvS ?_
       refine rvP C (.pv (.lit (.bool true))) ?_
       refine rvc_nil ?_
       refine Awp.condT (b := true) rfl rfl ?_
       refine Awp.exit ?_
       refine Awp.regionP C ?_
       refine rvP C (.pv (.lit (.int .i64 (IntKind.i64.wrap ((i7 : Int) + 1))))) ?_
       refine rvP C (.pv (.lit (.int .i64 (IntKind.i64.wrap ((i7 : Int) + 1))))) ?_
       refine rvc_nil ?_
       refine ⟨h57, (), ?_, ?_⟩
       · exact hR
       · exact ⟨fun b => b, WeakerR.ofL (Ks := [11]) hI ⟨⟨rfl, rfl⟩, ⟨rfl, rfl⟩, ⟨rfl, rfl⟩, ⟨rfl, rfl⟩, ⟨rfl, rfl⟩, ⟨rfl, rfl⟩, ⟨rfl, rfl⟩, ⟨lit_cast (wrap_i64 (by omega) (by omega)), rfl⟩, trivial⟩ (okH_cons rfl rfl rfl rfl (okH_nil)) rfl⟩
      ·
       replace hR := of_false h71 hR
       refine rvO C (.pv (.lit (.bool false))) ?_
       refine rvO C (.pv (.lit (.bool true))) ?_
       refine rvP C (.pv (.lit (.bool true))) ?_
       refine rvP C (.pv (.lit (.bool true))) ?_
       refine rvS ?_
       refine rvS ?_
       refine rvS ?_
       refine rvS ?_
       refine rvS ?_
       refine rvP C (.pv (.lit (.bool true))) ?_
       refine rvc_nil ?_
       refine Awp.condT (b := true) rfl rfl ?_
       refine Awp.exit ?_
       refine Awp.regionP C ?_
       refine rvP C (.pv (.lit (.int .i64 (IntKind.i64.wrap ((i7 : Int) + 1))))) ?_
       refine rvP C (.pv (.lit (.int .i64 (IntKind.i64.wrap ((i7 : Int) + 1))))) ?_
       refine rvc_nil ?_
       refine ⟨h57, (), ?_, ?_⟩
       · exact hR
       · exact ⟨fun b => b, WeakerR.ofL (Ks := [11]) hI ⟨⟨rfl, rfl⟩, ⟨rfl, rfl⟩, ⟨rfl, rfl⟩, ⟨rfl, rfl⟩, ⟨rfl, rfl⟩, ⟨rfl, rfl⟩, ⟨rfl, rfl⟩, ⟨lit_cast (wrap_i64 (by omega) (by omega)), rfl⟩, trivial⟩ (okH_cons rfl rfl rfl rfl (okH_nil)) rfl⟩
   ·
    have h57 : ¬ i7 < l.D.length := by have := of_decide_eq_false h56; omega
    rw [drop_end h57] at hR
    refine Awp.exit ?_
    refine Awp.regionP C ?_
    refine rvP C (.pv (.lit (.int .i64 (IntKind.i64.wrap ((i6 : Int) + 1))))) ?_
    refine rvP C (.pv (.lit (.int .i64 (IntKind.i64.wrap ((i6 : Int) + 1))))) ?_
    refine rvc_nil ?_
    refine ⟨h53, (), ?_, ?_⟩
    · exact hR
    · exact ⟨fun b => b, WeakerR.ofL (Ks := []) hI ⟨⟨rfl, rfl⟩, ⟨rfl, rfl⟩, ⟨rfl, rfl⟩, ⟨lit_cast (wrap_i64 (by omega) (by omega)), rfl⟩, trivial⟩ (okH_nil) rfl⟩
  ·
   have h53 : ¬ i6 < l.D.length := by have := of_decide_eq_false h52; omega
   rw [drop_end h53] at hR
   refine Awp.exit ?_
   refine Awp.consP C ?_
   refine rvP C (.pv (.lit (.bool true))) ?_
   refine rvc_nil ?_
   refine Awp.ret ?_
   subst hR
   exact ⟨.inl rfl, rfl⟩
end Go.Proofs.Ytoieegmebadfkaa
namespace Go.Proofs.Ytoieegmebadfkaa
open Go.Am
theorem kSlot_eq (a b : Slot) : kSlot.eq a b = decide (kL a.key = kL b.key ∧ a.ver = b.ver) := by
  show (((((a.key 0) == (b.key 0)) && (((a.key 1) == (b.key 1)) && (((a.key 2) == (b.key 2)) && (((a.key 3) == (b.key 3)) && (((a.key 4) == (b.key 4)) && (((a.key 5) == (b.key 5)) && (((a.key 6) == (b.key 6)) && (((a.key 7) == (b.key 7)) && true)))))))) && ((a.ver == b.ver) && true))) = _
  rw [eq8, Bool.eq_iff_iff]; simp
theorem kReq_eq (a b : Req) : kReq.eq a b = decide (a.client = b.client ∧ a.seq = b.seq) := by
  show ((a.client == b.client) && ((a.seq == b.seq) && true)) = _
  rw [Bool.eq_iff_iff]; simp
section maps
variable {κ β : Type} {KE : KEnc κ}
theorem mGet_set (hsym : ∀ a b, KE.eq a b = KE.eq b a) (htr : ∀ a b c, KE.eq a b = true → KE.eq a c = KE.eq b c) (p q : κ) (b : β) : ∀ (D : List (κ × β)), mGet KE q (mSet KE p b D) = if KE.eq q p then some b else mGet KE q D
  | [] => rfl
  | e :: D => by
    unfold mSet
    by_cases h1 : KE.eq p e.1 = true
    · rw [if_pos h1]
      have e1 : KE.eq q e.1 = KE.eq q p := by rw [hsym q e.1, hsym q p, htr p e.1 q h1]
      show (if KE.eq q e.1 then some b else mGet KE q D) = if KE.eq q p then some b else if KE.eq q e.1 then some e.2 else mGet KE q D
      rw [e1]
      cases KE.eq q p <;> rfl
    · rw [if_neg h1]
      show (if KE.eq q e.1 then some e.2 else mGet KE q (mSet KE p b D)) = if KE.eq q p then some b else if KE.eq q e.1 then some e.2 else mGet KE q D
      rw [mGet_set hsym htr p q b D]
      by_cases h2 : KE.eq q p = true
      · rw [if_pos h2]
        have : KE.eq q e.1 = KE.eq p e.1 := htr q p e.1 h2
        rw [this, if_neg h1]
        simp [h2]
      · simp [h2]
theorem mSet_len (p : κ) (b : β) : ∀ (D : List (κ × β)), (mSet KE p b D).length = if (mGet KE p D).isSome then D.length else D.length + 1
  | [] => rfl
  | e :: D => by
    unfold mSet mGet
    by_cases h : KE.eq p e.1 = true
    · rw [if_pos h, if_pos h]; rfl
    · rw [if_neg h, if_neg h, List.length_cons, mSet_len p b D]
      cases (mGet KE p D).isSome <;> simp
end maps
theorem kReq_sym (a b : Req) : kReq.eq a b = kReq.eq b a := by
  rw [kReq_eq, kReq_eq, decide_eq_decide]; exact ⟨fun h => ⟨h.1.symm, h.2.symm⟩, fun h => ⟨h.1.symm, h.2.symm⟩⟩
theorem kReq_tr (a b c : Req) (h : kReq.eq a b = true) : kReq.eq a c = kReq.eq b c := by
  rw [kReq_eq] at h
  obtain ⟨h1, h2⟩ := of_decide_eq_true h
  rw [kReq_eq, kReq_eq, h1, h2]
theorem kSlot_sym (a b : Slot) : kSlot.eq a b = kSlot.eq b a := by
  rw [kSlot_eq, kSlot_eq, decide_eq_decide]; exact ⟨fun h => ⟨h.1.symm, h.2.symm⟩, fun h => ⟨h.1.symm, h.2.symm⟩⟩
theorem kSlot_tr (a b c : Slot) (h : kSlot.eq a b = true) : kSlot.eq a c = kSlot.eq b c := by
  rw [kSlot_eq] at h
  obtain ⟨h1, h2⟩ := of_decide_eq_true h
  rw [kSlot_eq, kSlot_eq, h1, h2]
/-- The last one of which something is so. -/
def lastP (p : Record → Bool) : List Record → Option Record → Option Record
  | [], r => r
  | x :: xs, r => lastP p xs (if p x then some x else r)
theorem openB_l0_req (q : Req) : ∀ (xs : List Record) (i : Nat) (m1 : List (Slot × Record)) (m2 : List (Req × Record)), mGet kReq q (openB_l0 xs i m1 m2).req = lastP (fun x => kReq.eq q x.req) xs (mGet kReq q m2)
  | [], _, _, _ => rfl
  | x :: xs, i, m1, m2 => by
    unfold openB_l0 lastP
    rw [openB_l0_req q xs (i + 1), mGet_set kReq_sym kReq_tr]
theorem openB_l0_of (q : Slot) : ∀ (xs : List Record) (i : Nat) (m1 : List (Slot × Record)) (m2 : List (Req × Record)), mGet kSlot q (openB_l0 xs i m1 m2).of_ = lastP (fun x => kSlot.eq q (Slot.mk x.key x.ver)) xs (mGet kSlot q m1)
  | [], _, _, _ => rfl
  | x :: xs, i, m1, m2 => by
    unfold openB_l0 lastP
    rw [openB_l0_of q xs (i + 1), mGet_set kSlot_sym kSlot_tr]
theorem openB_req (q : Req) (recs : Sl Record) : mGet kReq q (openB recs).req = lastP (fun x => decide (q.client = x.req.client ∧ q.seq = x.req.seq)) recs.D none := by
  unfold openB
  rw [openB_l0_req]
  simp only [kReq_eq]; rfl
theorem openB_of (q : Slot) (recs : Sl Record) : mGet kSlot q (openB recs).of_ = lastP (fun x => decide (kL q.key = kL x.key ∧ q.ver = x.ver)) recs.D none := by
  unfold openB
  rw [openB_l0_of]
  simp only [kSlot_eq]; rfl
theorem lastP_some (p : Record → Bool) : ∀ (xs : List Record) (r : Option Record), (lastP p xs r).isSome = (r.isSome || xs.any p)
  | [], r => by simp [lastP]
  | x :: xs, r => by
    unfold lastP
    rw [lastP_some p xs, List.any_cons]
    cases p x <;> cases r <;> simp
def normR (r : Record) : Record := Record.mk r.index r.epoch (ofL [r.key 0, r.key 1, r.key 2, r.key 3, r.key 4, r.key 5, r.key 6, r.key 7]) r.ver r.value (Req.mk r.req.client r.req.seq)
theorem rOfC_l0_eq (c : Call) : ∀ (xs : List Record) (i : Nat) (r : Record) (o : Option Record), o.getD r = r → rOfC_l0 c xs i r.index r.epoch r.ver r.value r.req.client r.req.seq (r.key 0) (r.key 1) (r.key 2) (r.key 3) (r.key 4) (r.key 5) (r.key 6) (r.key 7) = normR ((lastP (fun x => decide (c.client = x.req.client ∧ c.seq = x.req.seq)) xs o).getD r)
  | [], _, r, o, h => by
    unfold rOfC_l0 lastP
    rw [h]; rfl
  | x :: xs, i, r, o, h => by
    unfold rOfC_l0 lastP
    by_cases h1 : c.client = x.req.client
    · rw [show (x.req.client == c.client) = true from beq_iff_eq.2 h1.symm, cond_true]
      by_cases h2 : c.seq = x.req.seq
      · rw [show (x.req.seq == c.seq) = true from beq_iff_eq.2 h2.symm, cond_true, if_pos (decide_eq_true ⟨h1, h2⟩), rOfC_l0_eq c xs (i + 1) x (some x) rfl]
        congr 1
        have : ∀ (ys : List Record) (a b : Record), (lastP (fun x => decide (c.client = x.req.client ∧ c.seq = x.req.seq)) ys (some x)).getD a = (lastP (fun x => decide (c.client = x.req.client ∧ c.seq = x.req.seq)) ys (some x)).getD b := fun ys a b => by
          have hs := lastP_some (fun x => decide (c.client = x.req.client ∧ c.seq = x.req.seq)) ys (some x)
          rw [show (some x).isSome = true from rfl, Bool.true_or] at hs
          obtain ⟨y, hy⟩ := Option.isSome_iff_exists.1 hs
          rw [hy]; rfl
        exact this xs x r
      · rw [show (x.req.seq == c.seq) = false by simpa using fun e => h2 e.symm, cond_false, if_neg (by simp [h2]), rOfC_l0_eq c xs (i + 1) r o h]
    · rw [show (x.req.client == c.client) = false by simpa using fun e => h1 e.symm, cond_false, if_neg (by simp [h1]), rOfC_l0_eq c xs (i + 1) r o h]
def lastC (c : Call) (recs : Sl Record) : Option Record := lastP (fun x => decide (c.client = x.req.client ∧ c.seq = x.req.seq)) recs.D none
theorem rOfC_eq (c : Call) (recs : Sl Record) : rOfC c recs = normR ((lastC c recs).getD zeroR) := by
  unfold rOfC lastC
  exact rOfC_l0_eq c recs.D 0 zeroR none rfl
theorem reqOf (c : Call) (recs : Sl Record) : mGet kReq (jReq c) (openB recs).req = lastC c recs := openB_req _ _
def ans (c : Call) : Bool := c.ended != 0 && c.err == 0
def cnt (c : Call) : Bool := c.write || c.mode == 0 || c.mode == 1 && c.bound == 0
theorem jAns_eq (c : Call) : jAnswered c = ans c := by unfold jAnswered ans; cases c.ended != 0 <;> rfl
theorem rAns_eq (c : Call) : rAnswered c = ans c := by unfold rAnswered ans; cases c.ended != 0 <;> rfl
theorem jCnt_eq (c : Call) : jCounts c = cnt c := by unfold jCounts cnt; cases c.write <;> cases c.mode == 0 <;> cases c.mode == 1 <;> simp
theorem rCnt_eq (c : Call) : rCounts c = cnt c := by unfold rCounts cnt; cases c.write <;> cases c.mode == 0 <;> cases c.mode == 1 <;> simp
def sel (k : List Int) (x : Call) : Bool := decide (kL x.key = k) && (cnt x && (x.write || ans x))
def opOf (recs : Sl Record) (x : Call) : Op := if x.write && !ans x then Op.mk x.write x.value ((lastC x recs).getD zeroR).ver x.began 0 else Op.mk x.write x.value x.ver x.began x.ended
def opsOf (k : List Int) (recs : Sl Record) (xs : List Call) : List Op := (xs.filter (sel k)).map (opOf recs)
theorem jOps_l0_eq (k : Nat → Int) (recs : Sl Record) : ∀ (xs : List Call) (i : Nat) (l : List Op), jOps_l0 k recs xs i l = Sl.mk (l ++ opsOf (kL k) recs xs).isEmpty (l ++ opsOf (kL k) recs xs)
  | [], _, l => by unfold jOps_l0 opsOf; simp
  | x :: xs, i, l => by
    unfold jOps_l0
    have ih := jOps_l0_eq k recs xs (i + 1)
    rw [eq8, jCnt_eq, jAns_eq, reqOf]
    unfold opsOf
    by_cases h1 : kL x.key = kL k
    · rw [decide_eq_true h1, Bool.not_true, cond_false]
      cases h2 : cnt x
      · rw [Bool.not_false, cond_true, ih, List.filter_cons_of_neg (by unfold sel; rw [h2]; simp)]; rfl
      · rw [Bool.not_true, cond_false]
        cases h3 : x.write
        · rw [Bool.not_false, cond_true]
          cases h4 : ans x
          · rw [Bool.not_false, cond_true, ih, List.filter_cons_of_neg (by unfold sel; rw [h2, h3, h4]; simp)]; rfl
          · rw [Bool.not_true, cond_false, cond_false, ih, List.filter_cons_of_pos (by unfold sel; rw [h2, h4, decide_eq_true h1]; simp), List.map_cons]
            unfold opsOf
            simp [opOf, h3]
        · rw [Bool.not_true, cond_false, cond_true]
          cases h4 : ans x
          · rw [Bool.not_false, cond_true, ih, List.filter_cons_of_pos (by unfold sel; rw [h2, h3, decide_eq_true h1]; simp), List.map_cons]
            unfold opsOf
            simp [opOf, h3, h4, zeroR]
          · rw [Bool.not_true, cond_false, ih, List.filter_cons_of_pos (by unfold sel; rw [h2, h3, decide_eq_true h1]; simp), List.map_cons]
            unfold opsOf
            simp [opOf, h3, h4]
    · rw [decide_eq_false h1, Bool.not_false, cond_true, ih, List.filter_cons_of_neg (by unfold sel; rw [decide_eq_false h1]; simp)]; rfl
theorem jOps_eq (k : Nat → Int) (calls : Sl Call) (recs : Sl Record) : jOps k calls recs = Sl.mk (opsOf (kL k) recs calls.D).isEmpty (opsOf (kL k) recs calls.D) := by
  unfold jOps; rw [jOps_l0_eq]; rfl
theorem rOps_l0_eq (k : Nat → Int) (recs : Sl Record) : ∀ (xs : List Call) (i : Nat) (l : List Op), rOps_l0 k recs xs i l = Sl.mk (l ++ opsOf (kL k) recs xs).isEmpty (l ++ opsOf (kL k) recs xs)
  | [], _, l => by unfold rOps_l0 opsOf; simp
  | x :: xs, i, l => by
    unfold rOps_l0
    have ih := rOps_l0_eq k recs xs (i + 1)
    rw [eq8, rCnt_eq, rAns_eq, rOfC_eq]
    unfold opsOf
    by_cases h1 : kL x.key = kL k
    · rw [decide_eq_true h1, Bool.not_true, cond_false]
      cases h2 : cnt x
      · rw [Bool.not_false, cond_true, ih, List.filter_cons_of_neg (by unfold sel; rw [h2]; simp)]; rfl
      · rw [Bool.not_true, cond_false]
        cases h3 : x.write
        · rw [Bool.not_false, cond_true]
          cases h4 : ans x
          · rw [Bool.not_false, cond_true, ih, List.filter_cons_of_neg (by unfold sel; rw [h2, h3, h4]; simp)]; rfl
          · rw [Bool.not_true, cond_false, ih, List.filter_cons_of_pos (by unfold sel; rw [h2, h4, decide_eq_true h1]; simp), List.map_cons]
            unfold opsOf
            simp [opOf, h3]
        · rw [Bool.not_true, cond_false]
          cases h4 : ans x
          · rw [Bool.not_false, cond_true, ih, List.filter_cons_of_pos (by unfold sel; rw [h2, h3, decide_eq_true h1]; simp), List.map_cons]
            unfold opsOf
            simp [opOf, h3, h4, normR]
          · rw [Bool.not_true, cond_false, ih, List.filter_cons_of_pos (by unfold sel; rw [h2, h3, decide_eq_true h1]; simp), List.map_cons]
            unfold opsOf
            simp [opOf, h3, h4]
    · rw [decide_eq_false h1, Bool.not_false, cond_true, ih, List.filter_cons_of_neg (by unfold sel; rw [decide_eq_false h1]; simp)]; rfl
theorem rOps_eq (k : Nat → Int) (calls : Sl Call) (recs : Sl Record) : rOps k calls recs = Sl.mk (opsOf (kL k) recs calls.D).isEmpty (opsOf (kL k) recs calls.D) := by
  unfold rOps; rw [rOps_l0_eq]; rfl
theorem opsOf_len (k : List Int) (recs : Sl Record) (xs : List Call) : (opsOf k recs xs).length ≤ xs.length := by
  unfold opsOf; rw [List.length_map]; exact List.length_filter_le _ _
theorem jOps_len {k : Nat → Int} {calls : Sl Call} {recs : Sl Record} : (jOps k calls recs).D.length ≤ calls.D.length := by rw [jOps_eq]; exact opsOf_len _ _ _
theorem rOps_len {k : Nat → Int} {calls : Sl Call} {recs : Sl Record} : (rOps k calls recs).D.length ≤ calls.D.length := by rw [rOps_eq]; exact opsOf_len _ _ _
end Go.Proofs.Ytoieegmebadfkaa
namespace Go.Proofs.Ytoieegmebadfkaa
open Go.Am
def Asc (L : List (List Int)) : Prop := L.Pairwise fun a b => ll a b = true
theorem asc_ext : ∀ (L M : List (List Int)), Asc L → Asc M → (∀ x, x ∈ L ↔ x ∈ M) → L = M
  | [], [], _, _, _ => rfl
  | [], m :: M, _, _, h => by have := (h m).2 List.mem_cons_self; cases this
  | l :: L, [], _, _, h => by have := (h l).1 List.mem_cons_self; cases this
  | l :: L, m :: M, h1, h2, h => by
    have h1' := List.pairwise_cons.1 h1
    have h2' := List.pairwise_cons.1 h2
    have e : l = m := by
      rcases List.mem_cons.1 ((h l).1 List.mem_cons_self) with e | e
      · exact e
      · rcases List.mem_cons.1 ((h m).2 List.mem_cons_self) with e' | e'
        · exact e'.symm
        · have a := h2'.1 l e
          rw [ll_asym (h1'.1 m e')] at a; cases a
    subst e
    congr 1
    refine asc_ext L M h1'.2 h2'.2 fun x => ⟨fun hx => ?_, fun hx => ?_⟩
    · rcases List.mem_cons.1 ((h x).1 (List.mem_cons_of_mem _ hx)) with e | e
      · exact absurd e (ll_ne (h1'.1 x hx)).symm
      · exact e
    · rcases List.mem_cons.1 ((h x).2 (List.mem_cons_of_mem _ hx)) with e | e
      · exact absurd e (ll_ne (h2'.1 x hx)).symm
      · exact e
theorem dd_spec : ∀ (xs : List (Nat → Int)) (p : List Int), (p :: xs.map kL).Pairwise (fun a b => ll b a = false) → Asc (p :: (dd p xs).map kL) ∧ ∀ y, y ∈ p :: (dd p xs).map kL ↔ y ∈ p :: xs.map kL
  | [], p, _ => ⟨List.pairwise_cons.2 ⟨fun _ h => (by cases h), .nil⟩, fun _ => Iff.rfl⟩
  | x :: xs, p, h => by
    rw [List.map_cons] at h
    obtain ⟨g1, g2⟩ := List.pairwise_cons.1 h
    rw [dd_cons]
    by_cases e : kL x = p
    · rw [if_pos e]
      obtain ⟨i1, i2⟩ := dd_spec xs p (List.pairwise_cons.2 ⟨fun a ha => g1 a (List.mem_cons_of_mem _ ha), (List.pairwise_cons.1 g2).2⟩)
      refine ⟨i1, fun y => (i2 y).trans ?_⟩
      rw [List.map_cons, e]
      simp only [List.mem_cons]
      exact ⟨fun h => h.elim .inl fun h => .inr (.inr h), fun h => h.elim .inl fun h => h⟩
    · rw [if_neg e]
      obtain ⟨i1, i2⟩ := dd_spec xs (kL x) g2
      rw [List.map_cons]
      have hlt : ll p (kL x) = true := ll_tri (g1 (kL x) List.mem_cons_self) e
      refine ⟨List.pairwise_cons.2 ⟨fun a ha => ?_, i1⟩, fun y => ?_⟩
      · rcases List.mem_cons.1 ha with rfl | ha
        · exact hlt
        · exact ll_trans hlt ((List.pairwise_cons.1 i1).1 a ha)
      · rw [List.map_cons, List.mem_cons, i2 y, List.mem_cons (a := y) (b := p)]
theorem ddK_spec {D : List (Nat → Int)} (h : D.Pairwise fun a b => ll (kL b) (kL a) = false) : Asc ((ddK D).map kL) ∧ ∀ y, y ∈ (ddK D).map kL ↔ y ∈ D.map kL := by
  cases D with
  | nil => exact ⟨.nil, fun _ => Iff.rfl⟩
  | cons x xs =>
    have := dd_spec xs (kL x) (by rw [← List.map_cons, List.pairwise_map]; exact h)
    exact this
theorem jKeys_l0_eq : ∀ (xs : List Call) (i : Nat) (l : List (Nat → Int)), (jKeys_l0 xs i l).D = compactKeys (sortKeys (l ++ xs.map (·.key)) cmpKeys)
  | [], _, l => by
    unfold jKeys_l0
    rw [List.map_nil, List.append_nil]
  | x :: xs, i, l => by
    unfold jKeys_l0
    rw [jKeys_l0_eq xs (i + 1), List.map_cons, List.append_assoc]; rfl
theorem jKeys_D {calls : Sl Call} (hL : calls.D.length ≤ 1000000) : (jKeys calls).D = ddK (sortKeys (calls.D.map (·.key)) cmpKeys) := by
  unfold jKeys
  rw [jKeys_l0_eq, List.nil_append, compact_eq (by rw [sortKeys_len, List.length_map]; exact hL)]
theorem jKeys_spec {calls : Sl Call} (hL : calls.D.length ≤ 1000000) : Asc ((jKeys calls).D.map kL) ∧ ∀ y, y ∈ (jKeys calls).D.map kL ↔ y ∈ calls.D.map fun x => kL x.key := by
  rw [jKeys_D hL]
  obtain ⟨p1, p2⟩ := sortKeys_spec (calls.D.map (·.key))
  obtain ⟨q1, q2⟩ := ddK_spec p2
  refine ⟨q1, fun y => (q2 y).trans ?_⟩
  rw [(p1.map kL).mem_iff, List.map_map]; rfl
theorem rLess_eq {a b : Nat → Int} (ha : B8 (kL a)) (hb : B8 (kL b)) : rLess a b = ll (kL a) (kL b) := bytesLess_strOf ha hb
theorem rKeys_l1_eq (x : Call) (hx : B8 (kL x.key)) (kk : Int → Bool → Sl (Nat → Int)) : ∀ (xs : List (Nat → Int)) (i : Nat) (at_ : Int) (there : Bool), i + xs.length ≤ 1000000 → (∀ k ∈ xs, B8 (kL k)) → Asc (xs.map kL) →
    rKeys_l1 x kk xs i at_ there = kk (if xs.filter (fun k => ll (kL k) (kL x.key)) = [] then at_ else ((i + (xs.filter fun k => ll (kL k) (kL x.key)).length : Nat) : Int)) (there || xs.any fun k => decide (kL k = kL x.key))
  | [], i, at_, there, _, _, _ => by unfold rKeys_l1; simp
  | k :: xs, i, at_, there, hi, hb, hp => by
    unfold rKeys_l1
    rw [List.length_cons] at hi
    have ew : IntKind.i64.wrap ((i : Int) + 1) = ((i + 1 : Nat) : Int) := by rw [wrap_i64 (by omega) (by omega)]; omega
    have ih := fun a t => rKeys_l1_eq x hx kk xs (i + 1) a t (by omega) (fun k hk => hb k (List.mem_cons_of_mem _ hk)) (List.pairwise_cons.1 hp).2
    rw [rLess_eq (hb k List.mem_cons_self) hx, eq8, ew]
    cases h1 : ll (kL k) (kL x.key)
    · have hno : xs.filter (fun k => ll (kL k) (kL x.key)) = [] := by
        rw [List.filter_eq_nil_iff]
        intro y hy e
        have := ll_trans ((List.pairwise_cons.1 hp).1 (kL y) (List.mem_map_of_mem hy)) e
        rw [h1] at this; cases this
      rw [cond_false, ih, ih, hno, List.filter_cons_of_neg (by rw [h1]; decide), hno, List.any_cons]
      cases there <;> simp
    · rw [cond_true, ih, ih, List.filter_cons_of_pos (p := fun k => ll (kL k) (kL x.key)) h1, List.any_cons]
      have e2 : ∀ F : List (Nat → Int), (if F = [] then ((i + 1 : Nat) : Int) else ((i + 1 + F.length : Nat) : Int)) = ((i + (F.length + 1) : Nat) : Int) := fun F => by
        split
        · next h => rw [h]; rfl
        · omega
      rw [e2, if_neg (List.cons_ne_nil _ _), List.length_cons]
      cases there <;> simp
theorem asc_split (p : List Int) : ∀ (xs : List (Nat → Int)), Asc (xs.map kL) → (∀ k ∈ xs.take (xs.filter fun k => ll (kL k) p).length, ll (kL k) p = true) ∧ ∀ k ∈ xs.drop (xs.filter fun k => ll (kL k) p).length, ll (kL k) p = false
  | [], _ => ⟨fun _ h => (by simp at h), fun _ h => (by simp at h)⟩
  | x :: xs, h => by
    obtain ⟨i1, i2⟩ := asc_split p xs (List.pairwise_cons.1 h).2
    cases h1 : ll (kL x) p
    · have hno : xs.filter (fun k => ll (kL k) p) = [] := by
        rw [List.filter_eq_nil_iff]
        intro y hy e
        have := ll_trans ((List.pairwise_cons.1 h).1 (kL y) (List.mem_map_of_mem hy)) e
        rw [h1] at this; cases this
      rw [List.filter_cons_of_neg (by rw [h1]; decide), hno]
      refine ⟨fun _ h => (by simp at h), fun k hk => ?_⟩
      rcases List.mem_cons.1 (show k ∈ x :: xs from hk) with rfl | hk
      · exact h1
      · have := List.filter_eq_nil_iff.1 hno k hk
        simpa using this
    · rw [List.filter_cons_of_pos (p := fun k => ll (kL k) p) h1, List.length_cons]
      refine ⟨fun k hk => ?_, fun k hk => i2 k hk⟩
      rw [List.take_succ_cons] at hk
      rcases List.mem_cons.1 hk with rfl | hk
      · exact h1
      · exact i1 k hk
theorem rKeys_l0_eq : ∀ (xs : List Call) (i : Nat) (out : List (Nat → Int)), out.length ≤ i → i + xs.length ≤ 1000000 → (∀ k ∈ out, B8 (kL k)) → (∀ x ∈ xs, B8 (kL x.key)) → Asc (out.map kL) →
    (rKeys_l0 xs i out).nil = (rKeys_l0 xs i out).D.isEmpty ∧ (rKeys_l0 xs i out).D.length ≤ i + xs.length ∧ Asc ((rKeys_l0 xs i out).D.map kL) ∧ ∀ y, y ∈ (rKeys_l0 xs i out).D.map kL ↔ y ∈ out.map kL ∨ y ∈ xs.map fun x => kL x.key
  | [], i, out, h1, _, _, _, h5 => by
    unfold rKeys_l0
    exact ⟨rfl, h1, h5, fun y => ⟨.inl, fun h => h.elim id fun h => (by cases h)⟩⟩
  | x :: xs, i, out, h1, h2, h3, h4, h5 => by
    rw [List.length_cons] at h2
    unfold rKeys_l0
    have hx := h4 x List.mem_cons_self
    rw [rKeys_l1_eq x hx _ out 0 0 false (by omega) h3 h5, Bool.false_or]
    have e0 : (if out.filter (fun k => ll (kL k) (kL x.key)) = [] then (0 : Int) else ((0 + (out.filter fun k => ll (kL k) (kL x.key)).length : Nat) : Int)) = ((out.filter fun k => ll (kL k) (kL x.key)).length : Int) := by
      split
      · next h => rw [h]; rfl
      · rw [Nat.zero_add]
    rw [e0, Int.toNat_natCast]
    obtain ⟨s1, s2⟩ := asc_split (kL x.key) out h5
    generalize (out.filter fun k => ll (kL k) (kL x.key)).length = c at s1 s2 ⊢
    cases ha : out.any fun k => decide (kL k = kL x.key)
    · rw [Bool.not_false, cond_true]
      have hne : ∀ k ∈ out, kL k ≠ kL x.key := fun k hk e => by
        rw [List.any_eq_false] at ha
        exact ha k hk (decide_eq_true e)
      have hsplit : out.map kL = (out.take c).map kL ++ (out.drop c).map kL := by rw [← List.map_append, List.take_append_drop]
      rw [hsplit] at h5
      obtain ⟨a1, a2, a3⟩ := List.pairwise_append.1 h5
      have hasc : Asc (((out.take c ++ [x.key]) ++ out.drop c).map kL) := by
        rw [List.map_append, List.map_append, List.append_assoc]
        refine List.pairwise_append.2 ⟨a1, List.pairwise_cons.2 ⟨fun b hb => ?_, a2⟩, fun a ha b hb => ?_⟩
        · obtain ⟨k, hk, rfl⟩ := List.mem_map.1 hb
          exact ll_tri (s2 k hk) (hne k (List.mem_of_mem_drop hk))
        · rcases List.mem_cons.1 (show b ∈ kL x.key :: (out.drop c).map kL from hb) with rfl | hb
          · obtain ⟨k, hk, rfl⟩ := List.mem_map.1 ha
            exact s1 k hk
          · exact a3 a ha b hb
      obtain ⟨r1, r2, r3, r4⟩ := rKeys_l0_eq xs (i + 1) ((out.take c ++ [x.key]) ++ out.drop c) (by
          have := congrArg List.length (List.take_append_drop c out)
          simp only [List.length_append, List.length_cons, List.length_nil] at this ⊢; omega) (by omega) (fun k hk => by
          rcases List.mem_append.1 hk with hk | hk
          · rcases List.mem_append.1 hk with hk | hk
            · exact h3 k (List.mem_of_mem_take hk)
            · rw [List.mem_singleton.1 hk]; exact hx
          · exact h3 k (List.mem_of_mem_drop hk)) (fun y hy => h4 y (List.mem_cons_of_mem _ hy)) hasc
      refine ⟨r1, by rw [List.length_cons]; omega, r3, fun y => (r4 y).trans ?_⟩
      rw [hsplit, List.map_append, List.map_append, List.map_cons]
      simp only [List.mem_append, List.mem_cons, List.map_cons, List.map_nil, List.not_mem_nil, or_false]
      exact ⟨fun h => by
        rcases h with ((h | h) | h) | h
        · exact .inl (.inl h)
        · exact .inr (.inl h)
        · exact .inl (.inr h)
        · exact .inr (.inr h), fun h => by
        rcases h with (h | h) | h | h
        · exact .inl (.inl (.inl h))
        · exact .inl (.inr h)
        · exact .inl (.inl (.inr h))
        · exact .inr h⟩
    · rw [Bool.not_true, cond_false]
      obtain ⟨r1, r2, r3, r4⟩ := rKeys_l0_eq xs (i + 1) out (by omega) (by omega) h3 (fun y hy => h4 y (List.mem_cons_of_mem _ hy)) h5
      refine ⟨r1, by rw [List.length_cons]; omega, r3, fun y => (r4 y).trans ?_⟩
      obtain ⟨k, hk, e⟩ := List.any_eq_true.1 ha
      have e := of_decide_eq_true e
      rw [List.map_cons, List.mem_cons]
      refine ⟨fun h => h.elim .inl fun h => .inr (.inr h), fun h => ?_⟩
      rcases h with h | rfl | h
      · exact .inl h
      · exact .inl (e ▸ List.mem_map_of_mem hk)
      · exact .inr h
theorem rKeys_spec {calls : Sl Call} (hL : calls.D.length ≤ 1000000) (hb : ∀ x ∈ calls.D, B8 (kL x.key)) : (rKeys calls).D.length ≤ calls.D.length ∧ Asc ((rKeys calls).D.map kL) ∧ ∀ y, y ∈ (rKeys calls).D.map kL ↔ y ∈ calls.D.map fun x => kL x.key := by
  unfold rKeys
  obtain ⟨_, r2, r3, r4⟩ := rKeys_l0_eq calls.D 0 [] (Nat.le_refl _) (by omega) (fun _ h => (by cases h)) hb .nil
  exact ⟨by omega, r3, fun y => (r4 y).trans ⟨fun h => h.elim (fun h => (by cases h)) id, .inr⟩⟩
theorem keys_eq {calls : Sl Call} (hL : calls.D.length ≤ 1000000) (hb : ∀ x ∈ calls.D, B8 (kL x.key)) : (jKeys calls).D.map kL = (rKeys calls).D.map kL := by
  obtain ⟨p1, p2⟩ := jKeys_spec hL
  obtain ⟨_, q1, q2⟩ := rKeys_spec hL hb
  exact asc_ext _ _ p1 q1 fun y => (p2 y).trans (q2 y).symm
theorem rKeys_l1_len (x : Call) (kk : Int → Bool → Sl (Nat → Int)) (n : Nat) (h : ∀ (a : Int) (t : Bool), (kk a t).D.length ≤ n) : ∀ (xs : List (Nat → Int)) (i : Nat) (at_ : Int) (there : Bool), (rKeys_l1 x kk xs i at_ there).D.length ≤ n
  | [], _, _, _ => by unfold rKeys_l1; exact h _ _
  | k :: xs, i, at_, there => by
    unfold rKeys_l1
    have ih := rKeys_l1_len x kk n h xs (i + 1)
    cases rLess k x.key <;> cases there <;> exact ih _ _
theorem rKeys_l0_len : ∀ (xs : List Call) (i : Nat) (out : List (Nat → Int)), out.length ≤ i → (rKeys_l0 xs i out).D.length ≤ i + xs.length
  | [], i, out, h => by unfold rKeys_l0; exact h
  | x :: xs, i, out, h => by
    unfold rKeys_l0
    refine rKeys_l1_len x _ _ (fun a t => ?_) _ _ _ _
    rw [List.length_cons]
    cases t
    · have := rKeys_l0_len xs (i + 1) ((out.take a.toNat ++ [x.key]) ++ out.drop a.toNat) (by
        have := congrArg List.length (List.take_append_drop a.toNat out)
        simp only [List.length_append, List.length_cons, List.length_nil] at this ⊢; omega)
      show (rKeys_l0 xs (i + 1) _).D.length ≤ _
      omega
    · have := rKeys_l0_len xs (i + 1) out (by omega)
      show (rKeys_l0 xs (i + 1) _).D.length ≤ _
      omega
theorem rKeys_len {calls : Sl Call} : (rKeys calls).D.length ≤ calls.D.length := by
  unfold rKeys
  have := rKeys_l0_len calls.D 0 [] (Nat.le_refl _)
  omega
theorem ddK_len : ∀ (D : List (Nat → Int)), (ddK D).length ≤ D.length
  | [] => Nat.le_refl _
  | x :: xs => by
    have : ∀ (ys : List (Nat → Int)) (p : List Int), (dd p ys).length ≤ ys.length := fun ys => by
      induction ys with
      | nil => intro p; exact Nat.le_refl _
      | cons y ys ih =>
        intro p
        rw [dd_cons]
        split
        · rw [List.length_cons]; exact Nat.le_succ_of_le (ih _)
        · rw [List.length_cons, List.length_cons]; exact Nat.succ_le_succ (ih _)
    exact Nat.succ_le_succ (this xs (kL x))
theorem jKeys_len {calls : Sl Call} (hL : calls.D.length ≤ 1000000) : (jKeys calls).D.length ≤ calls.D.length := by
  rw [jKeys_D hL]
  refine Nat.le_trans (ddK_len _) ?_
  rw [sortKeys_len, List.length_map]; exact Nat.le_refl _
end Go.Proofs.Ytoieegmebadfkaa
namespace Go.Proofs.Ytoieegmebadfkaa
open Go.Am
structure Stand where
  value : ByteArray
  began : Int
  there : Bool
  deriving Inhabited
def kI64 : KEnc Int := ⟨fun x => .pv (.lit (.int .i64 x)), fun a b => (a == b), fun _ => rfl, fun _ => Nat.le_of_ble_eq_true rfl, fun a b => by simp only [beq_iff_eq, AV.pv.injEq, PV.lit.injEq, Value.int.injEq, true_and]⟩
theorem kI64_ok : KeyOk Try.prog 3 kI64 := KeyOk.int tabOk (r := (tab.lookup 3).get rfl) rfl rfl (f := fun x => x) (fun _ => rfl) (fun _ _ => rfl)
def vStand : VEnc Stand := ⟨fun x => .agg [.pv (.lit (.string x.value)), .pv (.lit (.int .i64 x.began)), .pv (.lit (.bool x.there))], fun _ _ => rfl⟩
def rising_l1 (x : Op) (kk : Bool) : List Op → Nat → Bool
  | [], _ => kk 
  | x1 :: x1s, i1 => (bif (x.ended == 0) then rising_l1 x kk x1s (i1 + 1)  else (bif (x1.ver == 0) then (bif x1.write then rising_l1 x kk x1s (i1 + 1)  else (bif (decide (x.ended ≥ x1.began)) then rising_l1 x kk x1s (i1 + 1)  else (bif (x1.ended == 0) then (bif (!x1.write) then rising_l1 x kk x1s (i1 + 1)  else (bif (decide (x.ver > x1.ver)) then false else rising_l1 x kk x1s (i1 + 1) )) else (bif (decide (x.ver > x1.ver)) then false else rising_l1 x kk x1s (i1 + 1) )))) else (bif (decide (x.ended ≥ x1.began)) then rising_l1 x kk x1s (i1 + 1)  else (bif (x1.ended == 0) then (bif (!x1.write) then rising_l1 x kk x1s (i1 + 1)  else (bif (decide (x.ver > x1.ver)) then false else (bif x1.write then (bif (x.ver == x1.ver) then false else rising_l1 x kk x1s (i1 + 1) ) else rising_l1 x kk x1s (i1 + 1) ))) else (bif (decide (x.ver > x1.ver)) then false else (bif x1.write then (bif (x.ver == x1.ver) then false else rising_l1 x kk x1s (i1 + 1) ) else rising_l1 x kk x1s (i1 + 1) ))))))
def rising_l0 (l : (Sl Op)) : List Op → Nat → Bool
  | [], _ => true
  | x :: xs, i => rising_l1 x (rising_l0 l xs (i + 1) ) l.D 0
def rising (l : (Sl Op)) : Bool :=
  rising_l0 l l.D 0
theorem rising_calls (l : (Sl Op)) (hl1 : l.D.length ≤ 1000000) : PCalls Try.prog 56 [sS (some l.nil) eOp l.D] (.pv (.lit (.bool (rising l)))) := by
 generalize hR : rising l = R
 refine PCalls.of_body tabOk Try.func56 rfl rfl rfl rfl rfl mixed fun E hP C hI => ?_
 refine Awp.consP C ?_
 refine rvP C (.pv (.lit (.bool false))) ?_
 refine rvc_nil ?_
 refine Awp.seq ?_
 refine Awp.consP C ?_
 refine rvP C (sS (some l.nil) eOp l.D) ?_
 refine rvP C (.pv (.lit (.int .i64 (l.D.length : Int)))) ?_
 refine rvP C (.pv (.lit (.int .i64 0))) ?_
 refine rvc_nil ?_
 refine Awp.block ?_
 refine Awp.forR (σ := Unit) (l.D.length) (fun i _v => [(0, sS (some l.nil) eOp l.D), (7, sS (some l.nil) eOp l.D), (8, .pv (.lit (.int .i64 (l.D.length : Int)))), (9, .pv (.lit (.int .i64 (i : Int))))]) (fun i _v => []) [] (fun i _v => rising_l0 l (l.D.drop i) i  = R) () ?_ ?_ (fun i _v h1 hR => ?_)
 · exact hR
 · exact ⟨fun b => b, WeakerR.ofL (Ks := []) hI ⟨⟨rfl, rfl⟩, ⟨rfl, rfl⟩, ⟨rfl, rfl⟩, ⟨rfl, rfl⟩, trivial⟩ (okH_nil) rfl⟩
 refine Awp.consP C ?_
 refine rvP C (.pv (.lit (.bool (decide ((i : Int) < (l.D.length : Int)))))) ?_
 refine rvc_nil ?_
 refine Awp.seq ?_
 refine Awp.cond (b := (decide ((i : Int) < (l.D.length : Int)))) rfl (fun h2 => ?_) (fun h2 => ?_)
 ·
  have h3 : i < l.D.length := by have := of_decide_eq_true h2; omega
  obtain ⟨x, h4⟩ := getX h3
  rw [drop_at h4] at hR
  refine Awp.skip ?_
  refine Awp.seq ?_
  refine Awp.block ?_
  refine Awp.consP C ?_
  refine rvc_un (rexec_idxS C rfl rfl rfl rfl rfl rfl x (Int.natCast_nonneg _) h4 ?_)
  refine rvP C (.agg [.pv (.lit (.bool x.write)), .pv (.lit (.string x.value)), .pv (.lit (.int .i64 x.ver)), .pv (.lit (.int .i64 x.began)), .pv (.lit (.int .i64 x.ended))]) ?_
  refine rvc_un (rexec_prim C (δ := { v := .ptr 4 0, new := [(4, .cells [.pv (.lit (.bool false)), .pv (.lit (.string ⟨#[]⟩)), .pv (.lit (.int .i64 0)), .pv (.lit (.int .i64 0)), .pv (.lit (.int .i64 0))])] }) rfl rfl rfl rfl trivial rfl ?_)
  refine rvc_un (rexec_prim C (δ := { v := .undef, wr := [(4, some (.cells [.pv (.lit (.bool x.write)), .pv (.lit (.string x.value)), .pv (.lit (.int .i64 x.ver)), .pv (.lit (.int .i64 x.began)), .pv (.lit (.int .i64 x.ended))]))] }) rfl rfl rfl rfl trivial rfl ?_)
  refine rvc_nil ?_
  refine Awp.consP C ?_
  refine rvP C (sS (some l.nil) eOp l.D) ?_
  refine rvP C (.pv (.lit (.int .i64 (l.D.length : Int)))) ?_
  refine rvP C (.pv (.lit (.int .i64 0))) ?_
  refine rvc_nil ?_
  refine Awp.block ?_
  refine Awp.forR (σ := Unit) (l.D.length) (fun i1 _v => [(0, sS (some l.nil) eOp l.D), (4, .ptr 4 0), (7, sS (some l.nil) eOp l.D), (8, .pv (.lit (.int .i64 (l.D.length : Int)))), (9, .pv (.lit (.int .i64 (i : Int)))), (13, sS (some l.nil) eOp l.D), (14, .pv (.lit (.int .i64 (l.D.length : Int)))), (15, .pv (.lit (.int .i64 (i1 : Int))))]) (fun i1 _v => [(4, .cells [.pv (.lit (.bool x.write)), .pv (.lit (.string x.value)), .pv (.lit (.int .i64 x.ver)), .pv (.lit (.int .i64 x.began)), .pv (.lit (.int .i64 x.ended))])]) [4] (fun i1 _v => rising_l1 x (rising_l0 l (l.D.drop (i + 1)) (i + 1) ) (l.D.drop i1) i1  = R) () ?_ ?_ (fun i1 _v h5 hR => ?_)
  · exact hR
  · exact ⟨fun b => b, WeakerR.ofL (Ks := [4]) hI ⟨⟨rfl, rfl⟩, ⟨rfl, rfl⟩, ⟨rfl, rfl⟩, ⟨rfl, rfl⟩, ⟨rfl, rfl⟩, ⟨rfl, rfl⟩, ⟨rfl, rfl⟩, ⟨rfl, rfl⟩, trivial⟩ (okH_cons rfl rfl rfl rfl (okH_nil)) rfl⟩
  refine Awp.consP C ?_
  refine rvP C (.pv (.lit (.bool (decide ((i1 : Int) < (l.D.length : Int)))))) ?_
  refine rvc_nil ?_
  refine Awp.seq ?_
  refine Awp.cond (b := (decide ((i1 : Int) < (l.D.length : Int)))) rfl (fun h6 => ?_) (fun h6 => ?_)
  ·
   have h7 : i1 < l.D.length := by have := of_decide_eq_true h6; omega
   obtain ⟨x1, h8⟩ := getX h7
   rw [drop_at h8] at hR
   refine Awp.skip ?_
   refine Awp.seq ?_
   refine Awp.block ?_
   refine Awp.consP C ?_
   refine rvc_un (rexec_idxS C rfl rfl rfl rfl rfl rfl x1 (Int.natCast_nonneg _) h8 ?_)
   refine rvP C (.agg [.pv (.lit (.bool x1.write)), .pv (.lit (.string x1.value)), .pv (.lit (.int .i64 x1.ver)), .pv (.lit (.int .i64 x1.began)), .pv (.lit (.int .i64 x1.ended))]) ?_
   refine rvc_un (rexec_prim C (δ := { v := .ptr 6 0, new := [(6, .cells [.pv (.lit (.bool false)), .pv (.lit (.string ⟨#[]⟩)), .pv (.lit (.int .i64 0)), .pv (.lit (.int .i64 0)), .pv (.lit (.int .i64 0))])] }) rfl rfl rfl rfl trivial rfl ?_)
   refine rvc_un (rexec_prim C (δ := { v := .undef, wr := [(6, some (.cells [.pv (.lit (.bool x1.write)), .pv (.lit (.string x1.value)), .pv (.lit (.int .i64 x1.ver)), .pv (.lit (.int .i64 x1.began)), .pv (.lit (.int .i64 x1.ended))]))] }) rfl rfl rfl rfl trivial rfl ?_)
   refine rvc_nil ?_
   refine Awp.seq ?_
   refine Awp.consP C ?_
   refine rvP C (.ptr 4 4) ?_
   refine rvP C (.pv (.lit (.int .i64 x.ended))) ?_
   refine rvP C (.pv (.lit (.bool (x.ended == 0)))) ?_
   refine rvP C (.pv (.lit (.bool (x.ended == 0)))) ?_
   refine rvc_case 22 (x.ended == 0) rfl (fun h9 => ?_) (fun h9 => ?_)
   ·
    replace hR := of_true h9 hR
    refine rvS ?_
    refine rvS ?_
    refine rvS ?_
    refine rvS ?_
    refine rvc_shutU rfl rfl rfl ?_
    refine rvc_shutU rfl rfl rfl ?_
    refine rvS ?_
    refine rvP C (.pv (.lit (.bool true))) ?_
    refine rvP C (.pv (.lit (.bool true))) ?_
    refine rvS ?_
    refine rvS ?_
    refine rvS ?_
    refine rvS ?_
    refine rvS ?_
    refine rvP C (.pv (.lit (.bool true))) ?_
    refine rvP C (.pv (.lit (.bool true))) ?_
    refine rvS ?_
    refine rvS ?_
    refine rvS ?_
    refine rvS ?_
    refine rvc_shutU rfl rfl rfl ?_
    refine rvc_shutU rfl rfl rfl ?_
    refine rvc_shutU rfl rfl rfl ?_
    refine rvS ?_
    refine rvP C (.pv (.lit (.bool true))) ?_
    refine rvc_nil ?_
    refine Awp.condT (b := true) rfl rfl ?_
    refine Awp.exit ?_
    refine Awp.regionP C ?_
    refine rvP C (.pv (.lit (.int .i64 (IntKind.i64.wrap ((i1 : Int) + 1))))) ?_
    refine rvP C (.pv (.lit (.int .i64 (IntKind.i64.wrap ((i1 : Int) + 1))))) ?_
    refine rvc_nil ?_
    refine ⟨h7, (), ?_, ?_⟩
    · exact hR
    · exact ⟨fun b => b, WeakerR.ofL (Ks := [4]) hI ⟨⟨rfl, rfl⟩, ⟨rfl, rfl⟩, ⟨rfl, rfl⟩, ⟨rfl, rfl⟩, ⟨rfl, rfl⟩, ⟨rfl, rfl⟩, ⟨rfl, rfl⟩, ⟨lit_cast (wrap_i64 (by omega) (by omega)), rfl⟩, trivial⟩ (okH_cons rfl rfl rfl rfl (okH_nil)) rfl⟩
   ·
    replace hR := of_false h9 hR
    refine rvO C (.ptr 6 2) ?_
    refine rvO C (.pv (.lit (.int .i64 x1.ver))) ?_
    refine rvO C (.pv (.lit (.bool (x1.ver == 0)))) ?_
    refine rvO C (.pv (.lit (.bool (x1.ver == 0)))) ?_
    refine rvc_case 26 (x1.ver == 0) rfl (fun h10 => ?_) (fun h10 => ?_)
    ·
     replace hR := of_true h10 hR
     refine rvO C (.ptr 6 0) ?_
     refine rvO C (.pv (.lit (.bool x1.write))) ?_
     refine rvO C (.pv (.lit (.bool x1.write))) ?_
     refine rvP C (.pv (.lit (.bool x1.write))) ?_
     refine rvP C (.pv (.lit (.bool x1.write))) ?_
     refine rvc_case 31 x1.write rfl (fun h11 => ?_) (fun h11 => ?_)
     ·
      replace hR := of_true h11 hR
      refine rvS ?_
      refine rvS ?_
      refine rvS ?_
      refine rvS ?_
      refine rvS ?_
      refine rvP C (.pv (.lit (.bool true))) ?_
      refine rvP C (.pv (.lit (.bool true))) ?_
      refine rvS ?_
      refine rvS ?_
      refine rvS ?_
      refine rvS ?_
      refine rvc_shutU rfl rfl rfl ?_
      refine rvc_shutU rfl rfl rfl ?_
      refine rvc_shutU rfl rfl rfl ?_
      refine rvS ?_
      refine rvP C (.pv (.lit (.bool true))) ?_
      refine rvc_nil ?_
      refine Awp.condT (b := true) rfl rfl ?_
      refine Awp.exit ?_
      refine Awp.regionP C ?_
      refine rvP C (.pv (.lit (.int .i64 (IntKind.i64.wrap ((i1 : Int) + 1))))) ?_
      refine rvP C (.pv (.lit (.int .i64 (IntKind.i64.wrap ((i1 : Int) + 1))))) ?_
      refine rvc_nil ?_
      refine ⟨h7, (), ?_, ?_⟩
      · exact hR
      · exact ⟨fun b => b, WeakerR.ofL (Ks := [4]) hI ⟨⟨rfl, rfl⟩, ⟨rfl, rfl⟩, ⟨rfl, rfl⟩, ⟨rfl, rfl⟩, ⟨rfl, rfl⟩, ⟨rfl, rfl⟩, ⟨rfl, rfl⟩, ⟨lit_cast (wrap_i64 (by omega) (by omega)), rfl⟩, trivial⟩ (okH_cons rfl rfl rfl rfl (okH_nil)) rfl⟩
     ·
      replace hR := of_false h11 hR
      refine rvO C (.ptr 4 4) ?_
      refine rvO C (.pv (.lit (.int .i64 x.ended))) ?_
      refine rvO C (.ptr 6 3) ?_
      refine rvO C (.pv (.lit (.int .i64 x1.began))) ?_
      refine rvO C (.pv (.lit (.bool (decide (x.ended ≥ x1.began))))) ?_
      refine rvP C (.pv (.lit (.bool (decide (x.ended ≥ x1.began))))) ?_
      refine rvP C (.pv (.lit (.bool (decide (x.ended ≥ x1.began))))) ?_
      refine rvc_case 38 (decide (x.ended ≥ x1.began)) rfl (fun h12 => ?_) (fun h12 => ?_)
      ·
       replace hR := of_true h12 hR
       refine rvS ?_
       refine rvS ?_
       refine rvS ?_
       refine rvS ?_
       refine rvc_shutU rfl rfl rfl ?_
       refine rvc_shutU rfl rfl rfl ?_
       refine rvc_shutU rfl rfl rfl ?_
       refine rvS ?_
       refine rvP C (.pv (.lit (.bool true))) ?_
       refine rvc_nil ?_
       refine Awp.condT (b := true) rfl rfl ?_
       refine Awp.exit ?_
       refine Awp.regionP C ?_
       refine rvP C (.pv (.lit (.int .i64 (IntKind.i64.wrap ((i1 : Int) + 1))))) ?_
       refine rvP C (.pv (.lit (.int .i64 (IntKind.i64.wrap ((i1 : Int) + 1))))) ?_
       refine rvc_nil ?_
       refine ⟨h7, (), ?_, ?_⟩
       · exact hR
       · exact ⟨fun b => b, WeakerR.ofL (Ks := [4]) hI ⟨⟨rfl, rfl⟩, ⟨rfl, rfl⟩, ⟨rfl, rfl⟩, ⟨rfl, rfl⟩, ⟨rfl, rfl⟩, ⟨rfl, rfl⟩, ⟨rfl, rfl⟩, ⟨lit_cast (wrap_i64 (by omega) (by omega)), rfl⟩, trivial⟩ (okH_cons rfl rfl rfl rfl (okH_nil)) rfl⟩
      ·
       replace hR := of_false h12 hR
       refine rvO C (.ptr 6 4) ?_
       refine rvO C (.pv (.lit (.int .i64 x1.ended))) ?_
       refine rvO C (.pv (.lit (.bool (x1.ended == 0)))) ?_
       refine rvO C (.pv (.lit (.bool (x1.ended == 0)))) ?_
       refine rvc_case 42 (x1.ended == 0) rfl (fun h13 => ?_) (fun h13 => ?_)
       ·
        replace hR := of_true h13 hR
        refine rvO C (.ptr 6 0) ?_
        refine rvO C (.pv (.lit (.bool x1.write))) ?_
        refine rvO C (.pv (.lit (.bool (!x1.write)))) ?_
        refine rvO C (.pv (.lit (.bool (!x1.write)))) ?_
        refine rvP C (.pv (.lit (.bool (!x1.write)))) ?_
        refine rvc_nil ?_
        refine Awp.cond (b := (!x1.write)) rfl (fun h14 => ?_) (fun h14 => ?_)
        ·
         replace hR := of_true h14 hR
         refine Awp.exit ?_
         refine Awp.regionP C ?_
         refine rvP C (.pv (.lit (.int .i64 (IntKind.i64.wrap ((i1 : Int) + 1))))) ?_
         refine rvP C (.pv (.lit (.int .i64 (IntKind.i64.wrap ((i1 : Int) + 1))))) ?_
         refine rvc_nil ?_
         refine ⟨h7, (), ?_, ?_⟩
         · exact hR
         · exact ⟨fun b => b, WeakerR.ofL (Ks := [4]) hI ⟨⟨rfl, rfl⟩, ⟨rfl, rfl⟩, ⟨rfl, rfl⟩, ⟨rfl, rfl⟩, ⟨rfl, rfl⟩, ⟨rfl, rfl⟩, ⟨rfl, rfl⟩, ⟨lit_cast (wrap_i64 (by omega) (by omega)), rfl⟩, trivial⟩ (okH_cons rfl rfl rfl rfl (okH_nil)) rfl⟩
        ·
         replace hR := of_false h14 hR
         refine Awp.skip ?_
         refine Awp.consP C ?_
         refine rvP C (.ptr 4 2) ?_
         refine rvP C (.pv (.lit (.int .i64 x.ver))) ?_
         refine rvP C (.ptr 6 2) ?_
         refine rvP C (.pv (.lit (.int .i64 x1.ver))) ?_
         refine rvP C (.pv (.lit (.bool (decide (x.ver > x1.ver))))) ?_
         refine rvP C (.pv (.lit (.bool (decide (x.ver > x1.ver))))) ?_
         refine rvc_case 53 (decide (x.ver > x1.ver)) rfl (fun h15 => ?_) (fun h15 => ?_)
         ·
          replace hR := of_true h15 hR
          refine rvS ?_
          refine rvS ?_
          refine rvS ?_
          refine rvc_shutU rfl rfl rfl ?_
          refine rvc_shutU rfl rfl rfl ?_
          refine rvc_shutU rfl rfl rfl ?_
          refine rvc_shutU rfl rfl rfl ?_
          refine rvc_shutU rfl rfl rfl ?_
          refine rvS ?_
          refine rvP C (.pv (.lit (.bool true))) ?_
          refine rvc_nil ?_
          refine Awp.condT (b := true) rfl rfl ?_
          refine Awp.consP C ?_
          refine rvP C (.pv (.lit (.bool false))) ?_
          refine rvc_nil ?_
          refine Awp.ret ?_
          subst hR
          exact ⟨.inl rfl, rfl⟩
         ·
          replace hR := of_false h15 hR
          refine rvO C (.ptr 6 0) ?_
          refine rvO C (.pv (.lit (.bool x1.write))) ?_
          refine rvO C (.pv (.lit (.bool x1.write))) ?_
          refine rvc_known 56 x1.write false rfl h11 ?_
          refine rvS ?_
          refine rvS ?_
          refine rvS ?_
          refine rvS ?_
          refine rvS ?_
          refine rvO C (.pv (.lit (.bool false))) ?_
          refine rvP C (.pv (.lit (.bool false))) ?_
          refine rvc_nil ?_
          refine Awp.condF (b := false) rfl rfl ?_
          refine Awp.skip ?_
          refine Awp.regionP C ?_
          refine rvP C (.pv (.lit (.int .i64 (IntKind.i64.wrap ((i1 : Int) + 1))))) ?_
          refine rvP C (.pv (.lit (.int .i64 (IntKind.i64.wrap ((i1 : Int) + 1))))) ?_
          refine rvc_nil ?_
          refine ⟨h7, (), ?_, ?_⟩
          · exact hR
          · exact ⟨fun b => b, WeakerR.ofL (Ks := [4]) hI ⟨⟨rfl, rfl⟩, ⟨rfl, rfl⟩, ⟨rfl, rfl⟩, ⟨rfl, rfl⟩, ⟨rfl, rfl⟩, ⟨rfl, rfl⟩, ⟨rfl, rfl⟩, ⟨lit_cast (wrap_i64 (by omega) (by omega)), rfl⟩, trivial⟩ (okH_cons rfl rfl rfl rfl (okH_nil)) rfl⟩
       ·
        replace hR := of_false h13 hR
        refine rvS ?_
        refine rvS ?_
        refine rvS ?_
        refine rvO C (.pv (.lit (.bool false))) ?_
        refine rvP C (.pv (.lit (.bool false))) ?_
        refine rvc_nil ?_
        refine Awp.condF (b := false) rfl rfl ?_
        refine Awp.skip ?_
        refine Awp.consP C ?_
        refine rvP C (.ptr 4 2) ?_
        refine rvP C (.pv (.lit (.int .i64 x.ver))) ?_
        refine rvP C (.ptr 6 2) ?_
        refine rvP C (.pv (.lit (.int .i64 x1.ver))) ?_
        refine rvP C (.pv (.lit (.bool (decide (x.ver > x1.ver))))) ?_
        refine rvP C (.pv (.lit (.bool (decide (x.ver > x1.ver))))) ?_
        refine rvc_case 53 (decide (x.ver > x1.ver)) rfl (fun h16 => ?_) (fun h16 => ?_)
        ·
         replace hR := of_true h16 hR
         refine rvS ?_
         refine rvS ?_
         refine rvS ?_
         refine rvc_shutU rfl rfl rfl ?_
         refine rvc_shutU rfl rfl rfl ?_
         refine rvc_shutU rfl rfl rfl ?_
         refine rvc_shutU rfl rfl rfl ?_
         refine rvc_shutU rfl rfl rfl ?_
         refine rvS ?_
         refine rvP C (.pv (.lit (.bool true))) ?_
         refine rvc_nil ?_
         refine Awp.condT (b := true) rfl rfl ?_
         refine Awp.consP C ?_
         refine rvP C (.pv (.lit (.bool false))) ?_
         refine rvc_nil ?_
         refine Awp.ret ?_
         subst hR
         exact ⟨.inl rfl, rfl⟩
        ·
         replace hR := of_false h16 hR
         refine rvO C (.ptr 6 0) ?_
         refine rvO C (.pv (.lit (.bool x1.write))) ?_
         refine rvO C (.pv (.lit (.bool x1.write))) ?_
         refine rvc_known 56 x1.write false rfl h11 ?_
         refine rvS ?_
         refine rvS ?_
         refine rvS ?_
         refine rvS ?_
         refine rvS ?_
         refine rvO C (.pv (.lit (.bool false))) ?_
         refine rvP C (.pv (.lit (.bool false))) ?_
         refine rvc_nil ?_
         refine Awp.condF (b := false) rfl rfl ?_
         refine Awp.skip ?_
         refine Awp.regionP C ?_
         refine rvP C (.pv (.lit (.int .i64 (IntKind.i64.wrap ((i1 : Int) + 1))))) ?_
         refine rvP C (.pv (.lit (.int .i64 (IntKind.i64.wrap ((i1 : Int) + 1))))) ?_
         refine rvc_nil ?_
         refine ⟨h7, (), ?_, ?_⟩
         · exact hR
         · exact ⟨fun b => b, WeakerR.ofL (Ks := [4]) hI ⟨⟨rfl, rfl⟩, ⟨rfl, rfl⟩, ⟨rfl, rfl⟩, ⟨rfl, rfl⟩, ⟨rfl, rfl⟩, ⟨rfl, rfl⟩, ⟨rfl, rfl⟩, ⟨lit_cast (wrap_i64 (by omega) (by omega)), rfl⟩, trivial⟩ (okH_cons rfl rfl rfl rfl (okH_nil)) rfl⟩
    ·
     replace hR := of_false h10 hR
     refine rvS ?_
     refine rvS ?_
     refine rvO C (.pv (.lit (.bool false))) ?_
     refine rvP C (.pv (.lit (.bool false))) ?_
     refine rvP C (.pv (.lit (.bool false))) ?_
     refine rvO C (.ptr 4 4) ?_
     refine rvO C (.pv (.lit (.int .i64 x.ended))) ?_
     refine rvO C (.ptr 6 3) ?_
     refine rvO C (.pv (.lit (.int .i64 x1.began))) ?_
     refine rvO C (.pv (.lit (.bool (decide (x.ended ≥ x1.began))))) ?_
     refine rvP C (.pv (.lit (.bool (decide (x.ended ≥ x1.began))))) ?_
     refine rvP C (.pv (.lit (.bool (decide (x.ended ≥ x1.began))))) ?_
     refine rvc_case 38 (decide (x.ended ≥ x1.began)) rfl (fun h17 => ?_) (fun h17 => ?_)
     ·
      replace hR := of_true h17 hR
      refine rvS ?_
      refine rvS ?_
      refine rvS ?_
      refine rvS ?_
      refine rvc_shutU rfl rfl rfl ?_
      refine rvc_shutU rfl rfl rfl ?_
      refine rvc_shutU rfl rfl rfl ?_
      refine rvS ?_
      refine rvP C (.pv (.lit (.bool true))) ?_
      refine rvc_nil ?_
      refine Awp.condT (b := true) rfl rfl ?_
      refine Awp.exit ?_
      refine Awp.regionP C ?_
      refine rvP C (.pv (.lit (.int .i64 (IntKind.i64.wrap ((i1 : Int) + 1))))) ?_
      refine rvP C (.pv (.lit (.int .i64 (IntKind.i64.wrap ((i1 : Int) + 1))))) ?_
      refine rvc_nil ?_
      refine ⟨h7, (), ?_, ?_⟩
      · exact hR
      · exact ⟨fun b => b, WeakerR.ofL (Ks := [4]) hI ⟨⟨rfl, rfl⟩, ⟨rfl, rfl⟩, ⟨rfl, rfl⟩, ⟨rfl, rfl⟩, ⟨rfl, rfl⟩, ⟨rfl, rfl⟩, ⟨rfl, rfl⟩, ⟨lit_cast (wrap_i64 (by omega) (by omega)), rfl⟩, trivial⟩ (okH_cons rfl rfl rfl rfl (okH_nil)) rfl⟩
     ·
      replace hR := of_false h17 hR
      refine rvO C (.ptr 6 4) ?_
      refine rvO C (.pv (.lit (.int .i64 x1.ended))) ?_
      refine rvO C (.pv (.lit (.bool (x1.ended == 0)))) ?_
      refine rvO C (.pv (.lit (.bool (x1.ended == 0)))) ?_
      refine rvc_case 42 (x1.ended == 0) rfl (fun h18 => ?_) (fun h18 => ?_)
      ·
       replace hR := of_true h18 hR
       refine rvO C (.ptr 6 0) ?_
       refine rvO C (.pv (.lit (.bool x1.write))) ?_
       refine rvO C (.pv (.lit (.bool (!x1.write)))) ?_
       refine rvO C (.pv (.lit (.bool (!x1.write)))) ?_
       refine rvP C (.pv (.lit (.bool (!x1.write)))) ?_
       refine rvc_nil ?_
       refine Awp.cond (b := (!x1.write)) rfl (fun h19 => ?_) (fun h19 => ?_)
       ·
        replace hR := of_true h19 hR
        refine Awp.exit ?_
        refine Awp.regionP C ?_
        refine rvP C (.pv (.lit (.int .i64 (IntKind.i64.wrap ((i1 : Int) + 1))))) ?_
        refine rvP C (.pv (.lit (.int .i64 (IntKind.i64.wrap ((i1 : Int) + 1))))) ?_
        refine rvc_nil ?_
        refine ⟨h7, (), ?_, ?_⟩
        · exact hR
        · exact ⟨fun b => b, WeakerR.ofL (Ks := [4]) hI ⟨⟨rfl, rfl⟩, ⟨rfl, rfl⟩, ⟨rfl, rfl⟩, ⟨rfl, rfl⟩, ⟨rfl, rfl⟩, ⟨rfl, rfl⟩, ⟨rfl, rfl⟩, ⟨lit_cast (wrap_i64 (by omega) (by omega)), rfl⟩, trivial⟩ (okH_cons rfl rfl rfl rfl (okH_nil)) rfl⟩
       ·
        replace hR := of_false h19 hR
        refine Awp.skip ?_
        refine Awp.consP C ?_
        refine rvP C (.ptr 4 2) ?_
        refine rvP C (.pv (.lit (.int .i64 x.ver))) ?_
        refine rvP C (.ptr 6 2) ?_
        refine rvP C (.pv (.lit (.int .i64 x1.ver))) ?_
        refine rvP C (.pv (.lit (.bool (decide (x.ver > x1.ver))))) ?_
        refine rvP C (.pv (.lit (.bool (decide (x.ver > x1.ver))))) ?_
        refine rvc_case 53 (decide (x.ver > x1.ver)) rfl (fun h20 => ?_) (fun h20 => ?_)
        ·
         replace hR := of_true h20 hR
         refine rvS ?_
         refine rvS ?_
         refine rvS ?_
         refine rvc_shutU rfl rfl rfl ?_
         refine rvc_shutU rfl rfl rfl ?_
         refine rvc_shutU rfl rfl rfl ?_
         refine rvc_shutU rfl rfl rfl ?_
         refine rvc_shutU rfl rfl rfl ?_
         refine rvS ?_
         refine rvP C (.pv (.lit (.bool true))) ?_
         refine rvc_nil ?_
         refine Awp.condT (b := true) rfl rfl ?_
         refine Awp.consP C ?_
         refine rvP C (.pv (.lit (.bool false))) ?_
         refine rvc_nil ?_
         refine Awp.ret ?_
         subst hR
         exact ⟨.inl rfl, rfl⟩
        ·
         replace hR := of_false h20 hR
         refine rvO C (.ptr 6 0) ?_
         refine rvO C (.pv (.lit (.bool x1.write))) ?_
         refine rvO C (.pv (.lit (.bool x1.write))) ?_
         refine rvc_case 56 x1.write rfl (fun h21 => ?_) (fun h21 => ?_)
         ·
          replace hR := of_true h21 hR
          refine rvO C (.ptr 4 2) ?_
          refine rvO C (.pv (.lit (.int .i64 x.ver))) ?_
          refine rvO C (.ptr 6 2) ?_
          refine rvO C (.pv (.lit (.int .i64 x1.ver))) ?_
          refine rvO C (.pv (.lit (.bool (x.ver == x1.ver)))) ?_
          refine rvO C (.pv (.lit (.bool (x.ver == x1.ver)))) ?_
          refine rvP C (.pv (.lit (.bool (x.ver == x1.ver)))) ?_
          refine rvc_nil ?_
          refine Awp.cond (b := (x.ver == x1.ver)) rfl (fun h22 => ?_) (fun h22 => ?_)
          ·
           replace hR := of_true h22 hR
           refine Awp.consP C ?_
           refine rvP C (.pv (.lit (.bool false))) ?_
           refine rvc_nil ?_
           refine Awp.ret ?_
           subst hR
           exact ⟨.inl rfl, rfl⟩
          ·
           replace hR := of_false h22 hR
           refine Awp.skip ?_
           refine Awp.regionP C ?_
           refine rvP C (.pv (.lit (.int .i64 (IntKind.i64.wrap ((i1 : Int) + 1))))) ?_
           refine rvP C (.pv (.lit (.int .i64 (IntKind.i64.wrap ((i1 : Int) + 1))))) ?_
           refine rvc_nil ?_
           refine ⟨h7, (), ?_, ?_⟩
           · exact hR
           · exact ⟨fun b => b, WeakerR.ofL (Ks := [4]) hI ⟨⟨rfl, rfl⟩, ⟨rfl, rfl⟩, ⟨rfl, rfl⟩, ⟨rfl, rfl⟩, ⟨rfl, rfl⟩, ⟨rfl, rfl⟩, ⟨rfl, rfl⟩, ⟨lit_cast (wrap_i64 (by omega) (by omega)), rfl⟩, trivial⟩ (okH_cons rfl rfl rfl rfl (okH_nil)) rfl⟩
         ·
          replace hR := of_false h21 hR
          refine rvS ?_
          refine rvS ?_
          refine rvS ?_
          refine rvS ?_
          refine rvS ?_
          refine rvO C (.pv (.lit (.bool false))) ?_
          refine rvP C (.pv (.lit (.bool false))) ?_
          refine rvc_nil ?_
          refine Awp.condF (b := false) rfl rfl ?_
          refine Awp.skip ?_
          refine Awp.regionP C ?_
          refine rvP C (.pv (.lit (.int .i64 (IntKind.i64.wrap ((i1 : Int) + 1))))) ?_
          refine rvP C (.pv (.lit (.int .i64 (IntKind.i64.wrap ((i1 : Int) + 1))))) ?_
          refine rvc_nil ?_
          refine ⟨h7, (), ?_, ?_⟩
          · exact hR
          · exact ⟨fun b => b, WeakerR.ofL (Ks := [4]) hI ⟨⟨rfl, rfl⟩, ⟨rfl, rfl⟩, ⟨rfl, rfl⟩, ⟨rfl, rfl⟩, ⟨rfl, rfl⟩, ⟨rfl, rfl⟩, ⟨rfl, rfl⟩, ⟨lit_cast (wrap_i64 (by omega) (by omega)), rfl⟩, trivial⟩ (okH_cons rfl rfl rfl rfl (okH_nil)) rfl⟩
      ·
       replace hR := of_false h18 hR
       refine rvS ?_
       refine rvS ?_
       refine rvS ?_
       refine rvO C (.pv (.lit (.bool false))) ?_
       refine rvP C (.pv (.lit (.bool false))) ?_
       refine rvc_nil ?_
       refine Awp.condF (b := false) rfl rfl ?_
       refine Awp.skip ?_
       refine Awp.consP C ?_
       refine rvP C (.ptr 4 2) ?_
       refine rvP C (.pv (.lit (.int .i64 x.ver))) ?_
       refine rvP C (.ptr 6 2) ?_
       refine rvP C (.pv (.lit (.int .i64 x1.ver))) ?_
       refine rvP C (.pv (.lit (.bool (decide (x.ver > x1.ver))))) ?_
       refine rvP C (.pv (.lit (.bool (decide (x.ver > x1.ver))))) ?_
       refine rvc_case 53 (decide (x.ver > x1.ver)) rfl (fun h23 => ?_) (fun h23 => ?_)
       ·
        replace hR := of_true h23 hR
        refine rvS ?_
        refine rvS ?_
        refine rvS ?_
        refine rvc_shutU rfl rfl rfl ?_
        refine rvc_shutU rfl rfl rfl ?_
        refine rvc_shutU rfl rfl rfl ?_
        refine rvc_shutU rfl rfl rfl ?_
        refine rvc_shutU rfl rfl rfl ?_
        refine rvS ?_
        refine rvP C (.pv (.lit (.bool true))) ?_
        refine rvc_nil ?_
        refine Awp.condT (b := true) rfl rfl ?_
        refine Awp.consP C ?_
        refine rvP C (.pv (.lit (.bool false))) ?_
        refine rvc_nil ?_
        refine Awp.ret ?_
        subst hR
        exact ⟨.inl rfl, rfl⟩
       ·
        replace hR := of_false h23 hR
        refine rvO C (.ptr 6 0) ?_
        refine rvO C (.pv (.lit (.bool x1.write))) ?_
        refine rvO C (.pv (.lit (.bool x1.write))) ?_
        refine rvc_case 56 x1.write rfl (fun h24 => ?_) (fun h24 => ?_)
        ·
         replace hR := of_true h24 hR
         refine rvO C (.ptr 4 2) ?_
         refine rvO C (.pv (.lit (.int .i64 x.ver))) ?_
         refine rvO C (.ptr 6 2) ?_
         refine rvO C (.pv (.lit (.int .i64 x1.ver))) ?_
         refine rvO C (.pv (.lit (.bool (x.ver == x1.ver)))) ?_
         refine rvO C (.pv (.lit (.bool (x.ver == x1.ver)))) ?_
         refine rvP C (.pv (.lit (.bool (x.ver == x1.ver)))) ?_
         refine rvc_nil ?_
         refine Awp.cond (b := (x.ver == x1.ver)) rfl (fun h25 => ?_) (fun h25 => ?_)
         ·
          replace hR := of_true h25 hR
          refine Awp.consP C ?_
          refine rvP C (.pv (.lit (.bool false))) ?_
          refine rvc_nil ?_
          refine Awp.ret ?_
          subst hR
          exact ⟨.inl rfl, rfl⟩
         ·
          replace hR := of_false h25 hR
          refine Awp.skip ?_
          refine Awp.regionP C ?_
          refine rvP C (.pv (.lit (.int .i64 (IntKind.i64.wrap ((i1 : Int) + 1))))) ?_
          refine rvP C (.pv (.lit (.int .i64 (IntKind.i64.wrap ((i1 : Int) + 1))))) ?_
          refine rvc_nil ?_
          refine ⟨h7, (), ?_, ?_⟩
          · exact hR
          · exact ⟨fun b => b, WeakerR.ofL (Ks := [4]) hI ⟨⟨rfl, rfl⟩, ⟨rfl, rfl⟩, ⟨rfl, rfl⟩, ⟨rfl, rfl⟩, ⟨rfl, rfl⟩, ⟨rfl, rfl⟩, ⟨rfl, rfl⟩, ⟨lit_cast (wrap_i64 (by omega) (by omega)), rfl⟩, trivial⟩ (okH_cons rfl rfl rfl rfl (okH_nil)) rfl⟩
        ·
         replace hR := of_false h24 hR
         refine rvS ?_
         refine rvS ?_
         refine rvS ?_
         refine rvS ?_
         refine rvS ?_
         refine rvO C (.pv (.lit (.bool false))) ?_
         refine rvP C (.pv (.lit (.bool false))) ?_
         refine rvc_nil ?_
         refine Awp.condF (b := false) rfl rfl ?_
         refine Awp.skip ?_
         refine Awp.regionP C ?_
         refine rvP C (.pv (.lit (.int .i64 (IntKind.i64.wrap ((i1 : Int) + 1))))) ?_
         refine rvP C (.pv (.lit (.int .i64 (IntKind.i64.wrap ((i1 : Int) + 1))))) ?_
         refine rvc_nil ?_
         refine ⟨h7, (), ?_, ?_⟩
         · exact hR
         · exact ⟨fun b => b, WeakerR.ofL (Ks := [4]) hI ⟨⟨rfl, rfl⟩, ⟨rfl, rfl⟩, ⟨rfl, rfl⟩, ⟨rfl, rfl⟩, ⟨rfl, rfl⟩, ⟨rfl, rfl⟩, ⟨rfl, rfl⟩, ⟨lit_cast (wrap_i64 (by omega) (by omega)), rfl⟩, trivial⟩ (okH_cons rfl rfl rfl rfl (okH_nil)) rfl⟩
  ·
   have h7 : ¬ i1 < l.D.length := by have := of_decide_eq_false h6; omega
   rw [drop_end h7] at hR
   refine Awp.exit ?_
   refine Awp.regionP C ?_
   refine rvP C (.pv (.lit (.int .i64 (IntKind.i64.wrap ((i : Int) + 1))))) ?_
   refine rvP C (.pv (.lit (.int .i64 (IntKind.i64.wrap ((i : Int) + 1))))) ?_
   refine rvc_nil ?_
   refine ⟨h3, (), ?_, ?_⟩
   · exact hR
   · exact ⟨fun b => b, WeakerR.ofL (Ks := []) hI ⟨⟨rfl, rfl⟩, ⟨rfl, rfl⟩, ⟨rfl, rfl⟩, ⟨lit_cast (wrap_i64 (by omega) (by omega)), rfl⟩, trivial⟩ (okH_nil) rfl⟩
 ·
  have h3 : ¬ i < l.D.length := by have := of_decide_eq_false h2; omega
  rw [drop_end h3] at hR
  refine Awp.exit ?_
  refine Awp.consP C ?_
  refine rvP C (.pv (.lit (.bool true))) ?_
  refine rvc_nil ?_
  refine Awp.ret ?_
  subst hR
  exact ⟨.inl rfl, rfl⟩
def versions_l1 (l : (Sl Op)) (vc : (List (Int × Stand))) : List Op → Nat → Bool
  | [], _ => (rising l)
  | x1 :: x1s, i1 => (bif (x1.ended == 0) then versions_l1 l vc x1s (i1 + 1)  else (bif (x1.ver == 0) then (bif x1.write then false else (bif (!(x1.value.toList == (⟨#[]⟩ : ByteArray).toList)) then false else (bif (x1.ver != 0) then (bif (!x1.write) then (bif (!(((mGet kI64 x1.ver vc).getD (Stand.mk ⟨#[]⟩ 0 false)).there)) then false else (bif (!((((mGet kI64 x1.ver vc).getD (Stand.mk ⟨#[]⟩ 0 false)).value).toList == x1.value.toList)) then false else (bif (decide ((((mGet kI64 x1.ver vc).getD (Stand.mk ⟨#[]⟩ 0 false)).began) ≥ x1.ended)) then false else versions_l1 l vc x1s (i1 + 1) ))) else versions_l1 l vc x1s (i1 + 1) ) else versions_l1 l vc x1s (i1 + 1) ))) else (bif (x1.ver != 0) then (bif (!x1.write) then (bif (!(((mGet kI64 x1.ver vc).getD (Stand.mk ⟨#[]⟩ 0 false)).there)) then false else (bif (!((((mGet kI64 x1.ver vc).getD (Stand.mk ⟨#[]⟩ 0 false)).value).toList == x1.value.toList)) then false else (bif (decide ((((mGet kI64 x1.ver vc).getD (Stand.mk ⟨#[]⟩ 0 false)).began) ≥ x1.ended)) then false else versions_l1 l vc x1s (i1 + 1) ))) else versions_l1 l vc x1s (i1 + 1) ) else versions_l1 l vc x1s (i1 + 1) )))
def versions_l0 (l : (Sl Op)) : List Op → Nat → (List (Int × Stand)) → Bool
  | [], _, vc => versions_l1 l vc l.D 0 
  | x :: xs, i, vc => (bif (!x.write) then versions_l0 l xs (i + 1) vc else (bif (x.ver == 0) then versions_l0 l xs (i + 1) vc else (bif ((mGet kI64 x.ver vc).getD (Stand.mk ⟨#[]⟩ 0 false)).there then false else versions_l0 l xs (i + 1) (mSet kI64 x.ver (Stand.mk x.value x.began true) vc))))
def versions (l : (Sl Op)) : Bool :=
  versions_l0 l l.D 0 []
theorem versions_calls (l : (Sl Op)) (hl1 : l.D.length ≤ 1000000) : PCalls Try.prog 36 [sS (some l.nil) eOp l.D] (.pv (.lit (.bool (versions l)))) := by
 generalize hR : versions l = R
 refine PCalls.of_body tabOk Try.func36 rfl rfl rfl rfl rfl mixed fun E hP C hI => ?_
 refine Awp.consP C ?_
 refine rvP C (.pv (.lit (.bool false))) ?_
 refine rvc_nil ?_
 refine Awp.consP C ?_
 refine rvc_un (rexec_makeMap C rfl rfl kI64 vStand ?_)
 refine rvP C (.mp 9) ?_
 refine rvc_nil ?_
 refine Awp.seq ?_
 refine Awp.consP C ?_
 refine rvP C (sS (some l.nil) eOp l.D) ?_
 refine rvP C (.pv (.lit (.int .i64 (l.D.length : Int)))) ?_
 refine rvP C (.pv (.lit (.int .i64 0))) ?_
 refine rvc_nil ?_
 refine Awp.block ?_
 refine Awp.forR (σ := ((List (Int × Stand)))) (l.D.length) (fun i v => [(0, sS (some l.nil) eOp l.D), (3, .mp 9), (10, sS (some l.nil) eOp l.D), (11, .pv (.lit (.int .i64 (l.D.length : Int)))), (12, .pv (.lit (.int .i64 (i : Int))))]) (fun i v => [(9, mapE kI64 vStand.enc v)]) [9] (fun i v => versions_l0 l (l.D.drop i) i v = R) [] ?_ ?_ (fun i vc h1 hR => ?_)
 · exact hR
 · exact ⟨fun b => b, WeakerR.ofL (Ks := [9]) hI ⟨⟨rfl, rfl⟩, ⟨rfl, rfl⟩, ⟨rfl, rfl⟩, ⟨rfl, rfl⟩, ⟨rfl, rfl⟩, trivial⟩ (okH_map rfl rfl rfl (okH_nil)) rfl⟩
 refine Awp.consP C ?_
 refine rvP C (.pv (.lit (.bool (decide ((i : Int) < (l.D.length : Int)))))) ?_
 refine rvc_nil ?_
 refine Awp.seq ?_
 refine Awp.cond (b := (decide ((i : Int) < (l.D.length : Int)))) rfl (fun h2 => ?_) (fun h2 => ?_)
 ·
  have h3 : i < l.D.length := by have := of_decide_eq_true h2; omega
  obtain ⟨x, h4⟩ := getX h3
  rw [drop_at h4] at hR
  refine Awp.skip ?_
  refine Awp.seq ?_
  refine Awp.block ?_
  refine Awp.consP C ?_
  refine rvc_un (rexec_idxS C rfl rfl rfl rfl rfl rfl x (Int.natCast_nonneg _) h4 ?_)
  refine rvP C (.agg [.pv (.lit (.bool x.write)), .pv (.lit (.string x.value)), .pv (.lit (.int .i64 x.ver)), .pv (.lit (.int .i64 x.began)), .pv (.lit (.int .i64 x.ended))]) ?_
  refine rvc_un (rexec_prim C (δ := { v := .ptr 5 0, new := [(5, .cells [.pv (.lit (.bool false)), .pv (.lit (.string ⟨#[]⟩)), .pv (.lit (.int .i64 0)), .pv (.lit (.int .i64 0)), .pv (.lit (.int .i64 0))])] }) rfl rfl rfl rfl trivial rfl ?_)
  refine rvc_un (rexec_prim C (δ := { v := .undef, wr := [(5, some (.cells [.pv (.lit (.bool x.write)), .pv (.lit (.string x.value)), .pv (.lit (.int .i64 x.ver)), .pv (.lit (.int .i64 x.began)), .pv (.lit (.int .i64 x.ended))]))] }) rfl rfl rfl rfl trivial rfl ?_)
  refine rvc_nil ?_
  refine Awp.seq ?_
  refine Awp.consP C ?_
  refine rvP C (.ptr 5 0) ?_
  refine rvP C (.pv (.lit (.bool x.write))) ?_
  refine rvP C (.pv (.lit (.bool (!x.write)))) ?_
  refine rvP C (.pv (.lit (.bool (!x.write)))) ?_
  refine rvc_case 19 (!x.write) rfl (fun h5 => ?_) (fun h5 => ?_)
  ·
   replace hR := of_true h5 hR
   refine rvS ?_
   refine rvS ?_
   refine rvS ?_
   refine rvP C (.pv (.lit (.bool true))) ?_
   refine rvc_nil ?_
   refine Awp.condT (b := true) rfl rfl ?_
   refine Awp.exit ?_
   refine Awp.regionP C ?_
   refine rvP C (.pv (.lit (.int .i64 (IntKind.i64.wrap ((i : Int) + 1))))) ?_
   refine rvP C (.pv (.lit (.int .i64 (IntKind.i64.wrap ((i : Int) + 1))))) ?_
   refine rvc_nil ?_
   refine ⟨h3, vc, ?_, ?_⟩
   · exact hR
   · exact ⟨fun b => b, WeakerR.ofL (Ks := [9]) hI ⟨⟨rfl, rfl⟩, ⟨rfl, rfl⟩, ⟨rfl, rfl⟩, ⟨rfl, rfl⟩, ⟨lit_cast (wrap_i64 (by omega) (by omega)), rfl⟩, trivial⟩ (okH_map rfl rfl rfl (okH_nil)) rfl⟩
  ·
   replace hR := of_false h5 hR
   refine rvO C (.ptr 5 2) ?_
   refine rvO C (.pv (.lit (.int .i64 x.ver))) ?_
   refine rvO C (.pv (.lit (.bool (x.ver == 0)))) ?_
   refine rvP C (.pv (.lit (.bool (x.ver == 0)))) ?_
   refine rvc_nil ?_
   refine Awp.cond (b := (x.ver == 0)) rfl (fun h6 => ?_) (fun h6 => ?_)
   ·
    replace hR := of_true h6 hR
    refine Awp.exit ?_
    refine Awp.regionP C ?_
    refine rvP C (.pv (.lit (.int .i64 (IntKind.i64.wrap ((i : Int) + 1))))) ?_
    refine rvP C (.pv (.lit (.int .i64 (IntKind.i64.wrap ((i : Int) + 1))))) ?_
    refine rvc_nil ?_
    refine ⟨h3, vc, ?_, ?_⟩
    · exact hR
    · exact ⟨fun b => b, WeakerR.ofL (Ks := [9]) hI ⟨⟨rfl, rfl⟩, ⟨rfl, rfl⟩, ⟨rfl, rfl⟩, ⟨rfl, rfl⟩, ⟨lit_cast (wrap_i64 (by omega) (by omega)), rfl⟩, trivial⟩ (okH_map rfl rfl rfl (okH_nil)) rfl⟩
   ·
    replace hR := of_false h6 hR
    refine Awp.skip ?_
    refine Awp.seq ?_
    refine Awp.consP C ?_
    refine rvP C (.mp 9) ?_
    refine rvP C (.ptr 5 2) ?_
    refine rvP C (.pv (.lit (.int .i64 x.ver))) ?_
    refine rvc_un (rexec_lookup hP C rfl x.ver (Stand.mk ⟨#[]⟩ 0 false) rfl rfl rfl rfl rfl rfl kI64_ok rfl (.agg [.pv (.lit (.string (((mGet kI64 x.ver vc).getD (Stand.mk ⟨#[]⟩ 0 false)).value))), .pv (.lit (.int .i64 (((mGet kI64 x.ver vc).getD (Stand.mk ⟨#[]⟩ 0 false)).began))), .pv (.lit (.bool (((mGet kI64 x.ver vc).getD (Stand.mk ⟨#[]⟩ 0 false)).there)))]) rfl ?_)
    refine rvP C (.pv (.lit (.bool (((mGet kI64 x.ver vc).getD (Stand.mk ⟨#[]⟩ 0 false)).there)))) ?_
    refine rvc_nil ?_
    refine Awp.cond (b := ((mGet kI64 x.ver vc).getD (Stand.mk ⟨#[]⟩ 0 false)).there) rfl (fun h7 => ?_) (fun h7 => ?_)
    ·
     replace hR := of_true h7 hR
     refine Awp.consP C ?_
     refine rvP C (.pv (.lit (.bool false))) ?_
     refine rvc_nil ?_
     refine Awp.ret ?_
     subst hR
     exact ⟨.inl rfl, rfl⟩
    ·
     replace hR := of_false h7 hR
     refine Awp.skip ?_
     refine Awp.regionP C ?_
     refine rvP C (.mp 9) ?_
     refine rvP C (.ptr 5 2) ?_
     refine rvP C (.pv (.lit (.int .i64 x.ver))) ?_
     refine rvP C (.ptr 5 1) ?_
     refine rvP C (.pv (.lit (.string x.value))) ?_
     refine rvP C (.ptr 5 3) ?_
     refine rvP C (.pv (.lit (.int .i64 x.began))) ?_
     refine rvP C (.agg [.pv (.lit (.string x.value)), .pv (.lit (.int .i64 x.began)), .pv (.lit (.bool true))]) ?_
     refine rvc_un (rexec_mapUpdate hP C x.ver (Stand.mk x.value x.began true) rfl rfl rfl rfl rfl rfl kI64_ok ?_)
     refine rvc_nil ?_
     refine Awp.regionP C ?_
     refine rvP C (.pv (.lit (.int .i64 (IntKind.i64.wrap ((i : Int) + 1))))) ?_
     refine rvP C (.pv (.lit (.int .i64 (IntKind.i64.wrap ((i : Int) + 1))))) ?_
     refine rvc_nil ?_
     refine ⟨h3, (mSet kI64 x.ver (Stand.mk x.value x.began true) vc), ?_, ?_⟩
     · exact hR
     · exact ⟨fun b => b, WeakerR.ofL (Ks := [9]) hI ⟨⟨rfl, rfl⟩, ⟨rfl, rfl⟩, ⟨rfl, rfl⟩, ⟨rfl, rfl⟩, ⟨lit_cast (wrap_i64 (by omega) (by omega)), rfl⟩, trivial⟩ (okH_map rfl rfl rfl (okH_nil)) rfl⟩
 ·
  have h3 : ¬ i < l.D.length := by have := of_decide_eq_false h2; omega
  rw [drop_end h3] at hR
  refine Awp.exit ?_
  refine Awp.seq ?_
  refine Awp.consP C ?_
  refine rvP C (sS (some l.nil) eOp l.D) ?_
  refine rvP C (.pv (.lit (.int .i64 (l.D.length : Int)))) ?_
  refine rvP C (.pv (.lit (.int .i64 0))) ?_
  refine rvc_nil ?_
  refine Awp.block ?_
  refine Awp.forR (σ := Unit) (l.D.length) (fun i1 _v => [(0, sS (some l.nil) eOp l.D), (3, .mp 9), (38, sS (some l.nil) eOp l.D), (39, .pv (.lit (.int .i64 (l.D.length : Int)))), (40, .pv (.lit (.int .i64 (i1 : Int))))]) (fun i1 _v => [(9, mapE kI64 vStand.enc vc)]) [9] (fun i1 _v => versions_l1 l vc (l.D.drop i1) i1  = R) () ?_ ?_ (fun i1 _v h8 hR => ?_)
  · exact hR
  · exact ⟨fun b => b, WeakerR.ofL (Ks := [9]) hI ⟨⟨rfl, rfl⟩, ⟨rfl, rfl⟩, ⟨rfl, rfl⟩, ⟨rfl, rfl⟩, ⟨rfl, rfl⟩, trivial⟩ (okH_map rfl rfl rfl (okH_nil)) rfl⟩
  refine Awp.consP C ?_
  refine rvP C (.pv (.lit (.bool (decide ((i1 : Int) < (l.D.length : Int)))))) ?_
  refine rvc_nil ?_
  refine Awp.seq ?_
  refine Awp.cond (b := (decide ((i1 : Int) < (l.D.length : Int)))) rfl (fun h9 => ?_) (fun h9 => ?_)
  ·
   have h10 : i1 < l.D.length := by have := of_decide_eq_true h9; omega
   obtain ⟨x1, h11⟩ := getX h10
   rw [drop_at h11] at hR
   refine Awp.skip ?_
   refine Awp.seq ?_
   refine Awp.block ?_
   refine Awp.consP C ?_
   refine rvc_un (rexec_idxS C rfl rfl rfl rfl rfl rfl x1 (Int.natCast_nonneg _) h11 ?_)
   refine rvP C (.agg [.pv (.lit (.bool x1.write)), .pv (.lit (.string x1.value)), .pv (.lit (.int .i64 x1.ver)), .pv (.lit (.int .i64 x1.began)), .pv (.lit (.int .i64 x1.ended))]) ?_
   refine rvc_un (rexec_prim C (δ := { v := .ptr 7 0, new := [(7, .cells [.pv (.lit (.bool false)), .pv (.lit (.string ⟨#[]⟩)), .pv (.lit (.int .i64 0)), .pv (.lit (.int .i64 0)), .pv (.lit (.int .i64 0))])] }) rfl rfl rfl rfl trivial rfl ?_)
   refine rvc_un (rexec_prim C (δ := { v := .undef, wr := [(7, some (.cells [.pv (.lit (.bool x1.write)), .pv (.lit (.string x1.value)), .pv (.lit (.int .i64 x1.ver)), .pv (.lit (.int .i64 x1.began)), .pv (.lit (.int .i64 x1.ended))]))] }) rfl rfl rfl rfl trivial rfl ?_)
   refine rvc_nil ?_
   refine Awp.consP C ?_
   refine rvP C (.mp 9) ?_
   refine rvP C (.ptr 7 2) ?_
   refine rvP C (.pv (.lit (.int .i64 x1.ver))) ?_
   refine rvc_un (rexec_lookup hP C rfl x1.ver (Stand.mk ⟨#[]⟩ 0 false) rfl rfl rfl rfl rfl rfl kI64_ok rfl (.agg [.pv (.lit (.string (((mGet kI64 x1.ver vc).getD (Stand.mk ⟨#[]⟩ 0 false)).value))), .pv (.lit (.int .i64 (((mGet kI64 x1.ver vc).getD (Stand.mk ⟨#[]⟩ 0 false)).began))), .pv (.lit (.bool (((mGet kI64 x1.ver vc).getD (Stand.mk ⟨#[]⟩ 0 false)).there)))]) rfl ?_)
   refine rvc_un (rexec_prim C (δ := { v := .ptr 8 0, new := [(8, .cells [.pv (.lit (.string ⟨#[]⟩)), .pv (.lit (.int .i64 0)), .pv (.lit (.bool false))])] }) rfl rfl rfl rfl trivial rfl ?_)
   refine rvc_un (rexec_prim C (δ := { v := .undef, wr := [(8, some (.cells [.pv (.lit (.string (((mGet kI64 x1.ver vc).getD (Stand.mk ⟨#[]⟩ 0 false)).value))), .pv (.lit (.int .i64 (((mGet kI64 x1.ver vc).getD (Stand.mk ⟨#[]⟩ 0 false)).began))), .pv (.lit (.bool (((mGet kI64 x1.ver vc).getD (Stand.mk ⟨#[]⟩ 0 false)).there)))]))] }) rfl rfl rfl rfl trivial rfl ?_)
   refine rvc_nil ?_
   refine Awp.block ?_
   refine Awp.consP C ?_
   refine rvP C (.ptr 7 4) ?_
   refine rvP C (.pv (.lit (.int .i64 x1.ended))) ?_
   refine rvP C (.pv (.lit (.bool (x1.ended == 0)))) ?_
   refine rvP C (.pv (.lit (.bool (x1.ended == 0)))) ?_
   refine rvc_nil ?_
   refine Awp.cond (b := (x1.ended == 0)) rfl (fun h12 => ?_) (fun h12 => ?_)
   ·
    replace hR := of_true h12 hR
    refine Awp.skip ?_
    refine Awp.regionP C ?_
    refine rvP C (.pv (.lit (.int .i64 (IntKind.i64.wrap ((i1 : Int) + 1))))) ?_
    refine rvP C (.pv (.lit (.int .i64 (IntKind.i64.wrap ((i1 : Int) + 1))))) ?_
    refine rvc_nil ?_
    refine ⟨h10, (), ?_, ?_⟩
    · exact hR
    · exact ⟨fun b => b, WeakerR.ofL (Ks := [9]) hI ⟨⟨rfl, rfl⟩, ⟨rfl, rfl⟩, ⟨rfl, rfl⟩, ⟨rfl, rfl⟩, ⟨lit_cast (wrap_i64 (by omega) (by omega)), rfl⟩, trivial⟩ (okH_map rfl rfl rfl (okH_nil)) rfl⟩
   ·
    replace hR := of_false h12 hR
    refine Awp.consP C ?_
    refine rvP C (.ptr 7 2) ?_
    refine rvP C (.pv (.lit (.int .i64 x1.ver))) ?_
    refine rvP C (.pv (.lit (.bool (x1.ver == 0)))) ?_
    refine rvP C (.pv (.lit (.bool (x1.ver == 0)))) ?_
    refine rvc_case 56 (x1.ver == 0) rfl (fun h13 => ?_) (fun h13 => ?_)
    ·
     replace hR := of_true h13 hR
     refine rvO C (.ptr 7 0) ?_
     refine rvO C (.pv (.lit (.bool x1.write))) ?_
     refine rvO C (.pv (.lit (.bool x1.write))) ?_
     refine rvc_case 59 x1.write rfl (fun h14 => ?_) (fun h14 => ?_)
     ·
      replace hR := of_true h14 hR
      refine rvS ?_
      refine rvS ?_
      refine rvS ?_
      refine rvO C (.pv (.lit (.bool true))) ?_
      refine rvP C (.pv (.lit (.bool true))) ?_
      refine rvP C (.pv (.lit (.bool true))) ?_
      refine rvc_nil ?_
      refine Awp.condT (b := true) rfl rfl ?_
      refine Awp.consP C ?_
      refine rvP C (.pv (.lit (.bool false))) ?_
      refine rvc_nil ?_
      refine Awp.ret ?_
      subst hR
      exact ⟨.inl rfl, rfl⟩
     ·
      replace hR := of_false h14 hR
      refine rvO C (.ptr 7 1) ?_
      refine rvO C (.pv (.lit (.string x1.value))) ?_
      refine rvO C (.pv (.lit (.bool (!(x1.value.toList == (⟨#[]⟩ : ByteArray).toList))))) ?_
      refine rvO C (.pv (.lit (.bool (!(x1.value.toList == (⟨#[]⟩ : ByteArray).toList))))) ?_
      refine rvP C (.pv (.lit (.bool (!(x1.value.toList == (⟨#[]⟩ : ByteArray).toList))))) ?_
      refine rvP C (.pv (.lit (.bool (!(x1.value.toList == (⟨#[]⟩ : ByteArray).toList))))) ?_
      refine rvc_nil ?_
      refine Awp.cond (b := (!(x1.value.toList == (⟨#[]⟩ : ByteArray).toList))) rfl (fun h15 => ?_) (fun h15 => ?_)
      ·
       replace hR := of_true h15 hR
       refine Awp.consP C ?_
       refine rvP C (.pv (.lit (.bool false))) ?_
       refine rvc_nil ?_
       refine Awp.ret ?_
       subst hR
       exact ⟨.inl rfl, rfl⟩
      ·
       replace hR := of_false h15 hR
       refine Awp.consP C ?_
       refine rvP C (.ptr 7 2) ?_
       refine rvP C (.pv (.lit (.int .i64 x1.ver))) ?_
       refine rvP C (.pv (.lit (.bool (x1.ver != 0)))) ?_
       refine rvP C (.pv (.lit (.bool (x1.ver != 0)))) ?_
       refine rvc_case 69 (x1.ver != 0) rfl (fun h16 => ?_) (fun h16 => ?_)
       ·
        replace hR := of_true h16 hR
        refine rvO C (.ptr 7 0) ?_
        refine rvO C (.pv (.lit (.bool x1.write))) ?_
        refine rvO C (.pv (.lit (.bool (!x1.write)))) ?_
        refine rvP C (.pv (.lit (.bool (!x1.write)))) ?_
        refine rvP C (.pv (.lit (.bool (!x1.write)))) ?_
        refine rvc_case 74 (!x1.write) rfl (fun h17 => ?_) (fun h17 => ?_)
        ·
         replace hR := of_true h17 hR
         refine rvO C (.ptr 8 2) ?_
         refine rvO C (.pv (.lit (.bool (((mGet kI64 x1.ver vc).getD (Stand.mk ⟨#[]⟩ 0 false)).there)))) ?_
         refine rvO C (.pv (.lit (.bool (!(((mGet kI64 x1.ver vc).getD (Stand.mk ⟨#[]⟩ 0 false)).there))))) ?_
         refine rvO C (.pv (.lit (.bool (!(((mGet kI64 x1.ver vc).getD (Stand.mk ⟨#[]⟩ 0 false)).there))))) ?_
         refine rvc_case 78 (!(((mGet kI64 x1.ver vc).getD (Stand.mk ⟨#[]⟩ 0 false)).there)) rfl (fun h18 => ?_) (fun h18 => ?_)
         ·
          replace hR := of_true h18 hR
          refine rvS ?_
          refine rvS ?_
          refine rvS ?_
          refine rvS ?_
          refine rvS ?_
          refine rvO C (.pv (.lit (.bool true))) ?_
          refine rvO C (.pv (.lit (.bool true))) ?_
          refine rvS ?_
          refine rvS ?_
          refine rvS ?_
          refine rvS ?_
          refine rvS ?_
          refine rvO C (.pv (.lit (.bool true))) ?_
          refine rvP C (.pv (.lit (.bool true))) ?_
          refine rvP C (.pv (.lit (.bool true))) ?_
          refine rvc_nil ?_
          refine Awp.condT (b := true) rfl rfl ?_
          refine Awp.consP C ?_
          refine rvP C (.pv (.lit (.bool false))) ?_
          refine rvc_nil ?_
          refine Awp.ret ?_
          subst hR
          exact ⟨.inl rfl, rfl⟩
         ·
          replace hR := of_false h18 hR
          refine rvO C (.ptr 8 0) ?_
          refine rvO C (.pv (.lit (.string (((mGet kI64 x1.ver vc).getD (Stand.mk ⟨#[]⟩ 0 false)).value)))) ?_
          refine rvO C (.ptr 7 1) ?_
          refine rvO C (.pv (.lit (.string x1.value))) ?_
          refine rvO C (.pv (.lit (.bool (!((((mGet kI64 x1.ver vc).getD (Stand.mk ⟨#[]⟩ 0 false)).value).toList == x1.value.toList))))) ?_
          refine rvO C (.pv (.lit (.bool (!((((mGet kI64 x1.ver vc).getD (Stand.mk ⟨#[]⟩ 0 false)).value).toList == x1.value.toList))))) ?_
          refine rvO C (.pv (.lit (.bool (!((((mGet kI64 x1.ver vc).getD (Stand.mk ⟨#[]⟩ 0 false)).value).toList == x1.value.toList))))) ?_
          refine rvc_case 85 (!((((mGet kI64 x1.ver vc).getD (Stand.mk ⟨#[]⟩ 0 false)).value).toList == x1.value.toList)) rfl (fun h19 => ?_) (fun h19 => ?_)
          ·
           replace hR := of_true h19 hR
           refine rvS ?_
           refine rvS ?_
           refine rvS ?_
           refine rvS ?_
           refine rvS ?_
           refine rvO C (.pv (.lit (.bool true))) ?_
           refine rvP C (.pv (.lit (.bool true))) ?_
           refine rvP C (.pv (.lit (.bool true))) ?_
           refine rvc_nil ?_
           refine Awp.condT (b := true) rfl rfl ?_
           refine Awp.consP C ?_
           refine rvP C (.pv (.lit (.bool false))) ?_
           refine rvc_nil ?_
           refine Awp.ret ?_
           subst hR
           exact ⟨.inl rfl, rfl⟩
          ·
           replace hR := of_false h19 hR
           refine rvO C (.ptr 8 1) ?_
           refine rvO C (.pv (.lit (.int .i64 (((mGet kI64 x1.ver vc).getD (Stand.mk ⟨#[]⟩ 0 false)).began)))) ?_
           refine rvO C (.ptr 7 4) ?_
           refine rvO C (.pv (.lit (.int .i64 x1.ended))) ?_
           refine rvO C (.pv (.lit (.bool (decide ((((mGet kI64 x1.ver vc).getD (Stand.mk ⟨#[]⟩ 0 false)).began) ≥ x1.ended))))) ?_
           refine rvO C (.pv (.lit (.bool (decide ((((mGet kI64 x1.ver vc).getD (Stand.mk ⟨#[]⟩ 0 false)).began) ≥ x1.ended))))) ?_
           refine rvP C (.pv (.lit (.bool (decide ((((mGet kI64 x1.ver vc).getD (Stand.mk ⟨#[]⟩ 0 false)).began) ≥ x1.ended))))) ?_
           refine rvP C (.pv (.lit (.bool (decide ((((mGet kI64 x1.ver vc).getD (Stand.mk ⟨#[]⟩ 0 false)).began) ≥ x1.ended))))) ?_
           refine rvc_nil ?_
           refine Awp.cond (b := (decide ((((mGet kI64 x1.ver vc).getD (Stand.mk ⟨#[]⟩ 0 false)).began) ≥ x1.ended))) rfl (fun h20 => ?_) (fun h20 => ?_)
           ·
            replace hR := of_true h20 hR
            refine Awp.consP C ?_
            refine rvP C (.pv (.lit (.bool false))) ?_
            refine rvc_nil ?_
            refine Awp.ret ?_
            subst hR
            exact ⟨.inl rfl, rfl⟩
           ·
            replace hR := of_false h20 hR
            refine Awp.skip ?_
            refine Awp.regionP C ?_
            refine rvP C (.pv (.lit (.int .i64 (IntKind.i64.wrap ((i1 : Int) + 1))))) ?_
            refine rvP C (.pv (.lit (.int .i64 (IntKind.i64.wrap ((i1 : Int) + 1))))) ?_
            refine rvc_nil ?_
            refine ⟨h10, (), ?_, ?_⟩
            · exact hR
            · exact ⟨fun b => b, WeakerR.ofL (Ks := [9]) hI ⟨⟨rfl, rfl⟩, ⟨rfl, rfl⟩, ⟨rfl, rfl⟩, ⟨rfl, rfl⟩, ⟨lit_cast (wrap_i64 (by omega) (by omega)), rfl⟩, trivial⟩ (okH_map rfl rfl rfl (okH_nil)) rfl⟩
        ·
         replace hR := of_false h17 hR
         refine rvS ?_
         refine rvS ?_
         refine rvS ?_
         refine rvS ?_
         refine rvc_shutU rfl rfl rfl ?_
         refine rvc_shutU rfl rfl rfl ?_
         refine rvc_shutU rfl rfl rfl ?_
         refine rvc_shutU rfl rfl rfl ?_
         refine rvc_shutU rfl rfl rfl ?_
         refine rvS ?_
         refine rvS ?_
         refine rvc_shutU rfl rfl rfl ?_
         refine rvc_shutU rfl rfl rfl ?_
         refine rvc_shutU rfl rfl rfl ?_
         refine rvc_shutU rfl rfl rfl ?_
         refine rvc_shutU rfl rfl rfl ?_
         refine rvS ?_
         refine rvP C (.pv (.lit (.bool false))) ?_
         refine rvP C (.pv (.lit (.bool false))) ?_
         refine rvc_nil ?_
         refine Awp.condF (b := false) rfl rfl ?_
         refine Awp.skip ?_
         refine Awp.regionP C ?_
         refine rvP C (.pv (.lit (.int .i64 (IntKind.i64.wrap ((i1 : Int) + 1))))) ?_
         refine rvP C (.pv (.lit (.int .i64 (IntKind.i64.wrap ((i1 : Int) + 1))))) ?_
         refine rvc_nil ?_
         refine ⟨h10, (), ?_, ?_⟩
         · exact hR
         · exact ⟨fun b => b, WeakerR.ofL (Ks := [9]) hI ⟨⟨rfl, rfl⟩, ⟨rfl, rfl⟩, ⟨rfl, rfl⟩, ⟨rfl, rfl⟩, ⟨lit_cast (wrap_i64 (by omega) (by omega)), rfl⟩, trivial⟩ (okH_map rfl rfl rfl (okH_nil)) rfl⟩
       ·
        replace hR := of_false h16 hR
        refine rvS ?_
        refine rvS ?_
        refine rvS ?_
        refine rvP C (.pv (.lit (.bool false))) ?_
        refine rvP C (.pv (.lit (.bool false))) ?_
        refine rvS ?_
        refine rvS ?_
        refine rvS ?_
        refine rvS ?_
        refine rvc_shutU rfl rfl rfl ?_
        refine rvc_shutU rfl rfl rfl ?_
        refine rvc_shutU rfl rfl rfl ?_
        refine rvc_shutU rfl rfl rfl ?_
        refine rvc_shutU rfl rfl rfl ?_
        refine rvS ?_
        refine rvS ?_
        refine rvc_shutU rfl rfl rfl ?_
        refine rvc_shutU rfl rfl rfl ?_
        refine rvc_shutU rfl rfl rfl ?_
        refine rvc_shutU rfl rfl rfl ?_
        refine rvc_shutU rfl rfl rfl ?_
        refine rvS ?_
        refine rvP C (.pv (.lit (.bool false))) ?_
        refine rvP C (.pv (.lit (.bool false))) ?_
        refine rvc_nil ?_
        refine Awp.condF (b := false) rfl rfl ?_
        refine Awp.skip ?_
        refine Awp.regionP C ?_
        refine rvP C (.pv (.lit (.int .i64 (IntKind.i64.wrap ((i1 : Int) + 1))))) ?_
        refine rvP C (.pv (.lit (.int .i64 (IntKind.i64.wrap ((i1 : Int) + 1))))) ?_
        refine rvc_nil ?_
        refine ⟨h10, (), ?_, ?_⟩
        · exact hR
        · exact ⟨fun b => b, WeakerR.ofL (Ks := [9]) hI ⟨⟨rfl, rfl⟩, ⟨rfl, rfl⟩, ⟨rfl, rfl⟩, ⟨rfl, rfl⟩, ⟨lit_cast (wrap_i64 (by omega) (by omega)), rfl⟩, trivial⟩ (okH_map rfl rfl rfl (okH_nil)) rfl⟩
    ·
     replace hR := of_false h13 hR
     refine rvS ?_
     refine rvS ?_
     refine rvS ?_
     refine rvc_shutU rfl rfl rfl ?_
     refine rvc_shutU rfl rfl rfl ?_
     refine rvc_shutU rfl rfl rfl ?_
     refine rvS ?_
     refine rvP C (.pv (.lit (.bool false))) ?_
     refine rvP C (.pv (.lit (.bool false))) ?_
     refine rvc_nil ?_
     refine Awp.condF (b := false) rfl rfl ?_
     refine Awp.consP C ?_
     refine rvP C (.ptr 7 2) ?_
     refine rvP C (.pv (.lit (.int .i64 x1.ver))) ?_
     refine rvP C (.pv (.lit (.bool (x1.ver != 0)))) ?_
     refine rvP C (.pv (.lit (.bool (x1.ver != 0)))) ?_
     refine rvc_case 69 (x1.ver != 0) rfl (fun h21 => ?_) (fun h21 => ?_)
     ·
      replace hR := of_true h21 hR
      refine rvO C (.ptr 7 0) ?_
      refine rvO C (.pv (.lit (.bool x1.write))) ?_
      refine rvO C (.pv (.lit (.bool (!x1.write)))) ?_
      refine rvP C (.pv (.lit (.bool (!x1.write)))) ?_
      refine rvP C (.pv (.lit (.bool (!x1.write)))) ?_
      refine rvc_case 74 (!x1.write) rfl (fun h22 => ?_) (fun h22 => ?_)
      ·
       replace hR := of_true h22 hR
       refine rvO C (.ptr 8 2) ?_
       refine rvO C (.pv (.lit (.bool (((mGet kI64 x1.ver vc).getD (Stand.mk ⟨#[]⟩ 0 false)).there)))) ?_
       refine rvO C (.pv (.lit (.bool (!(((mGet kI64 x1.ver vc).getD (Stand.mk ⟨#[]⟩ 0 false)).there))))) ?_
       refine rvO C (.pv (.lit (.bool (!(((mGet kI64 x1.ver vc).getD (Stand.mk ⟨#[]⟩ 0 false)).there))))) ?_
       refine rvc_case 78 (!(((mGet kI64 x1.ver vc).getD (Stand.mk ⟨#[]⟩ 0 false)).there)) rfl (fun h23 => ?_) (fun h23 => ?_)
       ·
        replace hR := of_true h23 hR
        refine rvS ?_
        refine rvS ?_
        refine rvS ?_
        refine rvS ?_
        refine rvS ?_
        refine rvO C (.pv (.lit (.bool true))) ?_
        refine rvO C (.pv (.lit (.bool true))) ?_
        refine rvS ?_
        refine rvS ?_
        refine rvS ?_
        refine rvS ?_
        refine rvS ?_
        refine rvO C (.pv (.lit (.bool true))) ?_
        refine rvP C (.pv (.lit (.bool true))) ?_
        refine rvP C (.pv (.lit (.bool true))) ?_
        refine rvc_nil ?_
        refine Awp.condT (b := true) rfl rfl ?_
        refine Awp.consP C ?_
        refine rvP C (.pv (.lit (.bool false))) ?_
        refine rvc_nil ?_
        refine Awp.ret ?_
        subst hR
        exact ⟨.inl rfl, rfl⟩
       ·
        replace hR := of_false h23 hR
        refine rvO C (.ptr 8 0) ?_
        refine rvO C (.pv (.lit (.string (((mGet kI64 x1.ver vc).getD (Stand.mk ⟨#[]⟩ 0 false)).value)))) ?_
        refine rvO C (.ptr 7 1) ?_
        refine rvO C (.pv (.lit (.string x1.value))) ?_
        refine rvO C (.pv (.lit (.bool (!((((mGet kI64 x1.ver vc).getD (Stand.mk ⟨#[]⟩ 0 false)).value).toList == x1.value.toList))))) ?_
        refine rvO C (.pv (.lit (.bool (!((((mGet kI64 x1.ver vc).getD (Stand.mk ⟨#[]⟩ 0 false)).value).toList == x1.value.toList))))) ?_
        refine rvO C (.pv (.lit (.bool (!((((mGet kI64 x1.ver vc).getD (Stand.mk ⟨#[]⟩ 0 false)).value).toList == x1.value.toList))))) ?_
        refine rvc_case 85 (!((((mGet kI64 x1.ver vc).getD (Stand.mk ⟨#[]⟩ 0 false)).value).toList == x1.value.toList)) rfl (fun h24 => ?_) (fun h24 => ?_)
        ·
         replace hR := of_true h24 hR
         refine rvS ?_
         refine rvS ?_
         refine rvS ?_
         refine rvS ?_
         refine rvS ?_
         refine rvO C (.pv (.lit (.bool true))) ?_
         refine rvP C (.pv (.lit (.bool true))) ?_
         refine rvP C (.pv (.lit (.bool true))) ?_
         refine rvc_nil ?_
         refine Awp.condT (b := true) rfl rfl ?_
         refine Awp.consP C ?_
         refine rvP C (.pv (.lit (.bool false))) ?_
         refine rvc_nil ?_
         refine Awp.ret ?_
         subst hR
         exact ⟨.inl rfl, rfl⟩
        ·
         replace hR := of_false h24 hR
         refine rvO C (.ptr 8 1) ?_
         refine rvO C (.pv (.lit (.int .i64 (((mGet kI64 x1.ver vc).getD (Stand.mk ⟨#[]⟩ 0 false)).began)))) ?_
         refine rvO C (.ptr 7 4) ?_
         refine rvO C (.pv (.lit (.int .i64 x1.ended))) ?_
         refine rvO C (.pv (.lit (.bool (decide ((((mGet kI64 x1.ver vc).getD (Stand.mk ⟨#[]⟩ 0 false)).began) ≥ x1.ended))))) ?_
         refine rvO C (.pv (.lit (.bool (decide ((((mGet kI64 x1.ver vc).getD (Stand.mk ⟨#[]⟩ 0 false)).began) ≥ x1.ended))))) ?_
         refine rvP C (.pv (.lit (.bool (decide ((((mGet kI64 x1.ver vc).getD (Stand.mk ⟨#[]⟩ 0 false)).began) ≥ x1.ended))))) ?_
         refine rvP C (.pv (.lit (.bool (decide ((((mGet kI64 x1.ver vc).getD (Stand.mk ⟨#[]⟩ 0 false)).began) ≥ x1.ended))))) ?_
         refine rvc_nil ?_
         refine Awp.cond (b := (decide ((((mGet kI64 x1.ver vc).getD (Stand.mk ⟨#[]⟩ 0 false)).began) ≥ x1.ended))) rfl (fun h25 => ?_) (fun h25 => ?_)
         ·
          replace hR := of_true h25 hR
          refine Awp.consP C ?_
          refine rvP C (.pv (.lit (.bool false))) ?_
          refine rvc_nil ?_
          refine Awp.ret ?_
          subst hR
          exact ⟨.inl rfl, rfl⟩
         ·
          replace hR := of_false h25 hR
          refine Awp.skip ?_
          refine Awp.regionP C ?_
          refine rvP C (.pv (.lit (.int .i64 (IntKind.i64.wrap ((i1 : Int) + 1))))) ?_
          refine rvP C (.pv (.lit (.int .i64 (IntKind.i64.wrap ((i1 : Int) + 1))))) ?_
          refine rvc_nil ?_
          refine ⟨h10, (), ?_, ?_⟩
          · exact hR
          · exact ⟨fun b => b, WeakerR.ofL (Ks := [9]) hI ⟨⟨rfl, rfl⟩, ⟨rfl, rfl⟩, ⟨rfl, rfl⟩, ⟨rfl, rfl⟩, ⟨lit_cast (wrap_i64 (by omega) (by omega)), rfl⟩, trivial⟩ (okH_map rfl rfl rfl (okH_nil)) rfl⟩
      ·
       replace hR := of_false h22 hR
       refine rvS ?_
       refine rvS ?_
       refine rvS ?_
       refine rvS ?_
       refine rvc_shutU rfl rfl rfl ?_
       refine rvc_shutU rfl rfl rfl ?_
       refine rvc_shutU rfl rfl rfl ?_
       refine rvc_shutU rfl rfl rfl ?_
       refine rvc_shutU rfl rfl rfl ?_
       refine rvS ?_
       refine rvS ?_
       refine rvc_shutU rfl rfl rfl ?_
       refine rvc_shutU rfl rfl rfl ?_
       refine rvc_shutU rfl rfl rfl ?_
       refine rvc_shutU rfl rfl rfl ?_
       refine rvc_shutU rfl rfl rfl ?_
       refine rvS ?_
       refine rvP C (.pv (.lit (.bool false))) ?_
       refine rvP C (.pv (.lit (.bool false))) ?_
       refine rvc_nil ?_
       refine Awp.condF (b := false) rfl rfl ?_
       refine Awp.skip ?_
       refine Awp.regionP C ?_
       refine rvP C (.pv (.lit (.int .i64 (IntKind.i64.wrap ((i1 : Int) + 1))))) ?_
       refine rvP C (.pv (.lit (.int .i64 (IntKind.i64.wrap ((i1 : Int) + 1))))) ?_
       refine rvc_nil ?_
       refine ⟨h10, (), ?_, ?_⟩
       · exact hR
       · exact ⟨fun b => b, WeakerR.ofL (Ks := [9]) hI ⟨⟨rfl, rfl⟩, ⟨rfl, rfl⟩, ⟨rfl, rfl⟩, ⟨rfl, rfl⟩, ⟨lit_cast (wrap_i64 (by omega) (by omega)), rfl⟩, trivial⟩ (okH_map rfl rfl rfl (okH_nil)) rfl⟩
     ·
      replace hR := of_false h21 hR
      refine rvS ?_
      refine rvS ?_
      refine rvS ?_
      refine rvP C (.pv (.lit (.bool false))) ?_
      refine rvP C (.pv (.lit (.bool false))) ?_
      refine rvS ?_
      refine rvS ?_
      refine rvS ?_
      refine rvS ?_
      refine rvc_shutU rfl rfl rfl ?_
      refine rvc_shutU rfl rfl rfl ?_
      refine rvc_shutU rfl rfl rfl ?_
      refine rvc_shutU rfl rfl rfl ?_
      refine rvc_shutU rfl rfl rfl ?_
      refine rvS ?_
      refine rvS ?_
      refine rvc_shutU rfl rfl rfl ?_
      refine rvc_shutU rfl rfl rfl ?_
      refine rvc_shutU rfl rfl rfl ?_
      refine rvc_shutU rfl rfl rfl ?_
      refine rvc_shutU rfl rfl rfl ?_
      refine rvS ?_
      refine rvP C (.pv (.lit (.bool false))) ?_
      refine rvP C (.pv (.lit (.bool false))) ?_
      refine rvc_nil ?_
      refine Awp.condF (b := false) rfl rfl ?_
      refine Awp.skip ?_
      refine Awp.regionP C ?_
      refine rvP C (.pv (.lit (.int .i64 (IntKind.i64.wrap ((i1 : Int) + 1))))) ?_
      refine rvP C (.pv (.lit (.int .i64 (IntKind.i64.wrap ((i1 : Int) + 1))))) ?_
      refine rvc_nil ?_
      refine ⟨h10, (), ?_, ?_⟩
      · exact hR
      · exact ⟨fun b => b, WeakerR.ofL (Ks := [9]) hI ⟨⟨rfl, rfl⟩, ⟨rfl, rfl⟩, ⟨rfl, rfl⟩, ⟨rfl, rfl⟩, ⟨lit_cast (wrap_i64 (by omega) (by omega)), rfl⟩, trivial⟩ (okH_map rfl rfl rfl (okH_nil)) rfl⟩
  ·
   have h10 : ¬ i1 < l.D.length := by have := of_decide_eq_false h9; omega
   rw [drop_end h10] at hR
   refine Awp.exit ?_
   refine Awp.consP C ?_
   refine rvP C (sS (some l.nil) eOp l.D) ?_
   refine rvc_un (rexec_call hP C rfl rfl rfl (rising_calls l hl1) ?_)
   refine rvP C (.pv (.lit (.bool (rising l)))) ?_
   refine rvc_nil ?_
   refine Awp.ret ?_
   subst hR
   exact ⟨.inl rfl, rfl⟩
end Go.Proofs.Ytoieegmebadfkaa
namespace Go.Proofs.Ytoieegmebadfkaa
open Go.Am
def okR (a b : Op) : Bool := (a.ended == 0) || !((b.ended != 0) || b.write && (b.ver != 0)) || decide (a.ended ≥ b.began) || !(decide (a.ver > b.ver) || b.write && (a.ver == b.ver))
def okB (L : List Op) (x : Op) : Bool := (x.ver == 0) && (x.value.toList == (⟨#[]⟩ : ByteArray).toList) || L.any fun b => b.write && ((b.ver == x.ver) && ((x.ver != 0) && ((b.value.toList == x.value.toList) && decide (b.began < x.ended))))
structure VP (L : List Op) : Prop where
  w0 : ∀ x ∈ L, x.write = true → x.ended ≠ 0 → x.ver ≠ 0
  one : ∀ (i j : Nat) (x y : Op), L[i]? = some x → L[j]? = some y → i < j → x.write = true → y.write = true → x.ver = y.ver → x.ver = 0
  rd : ∀ x ∈ L, x.write = false → x.ended ≠ 0 → okB L x = true
  ris : ∀ a ∈ L, ∀ b ∈ L, okR a b = true
theorem loop_iffK {α : Type} {f : List α → Nat → Bool} {c : Nat → α → Bool} {kk : Bool} (h0 : ∀ j, f [] j = kk) (h1 : ∀ x xs j, f (x :: xs) j = bif c j x then false else f xs (j + 1)) : ∀ (xs : List α) (j : Nat), f xs j = true ↔ (∀ k x, xs[k]? = some x → c (j + k) x = false) ∧ kk = true
  | [], j => by rw [h0]; exact ⟨fun h => ⟨fun k x hx => by simp at hx, h⟩, fun h => h.2⟩
  | x :: xs, j => by
    rw [h1]
    cases hc : c j x
    · rw [cond_false, loop_iffK h0 h1 xs (j + 1)]
      refine ⟨fun h => ⟨fun k y hy => ?_, h.2⟩, fun h => ⟨fun k y hy => ?_, h.2⟩⟩
      · cases k with
        | zero => simp only [List.getElem?_cons_zero, Option.some.injEq] at hy; subst hy; exact hc
        | succ k => rw [List.getElem?_cons_succ] at hy; have := h.1 k y hy; rwa [show j + 1 + k = j + (k + 1) by omega] at this
      · have := h.1 (k + 1) y (by rw [List.getElem?_cons_succ]; exact hy)
        rwa [show j + (k + 1) = j + 1 + k by omega] at this
    · rw [cond_true]
      refine ⟨fun h => (by cases h), fun h => ?_⟩
      have := h.1 0 x rfl
      rw [Nat.add_zero, hc] at this; cases this
theorem rl4_eq (x : Op) (kk : Bool) : ∀ (xs : List Op) (i : Nat), rVersions_l4 x kk xs i = (xs.all (okR x) && kk)
  | [], _ => by unfold rVersions_l4; rfl
  | y :: ys, i => by
    unfold rVersions_l4
    rw [rl4_eq x kk ys (i + 1), List.all_cons]
    unfold okR
    rw [show (x.ended == 0) = !(x.ended != 0) by rw [bne, Bool.not_not]]
    generalize ys.all _ = r
    generalize (y.ended != 0) = b1
    generalize (x.ended != 0) = b2
    generalize (decide (x.ended ≥ y.began)) = b3
    generalize (decide (x.ver > y.ver)) = b4
    generalize (x.ver == y.ver) = b5
    generalize (y.ver != 0) = b6
    generalize y.write = b7
    cases b1 <;> cases b2 <;> cases b3 <;> cases b4 <;> cases b5 <;> cases b6 <;> cases b7 <;> simp
theorem rl3_eq (l : Sl Op) : ∀ (xs : List Op) (i : Nat), rVersions_l3 l xs i = xs.all fun a => l.D.all (okR a)
  | [], _ => by unfold rVersions_l3; rfl
  | x :: xs, i => by
    unfold rVersions_l3
    rw [rl4_eq, rl3_eq l xs (i + 1), List.all_cons]
theorem rl2_eq (x : Op) (kk : Bool → Bool) : ∀ (xs : List Op) (i : Nat) (ok : Bool), rVersions_l2 x kk xs i ok = kk (ok || xs.any fun b => b.write && ((b.ver == x.ver) && ((x.ver != 0) && ((b.value.toList == x.value.toList) && decide (b.began < x.ended)))))
  | [], _, ok => by unfold rVersions_l2; simp
  | y :: ys, i, ok => by
    unfold rVersions_l2
    rw [rl2_eq x kk ys (i + 1), rl2_eq x kk ys (i + 1), rl2_eq x kk ys (i + 1), List.any_cons]
    generalize ys.any _ = r
    cases ok <;> cases y.write <;> cases (y.ver == x.ver) <;> cases (x.ver != 0) <;> cases (y.value.toList == x.value.toList) <;> simp
theorem rl1_iff (i : Nat) (x : Op) (kk : Bool) (xs : List Op) : rVersions_l1 i x kk xs 0 = true ↔ (∀ k y, xs[k]? = some y → (decide (i ≠ k) && (y.write && ((x.ver == y.ver) && (x.ver != 0)))) = false) ∧ kk = true := by
  have := loop_iffK (f := rVersions_l1 i x kk) (kk := kk) (c := fun k (y : Op) => decide (i ≠ k) && (y.write && ((x.ver == y.ver) && (x.ver != 0)))) (fun j => by unfold rVersions_l1; rfl) (fun y ys j => by
    conv => lhs; unfold rVersions_l1
    have e : ((i : Int) != (j : Int)) = decide (i ≠ j) := by
      rw [Bool.eq_iff_iff, bne_iff_ne, decide_eq_true_eq]; omega
    rw [e]
    cases decide (i ≠ j) <;> cases y.write <;> cases (x.ver == y.ver) <;> cases (x.ver != 0) <;> rfl) xs 0
  simp only [Nat.zero_add] at this
  exact this
theorem rl1b_eq (i : Nat) (kk : Bool) : ∀ (xs : List Op) (j : Nat), rVersions_l1b i kk xs j = kk
  | [], _ => by unfold rVersions_l1b; rfl
  | _ :: xs, j => by
    unfold rVersions_l1b
    rw [rl1b_eq i kk xs (j + 1)]
    cases ((i : Int) != (j : Int)) <;> rfl
/-- What is asked of one call. -/
def C1 (l : List Op) (n : Nat) (x : Op) : Prop := (x.write = true → x.ended ≠ 0 → x.ver ≠ 0) ∧ (x.write = true → ∀ k y, l[k]? = some y → (decide (n ≠ k) && (y.write && ((x.ver == y.ver) && (x.ver != 0)))) = false) ∧ (x.write = false → x.ended ≠ 0 → okB l x = true)
theorem rl0_iff (l : Sl Op) : ∀ (xs : List Op) (i : Nat), rVersions_l0 l xs i = true ↔ (∀ k x, xs[k]? = some x → C1 l.D (i + k) x) ∧ rVersions_l3 l l.D 0 = true
  | [], i => by unfold rVersions_l0; exact ⟨fun h => ⟨fun k x hx => by simp at hx, h⟩, fun h => h.2⟩
  | x :: xs, i => by
    have ih := rl0_iff l xs (i + 1)
    have key : (∀ k y, (x :: xs)[k]? = some y → C1 l.D (i + k) y) ↔ C1 l.D i x ∧ ∀ k y, xs[k]? = some y → C1 l.D (i + 1 + k) y := by
      refine ⟨fun h => ⟨h 0 x rfl, fun k y hy => ?_⟩, fun h k y hy => ?_⟩
      · have := h (k + 1) y (by rw [List.getElem?_cons_succ]; exact hy)
        rwa [show i + (k + 1) = i + 1 + k by omega] at this
      · cases k with
        | zero => simp only [List.getElem?_cons_zero, Option.some.injEq] at hy; subst hy; exact h.1
        | succ k => rw [List.getElem?_cons_succ] at hy; have := h.2 k y hy; rwa [show i + 1 + k = i + (k + 1) by omega] at this
    rw [key]
    unfold rVersions_l0
    cases hw : x.write
    · rw [cond_false, rl1b_eq]
      have e0 : C1 l.D i x ↔ (x.ended ≠ 0 → okB l.D x = true) := by
        unfold C1; rw [hw]; simp
      rw [e0]
      cases he : (x.ended == 0)
      · have he' : x.ended ≠ 0 := by simpa using he
        rw [cond_false]
        have fin : ∀ b0 : Bool, rVersions_l2 x (fun ok => bif !ok then false else rVersions_l0 l xs (i + 1)) l.D 0 b0 = true ↔ (b0 || l.D.any fun b => b.write && ((b.ver == x.ver) && ((x.ver != 0) && ((b.value.toList == x.value.toList) && decide (b.began < x.ended))))) = true ∧ rVersions_l0 l xs (i + 1) = true := fun b0 => by
          rw [rl2_eq]
          generalize (b0 || l.D.any _) = q
          cases q <;> simp
        cases hv : (x.ver == 0)
        · rw [cond_false, fin, ih]
          have : okB l.D x = (false || l.D.any fun b => b.write && ((b.ver == x.ver) && ((x.ver != 0) && ((b.value.toList == x.value.toList) && decide (b.began < x.ended))))) := by unfold okB; rw [hv, Bool.false_and]
          rw [this]
          exact ⟨fun h => ⟨⟨fun _ => h.1, h.2.1⟩, h.2.2⟩, fun h => ⟨h.1.1 he', h.1.2, h.2⟩⟩
        · rw [cond_true, fin, ih]
          have : okB l.D x = ((x.value.toList == (⟨#[]⟩ : ByteArray).toList) || l.D.any fun b => b.write && ((b.ver == x.ver) && ((x.ver != 0) && ((b.value.toList == x.value.toList) && decide (b.began < x.ended))))) := by unfold okB; rw [hv, Bool.true_and]
          rw [this]
          exact ⟨fun h => ⟨⟨fun _ => h.1, h.2.1⟩, h.2.2⟩, fun h => ⟨h.1.1 he', h.1.2, h.2⟩⟩
      · have he' : x.ended = 0 := by simpa using he
        rw [cond_true, ih]
        exact ⟨fun h => ⟨⟨fun h' => absurd he' h', h.1⟩, h.2⟩, fun h => ⟨h.1.2, h.2⟩⟩
    · rw [cond_true]
      have e0 : C1 l.D i x ↔ (x.ended ≠ 0 → x.ver ≠ 0) ∧ ∀ k y, l.D[k]? = some y → (decide (i ≠ k) && (y.write && ((x.ver == y.ver) && (x.ver != 0)))) = false := by
        unfold C1; rw [hw]; simp
      rw [e0]
      cases he : (x.ended != 0)
      · have he' : x.ended = 0 := by simpa using he
        rw [cond_false, rl1_iff, ih]
        exact ⟨fun h => ⟨⟨⟨fun h' => absurd he' h', h.1⟩, h.2.1⟩, h.2.2⟩, fun h => ⟨h.1.1.2, h.1.2, h.2⟩⟩
      · have he' : x.ended ≠ 0 := by simpa using he
        rw [cond_true]
        cases hv : (x.ver == 0)
        · have hv' : x.ver ≠ 0 := by simpa using hv
          rw [cond_false, rl1_iff, ih]
          exact ⟨fun h => ⟨⟨⟨fun _ => hv', h.1⟩, h.2.1⟩, h.2.2⟩, fun h => ⟨h.1.1.2, h.1.2, h.2⟩⟩
        · have hv' : x.ver = 0 := by simpa using hv
          rw [cond_true]
          exact ⟨fun h => (by cases h), fun h => absurd hv' (h.1.1.1 he')⟩
theorem rVersions_iff (l : Sl Op) : rVersions l = true ↔ VP l.D := by
  unfold rVersions
  rw [rl0_iff, rl3_eq]
  simp only [Nat.zero_add]
  constructor
  · rintro ⟨h1, h2⟩
    have hm : ∀ x ∈ l.D, ∃ k, l.D[k]? = some x := fun x hx => List.getElem?_of_mem hx
    exact { w0 := fun x hx => by obtain ⟨k, hk⟩ := hm x hx; exact (h1 k x hk).1, one := fun i j x y hi hj hij hx hy e => by
              have := (h1 i x hi).2.1 hx j y hj
              rw [decide_eq_true (show i ≠ j by omega), hy, show (x.ver == y.ver) = true from beq_iff_eq.2 e, Bool.true_and, Bool.true_and, Bool.true_and] at this
              simpa using this, rd := fun x hx => by obtain ⟨k, hk⟩ := hm x hx; exact (h1 k x hk).2.2, ris := fun a ha b hb => by
              have := List.all_eq_true.1 h2 a ha
              exact List.all_eq_true.1 this b hb }
  · intro h
    refine ⟨fun n x hx => ⟨h.w0 x (List.mem_of_getElem? hx), fun hw k y hy => ?_, h.rd x (List.mem_of_getElem? hx)⟩, List.all_eq_true.2 fun a ha => List.all_eq_true.2 fun b hb => h.ris a ha b hb⟩
    by_cases hnk : n = k
    · rw [decide_eq_false (by simpa using hnk), Bool.false_and]
    · cases hyw : y.write
      · simp
      · cases e : (x.ver == y.ver)
        · simp
        · have e := beq_iff_eq.1 e
          have : x.ver = 0 := by
            rcases Nat.lt_or_gt_of_ne hnk with h' | h'
            · exact h.one n k x y hx hy h' hw hyw e
            · rw [e]; exact h.one k n y x hy hx h' hyw hw e.symm
          rw [this]; simp
def okR1 (a b : Op) : Bool := (a.ended == 0) || ((b.ver == 0) && b.write) || decide (a.ended ≥ b.began) || ((b.ended == 0) && !b.write) || !(decide (a.ver > b.ver) || b.write && (a.ver == b.ver))
theorem ris1_eq (x : Op) (kk : Bool) : ∀ (xs : List Op) (i : Nat), rising_l1 x kk xs i = (xs.all (okR1 x) && kk)
  | [], _ => by unfold rising_l1; rfl
  | y :: ys, i => by
    unfold rising_l1
    rw [ris1_eq x kk ys (i + 1), List.all_cons]
    unfold okR1
    generalize ys.all _ = r
    generalize (x.ended == 0) = b1
    generalize (y.ver == 0) = b2
    generalize (decide (x.ended ≥ y.began)) = b3
    generalize (y.ended == 0) = b4
    generalize (decide (x.ver > y.ver)) = b5
    generalize (x.ver == y.ver) = b6
    generalize y.write = b7
    cases b1 <;> cases b2 <;> cases b3 <;> cases b4 <;> cases b5 <;> cases b6 <;> cases b7 <;> simp
theorem ris0_eq (l : Sl Op) : ∀ (xs : List Op) (i : Nat), rising_l0 l xs i = xs.all fun a => l.D.all (okR1 a)
  | [], _ => by unfold rising_l0; rfl
  | x :: xs, i => by
    unfold rising_l0
    rw [ris1_eq, ris0_eq l xs (i + 1), List.all_cons]
theorem mGet_setI (p q : Int) (b : Stand) : ∀ (D : List (Int × Stand)), mGet kI64 q (mSet kI64 p b D) = if q = p then some b else mGet kI64 q D
  | [] => by
    unfold mSet mGet mGet
    by_cases h : q = p
    · subst h; rw [if_pos (show kI64.eq q q = true from beq_self_eq_true q), if_pos rfl]
    · rw [if_neg (show ¬ kI64.eq q (p, b).1 = true from fun e => h (beq_iff_eq.1 e)), if_neg h]
  | e :: D => by
    unfold mSet
    by_cases h1 : p = e.1
    · rw [if_pos (show kI64.eq p e.1 = true from beq_iff_eq.2 h1)]
      unfold mGet
      by_cases h2 : q = p
      · rw [if_pos h2, if_pos (show kI64.eq q e.1 = true from beq_iff_eq.2 (h2.trans h1))]
      · have h3 : ¬ kI64.eq q e.1 = true := fun x => h2 ((beq_iff_eq.1 x).trans h1.symm)
        rw [if_neg h2, if_neg h3]
        exact (if_neg h3).symm
    · rw [if_neg (show ¬ kI64.eq p e.1 = true from fun x => h1 (beq_iff_eq.1 x))]
      unfold mGet
      by_cases h2 : q = e.1
      · rw [if_pos (show kI64.eq q e.1 = true from beq_iff_eq.2 h2), if_pos (show kI64.eq q e.1 = true from beq_iff_eq.2 h2), if_neg (fun x => h1 (x.symm.trans h2))]
      · rw [if_neg (show ¬ kI64.eq q e.1 = true from fun x => h2 (beq_iff_eq.1 x)), if_neg (show ¬ kI64.eq q e.1 = true from fun x => h2 (beq_iff_eq.1 x)), mGet_setI p q b D]
def isW (v : Int) (w : Op) : Bool := w.write && ((w.ver == v) && (w.ver != 0))
def fnd (P : List Op) (v : Int) : Option Stand := (P.find? (isW v)).map fun w => Stand.mk w.value w.began true
def chk (P : List Op) (x : Op) : Bool := (x.ended == 0) || (bif x.ver == 0 then !x.write && (x.value.toList == (⟨#[]⟩ : ByteArray).toList) else x.write || match fnd P x.ver with
  | none => false
  | some s => (s.value.toList == x.value.toList) && !decide (s.began ≥ x.ended))
theorem fnd_there {P : List Op} {v : Int} {s : Stand} (h : fnd P v = some s) : s.there = true := by
  unfold fnd at h
  cases hf : P.find? (isW v) with
  | none => rw [hf] at h; cases h
  | some w => rw [hf] at h; cases h; rfl
theorem v1_eq (l : Sl Op) (P : List Op) (vc : List (Int × Stand)) (hvc : ∀ v, mGet kI64 v vc = fnd P v) : ∀ (xs : List Op) (i : Nat), versions_l1 l vc xs i = (xs.all (chk P) && rising l)
  | [], _ => by unfold versions_l1; rfl
  | y :: ys, i => by
    unfold versions_l1
    rw [v1_eq l P vc hvc ys (i + 1), List.all_cons, hvc]
    generalize ys.all _ = r
    generalize rising l = q
    unfold chk
    cases (y.ended == 0)
    · rw [cond_false, Bool.false_or]
      by_cases hv : y.ver = 0
      · rw [show (y.ver == 0) = true from beq_iff_eq.2 hv, show (y.ver != 0) = false by simp [hv], cond_true, cond_true]
        cases y.write <;> cases (y.value.toList == (⟨#[]⟩ : ByteArray).toList) <;> simp
      · rw [show (y.ver == 0) = false by simpa using hv, show (y.ver != 0) = true by simpa using hv, cond_false, cond_false, cond_true]
        cases y.write
        · rw [Bool.not_false, cond_true, Bool.false_or]
          cases hf : fnd P y.ver with
          | none => simp
          | some s =>
            have ht := fnd_there hf
            simp only [Option.getD_some, ht]
            cases (s.value.toList == y.value.toList) <;> cases decide (s.began ≥ y.ended) <;> simp
        · simp
    · simp
/-- No write's version is that of one ahead of it. -/
def nd (P : List Op) : List Op → Bool
  | [] => true
  | x :: xs => !(x.write && ((x.ver != 0) && P.any fun w => w.write && (w.ver == x.ver))) && nd (P ++ [x]) xs
theorem fnd_isSome (P : List Op) (v : Int) (hv : v ≠ 0) : (fnd P v).isSome = P.any fun w => w.write && (w.ver == v) := by
  unfold fnd
  have e : isW v = fun w => w.write && (w.ver == v) := by
    funext w
    unfold isW
    by_cases h : w.ver = v
    · rw [show (w.ver == v) = true from beq_iff_eq.2 h, show (w.ver != 0) = true by simpa [h] using hv, Bool.and_true]
    · rw [show (w.ver == v) = false by simpa using h]; simp
  rw [Option.isSome_map, e, Bool.eq_iff_iff, List.find?_isSome, List.any_eq_true]
theorem fnd_append (P : List Op) (x : Op) (v : Int) : fnd (P ++ [x]) v = match fnd P v with
  | some s => some s
  | none => if isW v x then some (Stand.mk x.value x.began true) else none := by
  unfold fnd
  rw [List.find?_append]
  cases hf : P.find? (isW v) with
  | some w => rfl
  | none =>
    simp only [Option.none_or, Option.map_none]
    cases h : isW v x
    · rw [List.find?_cons_of_neg (by rw [h]; decide)]; rfl
    · rw [List.find?_cons_of_pos h]; rfl
theorem v0_eq (l : Sl Op) : ∀ (xs : List Op) (i : Nat) (vc : List (Int × Stand)) (P : List Op), (∀ v, mGet kI64 v vc = fnd P v) → versions_l0 l xs i vc = (nd P xs && (l.D.all (chk (P ++ xs)) && rising l))
  | [], _, vc, P, h => by
    unfold versions_l0 nd
    rw [v1_eq l P vc h, List.append_nil, Bool.true_and]
  | x :: xs, i, vc, P, h => by
    unfold versions_l0 nd
    have ea : P ++ x :: xs = (P ++ [x]) ++ xs := by rw [List.append_assoc]; rfl
    have skip : isW x.ver x = false → ∀ v, mGet kI64 v vc = fnd (P ++ [x]) v := fun hx v => by
      rw [h v, fnd_append]
      cases hf : fnd P v with
      | some s => rfl
      | none =>
        have : isW v x = false := by
          unfold isW at hx ⊢
          by_cases e : x.ver = v
          · rw [← e]; exact hx
          · rw [show (x.ver == v) = false by simpa using e]; simp
        rw [this]; rfl
    cases hw : x.write
    · rw [Bool.not_false, cond_true, Bool.false_and, Bool.not_false, Bool.true_and, v0_eq l xs (i + 1) vc (P ++ [x]) (skip (by unfold isW; rw [hw]; rfl)), ea]
    · rw [Bool.not_true, cond_false, Bool.true_and]
      by_cases hv : x.ver = 0
      · rw [show (x.ver == 0) = true from beq_iff_eq.2 hv, show (x.ver != 0) = false by simp [hv], cond_true, Bool.false_and, Bool.not_false, Bool.true_and, v0_eq l xs (i + 1) vc (P ++ [x]) (skip (by unfold isW; rw [hv]; simp)), ea]
      · rw [show (x.ver == 0) = false by simpa using hv, show (x.ver != 0) = true by simpa using hv, cond_false, Bool.true_and, h, ← fnd_isSome P x.ver hv]
        cases hf : fnd P x.ver with
        | some s => rw [Option.getD_some, fnd_there hf]; rfl
        | none =>
          show (bif false then false else _) = _
          rw [cond_false, Option.isSome_none, Bool.not_false, Bool.true_and, v0_eq l xs (i + 1) _ (P ++ [x]) (fun v => ?_), ea]
          rw [mGet_setI, fnd_append, h]
          by_cases e : v = x.ver
          · rw [if_pos e, e, hf, show isW x.ver x = true by unfold isW; rw [hw]; simpa using hv]; rfl
          · rw [if_neg e]
            cases fnd P v with
            | some s => rfl
            | none => rw [show isW v x = false by unfold isW; rw [show (x.ver == v) = false by simpa using fun q => e q.symm]; simp]; rfl
theorem nd_iff : ∀ (xs P : List Op), nd P xs = true ↔ ∀ j y, xs[j]? = some y → y.write = true → y.ver ≠ 0 → ∀ x ∈ P ++ xs.take j, x.write = true → x.ver ≠ y.ver
  | [], P => by unfold nd; simp
  | x :: xs, P => by
    unfold nd
    rw [Bool.and_eq_true, nd_iff xs (P ++ [x])]
    constructor
    · rintro ⟨h1, h2⟩ j y hj hy hv z hz hzw e
      cases j with
      | zero =>
        simp only [List.getElem?_cons_zero, Option.some.injEq] at hj
        subst hj
        rw [List.take_zero, List.append_nil] at hz
        rw [hy, show (x.ver != 0) = true by simpa using hv, List.any_eq_true.2 ⟨z, hz, by rw [hzw, e]; simp⟩] at h1
        cases h1
      | succ j =>
        rw [List.getElem?_cons_succ] at hj
        refine h2 j y hj hy hv z ?_ hzw e
        rw [List.take_succ_cons] at hz
        rw [List.append_assoc]; exact hz
    · intro h
      constructor
      · cases hx : x.write
        · rfl
        · by_cases hv : x.ver = 0
          · rw [show (x.ver != 0) = false by simp [hv]]; rfl
          · cases ha : P.any fun w => w.write && (w.ver == x.ver)
            · simp
            · obtain ⟨w, hw, e⟩ := List.any_eq_true.1 ha
              simp only [Bool.and_eq_true, beq_iff_eq] at e
              exact absurd e.2 (h 0 x rfl hx hv w (by rw [List.take_zero, List.append_nil]; exact hw) e.1)
      · intro j y hj hy hv z hz hzw
        refine h (j + 1) y (by rw [List.getElem?_cons_succ]; exact hj) hy hv z ?_ hzw
        rw [List.take_succ_cons]
        rw [List.append_assoc] at hz; exact hz
theorem versions_eq (l : Sl Op) : versions l = (nd [] l.D && (l.D.all (chk l.D) && rising l)) := by
  unfold versions
  rw [v0_eq l l.D 0 [] [] (fun v => rfl)]; rfl
theorem versions_iff (l : Sl Op) : versions l = true ↔ VP l.D := by
  rw [versions_eq, Bool.and_eq_true, Bool.and_eq_true, nd_iff]
  have hone : (∀ j y, l.D[j]? = some y → y.write = true → y.ver ≠ 0 → ∀ x ∈ [] ++ l.D.take j, x.write = true → x.ver ≠ y.ver) ↔ ∀ (i j : Nat) (x y : Op), l.D[i]? = some x → l.D[j]? = some y → i < j → x.write = true → y.write = true → x.ver = y.ver → x.ver = 0 := by
    constructor
    · intro h i j x y hi hj hij hx hy e
      by_cases hv : y.ver = 0
      · rw [e, hv]
      · exact absurd e (h j y hj hy hv x (by
          rw [List.nil_append]
          exact List.mem_of_getElem? (i := i) (by rw [List.getElem?_take_of_lt hij]; exact hi)) hx)
    · intro h j y hj hy hv x hx hxw e
      rw [List.nil_append] at hx
      obtain ⟨i, hi⟩ := List.getElem?_of_mem hx
      have hij : i < j := by
        rcases Nat.lt_or_ge i j with h' | h'
        · exact h'
        · rw [List.getElem?_eq_none (by rw [List.length_take]; omega)] at hi; cases hi
      rw [List.getElem?_take_of_lt hij] at hi
      exact hv (e ▸ h i j x y hi hj hij hxw hy e)
  rw [hone]
  have hfind : (∀ (i j : Nat) (x y : Op), l.D[i]? = some x → l.D[j]? = some y → i < j → x.write = true → y.write = true → x.ver = y.ver → x.ver = 0) → ∀ x ∈ l.D, x.write = false → x.ended ≠ 0 → chk l.D x = okB l.D x := by
    intro one x _ hw he
    unfold chk okB
    rw [show (x.ended == 0) = false by simpa using he, Bool.false_or, hw]
    by_cases hv : x.ver = 0
    · rw [show (x.ver == 0) = true from beq_iff_eq.2 hv, cond_true, Bool.not_false, Bool.true_and, show (x.ver != 0) = false by simp [hv]]
      have : (l.D.any fun b => b.write && ((b.ver == x.ver) && (false && ((b.value.toList == x.value.toList) && decide (b.began < x.ended))))) = false := by
        rw [List.any_eq_false]; intro b _; simp
      rw [this, Bool.or_false]
    · rw [show (x.ver == 0) = false by simpa using hv, cond_false, Bool.false_or, Bool.false_and, Bool.false_or, show (x.ver != 0) = true by simpa using hv]
      cases hf : l.D.find? (isW x.ver) with
      | none =>
        have hf' := List.find?_eq_none.1 hf
        have : fnd l.D x.ver = none := by unfold fnd; rw [hf]; rfl
        rw [this]
        symm
        show (l.D.any _) = false
        rw [List.any_eq_false]
        intro b hb e
        simp only [Bool.and_eq_true, beq_iff_eq] at e
        refine hf' b hb ?_
        unfold isW
        rw [e.1, e.2.1]; simpa using hv
      | some w =>
        have hw' := List.find?_some hf
        have hwm := List.mem_of_find?_eq_some hf
        have : fnd l.D x.ver = some (Stand.mk w.value w.began true) := by unfold fnd; rw [hf]; rfl
        rw [this]
        unfold isW at hw'
        simp only [Bool.and_eq_true, beq_iff_eq] at hw'
        show ((w.value.toList == x.value.toList) && !decide (w.began ≥ x.ended)) = _
        have en : (!decide (w.began ≥ x.ended)) = decide (w.began < x.ended) := by
          by_cases h : w.began < x.ended
          · rw [decide_eq_true h, decide_eq_false (by omega)]; rfl
          · rw [decide_eq_false h, decide_eq_true (by omega)]; rfl
        rw [en, Bool.eq_iff_iff, List.any_eq_true]
        constructor
        · intro h
          refine ⟨w, hwm, ?_⟩
          rw [hw'.1, h, hw'.2.1]; simp
        · rintro ⟨b, hb, e⟩
          simp only [Bool.and_eq_true, beq_iff_eq, decide_eq_true_eq] at e
          obtain ⟨i, hi⟩ := List.getElem?_of_mem hwm
          obtain ⟨j, hj⟩ := List.getElem?_of_mem hb
          have hij : i = j := by
            rcases Nat.lt_trichotomy i j with h | h | h
            · exact absurd (one i j w b hi hj h hw'.1 e.1 (hw'.2.1.trans e.2.1.symm)) (by rw [hw'.2.1]; exact hv)
            · exact h
            · exact absurd (one j i b w hj hi h e.1 hw'.1 (e.2.1.trans hw'.2.1.symm)) (by rw [e.2.1]; exact hv)
          subst hij
          rw [hi] at hj
          obtain rfl := Option.some.inj hj
          rw [e.2.2.2.1, decide_eq_true e.2.2.2.2]; simp
  have hR : (∀ x ∈ l.D, x.write = true → x.ended ≠ 0 → x.ver ≠ 0) → ∀ a ∈ l.D, ∀ b ∈ l.D, okR1 a b = okR a b := by
    intro w0 a _ b hb
    unfold okR1 okR
    have hb' := w0 b hb
    have e1 : (b.ended == 0) = !(b.ended != 0) := by rw [bne, Bool.not_not]
    have e2 : (b.ver == 0) = !(b.ver != 0) := by rw [bne, Bool.not_not]
    rw [e1, e2]
    cases h1 : b.write
    · cases (b.ended != 0) <;> cases (b.ver != 0) <;> cases (a.ended == 0) <;> cases decide (a.ended ≥ b.began) <;> cases decide (a.ver > b.ver) <;> cases (a.ver == b.ver) <;> rfl
    · cases h2 : (b.ended != 0)
      · cases (b.ver != 0) <;> cases (a.ended == 0) <;> cases decide (a.ended ≥ b.began) <;> cases decide (a.ver > b.ver) <;> cases (a.ver == b.ver) <;> rfl
      · have h3 : (b.ver != 0) = true := by simpa using hb' h1 (by simpa using h2)
        rw [h3]
        cases (a.ended == 0) <;> cases decide (a.ended ≥ b.began) <;> cases decide (a.ver > b.ver) <;> cases (a.ver == b.ver) <;> rfl
  unfold rising
  rw [ris0_eq, List.all_eq_true, List.all_eq_true]
  constructor
  · rintro ⟨one, h2, h3⟩
    have w0 : ∀ x ∈ l.D, x.write = true → x.ended ≠ 0 → x.ver ≠ 0 := fun x hx hw he hv => by
      have := h2 x hx
      unfold chk at this
      rw [show (x.ended == 0) = false by simpa using he, show (x.ver == 0) = true from beq_iff_eq.2 hv, hw] at this
      cases this
    exact { w0 := w0, one := one, rd := fun x hx hw he => by rw [← hfind one x hx hw he]; exact h2 x hx, ris := fun a ha b hb => by rw [← hR w0 a ha b hb]; exact List.all_eq_true.1 (h3 a ha) b hb }
  · intro h
    refine ⟨h.one, fun x hx => ?_, fun a ha => List.all_eq_true.2 fun b hb => by rw [hR h.w0 a ha b hb]; exact h.ris a ha b hb⟩
    cases hw : x.write
    · by_cases he : x.ended = 0
      · unfold chk; rw [show (x.ended == 0) = true from beq_iff_eq.2 he]; rfl
      · rw [hfind h.one x hx hw he]; exact h.rd x hx hw he
    · unfold chk
      by_cases he : x.ended = 0
      · rw [show (x.ended == 0) = true from beq_iff_eq.2 he]; rfl
      · rw [show (x.ver == 0) = false by simpa using h.w0 x hx hw he, hw]; simp
theorem versions_r (l : Sl Op) : versions l = rVersions l := by
  rw [Bool.eq_iff_iff, versions_iff, rVersions_iff]
theorem versions_D {l m : Sl Op} (h : l.D = m.D) : versions l = versions m := by
  rw [Bool.eq_iff_iff, versions_iff, versions_iff, h]
end Go.Proofs.Ytoieegmebadfkaa
