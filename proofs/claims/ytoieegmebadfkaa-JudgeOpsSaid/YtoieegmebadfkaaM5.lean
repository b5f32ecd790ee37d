import Derived.Test.YtoieegmebadfkaaM1
import Derived.Test.YtoieegmebadfkaaM2
import Derived.Test.YtoieegmebadfkaaM3
import Derived.Test.YtoieegmebadfkaaM4
/- The reference: keys; versions. No conditions. -/
namespace Go.Proofs.Ytoieegmebadfkaa
open Go.Am
def rLess (a : (Nat → Int)) (b : (Nat → Int)) : Bool :=
  (Op.bytesLess (strOf (tbF a 8 0)).toList (strOf (tbF b 8 0)).toList)
theorem rLess_calls (a : (Nat → Int)) (b : (Nat → Int))  : PCalls Try.prog 47 [.agg [.pv (.lit (.int .u8 (a 0))), .pv (.lit (.int .u8 (a 1))), .pv (.lit (.int .u8 (a 2))), .pv (.lit (.int .u8 (a 3))), .pv (.lit (.int .u8 (a 4))), .pv (.lit (.int .u8 (a 5))), .pv (.lit (.int .u8 (a 6))), .pv (.lit (.int .u8 (a 7)))], .agg [.pv (.lit (.int .u8 (b 0))), .pv (.lit (.int .u8 (b 1))), .pv (.lit (.int .u8 (b 2))), .pv (.lit (.int .u8 (b 3))), .pv (.lit (.int .u8 (b 4))), .pv (.lit (.int .u8 (b 5))), .pv (.lit (.int .u8 (b 6))), .pv (.lit (.int .u8 (b 7)))]] (.pv (.lit (.bool (rLess a b)))) := by
 generalize hR : rLess a b = R
 refine PCalls.of_body tabOk Try.func47 rfl rfl rfl rfl rfl mixed fun E hP C hI => ?_
 refine Awp.consP C ?_
 refine rvc_un (rexec_boxF C [.lit (.int .u8 (a 0)), .lit (.int .u8 (a 1)), .lit (.int .u8 (a 2)), .lit (.int .u8 (a 3)), .lit (.int .u8 (a 4)), .lit (.int .u8 (a 5)), .lit (.int .u8 (a 6)), .lit (.int .u8 (a 7))] rfl rfl rfl rfl ?_)
 refine rvc_un (rexec_boxF C [.lit (.int .u8 (b 0)), .lit (.int .u8 (b 1)), .lit (.int .u8 (b 2)), .lit (.int .u8 (b 3)), .lit (.int .u8 (b 4)), .lit (.int .u8 (b 5)), .lit (.int .u8 (b 6)), .lit (.int .u8 (b 7))] rfl rfl rfl rfl ?_)
 refine rvP C (.pv (.lit (.bool false))) ?_
 refine rvc_nil ?_
 refine Awp.consP C ?_
 refine rvc_un (rexec_prim C (δ := { v := sS (some false) (eI .u8) (tbF a 8 0) }) rfl rfl rfl rfl (by decide) rfl ?_)
 refine rvc_un (rexec_convS C rfl rfl rfl rfl rfl rfl rfl rfl ?_)
 refine rvc_un (rexec_prim C (δ := { v := sS (some false) (eI .u8) (tbF b 8 0) }) rfl rfl rfl rfl (by decide) rfl ?_)
 refine rvc_un (rexec_convS C rfl rfl rfl rfl rfl rfl rfl rfl ?_)
 refine rvP C (.pv (.lit (.bool (Op.bytesLess (strOf (tbF a 8 0)).toList (strOf (tbF b 8 0)).toList)))) ?_
 refine rvP C (.pv (.lit (.bool (Op.bytesLess (strOf (tbF a 8 0)).toList (strOf (tbF b 8 0)).toList)))) ?_
 refine rvc_nil ?_
 refine Awp.ret ?_
 subst hR
 exact ⟨.inl rfl, rfl⟩
def rKeys_l1 (x : Call) (kk : Int → Bool → (Sl (Nat → Int))) : List (Nat → Int) → Nat → Int → Bool → (Sl (Nat → Int))
  | [], _, at_, there => kk at_ there
  | x1 :: x1s, i1, at_, there => (bif (rLess x1 x.key) then (bif there then rKeys_l1 x kk x1s (i1 + 1) (IntKind.i64.wrap ((i1 : Int) + 1)) true else rKeys_l1 x kk x1s (i1 + 1) (IntKind.i64.wrap ((i1 : Int) + 1)) (((x1 0) == (x.key 0)) && (((x1 1) == (x.key 1)) && (((x1 2) == (x.key 2)) && (((x1 3) == (x.key 3)) && (((x1 4) == (x.key 4)) && (((x1 5) == (x.key 5)) && (((x1 6) == (x.key 6)) && (((x1 7) == (x.key 7)) && true))))))))) else (bif there then rKeys_l1 x kk x1s (i1 + 1) at_ true else rKeys_l1 x kk x1s (i1 + 1) at_ (((x1 0) == (x.key 0)) && (((x1 1) == (x.key 1)) && (((x1 2) == (x.key 2)) && (((x1 3) == (x.key 3)) && (((x1 4) == (x.key 4)) && (((x1 5) == (x.key 5)) && (((x1 6) == (x.key 6)) && (((x1 7) == (x.key 7)) && true))))))))))
def rKeys_l0 : List Call → Nat → (List (Nat → Int)) → (Sl (Nat → Int))
  | [], _, out => (Sl.mk out.isEmpty out)
  | x :: xs, i, out => rKeys_l1 x (fun at_1 there1 => (bif (!there1) then rKeys_l0 xs (i + 1) (((out.take at_1.toNat) ++ [x.key]) ++ (out.drop at_1.toNat)) else rKeys_l0 xs (i + 1) out)) out 0 0 false
def rKeys (calls : (Sl Call)) : (Sl (Nat → Int)) :=
  rKeys_l0 calls.D 0 []
theorem rKeys_calls (calls : (Sl Call)) (hl1 : calls.D.length ≤ 1000000) : PCalls Try.prog 23 [sS (some calls.nil) eCall calls.D] (sS (some (rKeys calls).nil) (eA8 .u8) ((rKeys calls).D)) := by
 generalize hR : rKeys calls = R
 refine PCalls.of_body tabOk Try.func23 rfl rfl rfl rfl rfl mixed fun E hP C hI => ?_
 refine Awp.consP C ?_
 refine rvP C (sS (some true) (eA8 .u8) []) ?_
 refine rvc_nil ?_
 refine Awp.consP C ?_
 refine rvP C (sS (some true) (eA8 .u8) []) ?_
 refine rvc_nil ?_
 refine Awp.seq ?_
 refine Awp.consP C ?_
 refine rvP C (sS (some calls.nil) eCall calls.D) ?_
 refine rvP C (.pv (.lit (.int .i64 (calls.D.length : Int)))) ?_
 refine rvP C (.pv (.lit (.int .i64 0))) ?_
 refine rvc_nil ?_
 refine Awp.block ?_
 refine Awp.forR (σ := ((List (Nat → Int)))) (calls.D.length) (fun i v => [(3, grow 900 (eA8 .u8) v), (11, sS (some calls.nil) eCall calls.D), (12, .pv (.lit (.int .i64 (calls.D.length : Int)))), (13, .pv (.lit (.int .i64 (i : Int))))]) (fun i v => (growH 900 (eA8 .u8) v ++ ([]))) [900] (fun i v => (rKeys_l0 (calls.D.drop i) i v = R) ∧ (v.length ≤ i * 1)) [] ?_ ?_ (fun i out h1 hR => ?_)
 · exact ⟨hR, (by first | omega | (simp <;> omega))⟩
 · exact ⟨fun b => b, WeakerR.ofL (Ks := [900]) hI ⟨⟨rfl, rfl⟩, ⟨rfl, rfl⟩, ⟨rfl, rfl⟩, ⟨rfl, rfl⟩, trivial⟩ (okH_grow (fun hne => absurd rfl hne) rfl rfl (okH_nil)) rfl⟩
 obtain ⟨hR, hi_out⟩ := hR
 replace hi_out : out.length ≤ i * 1 := hi_out
 by_cases h2 : out = []
 ·
  refine Awp.wordsR [(3, sS (some out.isEmpty) (eA8 .u8) out), (11, sS (some calls.nil) eCall calls.D), (12, .pv (.lit (.int .i64 (calls.D.length : Int)))), (13, .pv (.lit (.int .i64 (i : Int))))] [] [] (WeakerR.ofL (Ks := []) hI ⟨⟨(by exact grow_at_nil (b := 900) (e := (eA8 .u8)) (l := out) rfl h2), rfl⟩, ⟨rfl, rfl⟩, ⟨rfl, rfl⟩, ⟨rfl, rfl⟩, trivial⟩ (okH_nil) rfl) ?_
  refine Awp.consP C ?_
  refine rvP C (.pv (.lit (.bool (decide ((i : Int) < (calls.D.length : Int)))))) ?_
  refine rvc_nil ?_
  refine Awp.seq ?_
  refine Awp.cond (b := (decide ((i : Int) < (calls.D.length : Int)))) rfl (fun h3 => ?_) (fun h3 => ?_)
  ·
   have h4 : i < calls.D.length := by have := of_decide_eq_true h3; omega
   obtain ⟨x, h5⟩ := getX h4
   rw [drop_at h5] at hR
   refine Awp.skip ?_
   refine Awp.seq ?_
   refine Awp.block ?_
   refine Awp.consP C ?_
   refine rvc_un (rexec_idxS C rfl rfl rfl rfl rfl rfl x (Int.natCast_nonneg _) h5 ?_)
   refine rvP C (.agg [.pv (.lit (.int .i64 x.client)), .pv (.lit (.int .i64 x.seq)), .pv (.lit (.bool x.write)), .pv (.lit (.int .u8 (x.key 0))), .pv (.lit (.int .u8 (x.key 1))), .pv (.lit (.int .u8 (x.key 2))), .pv (.lit (.int .u8 (x.key 3))), .pv (.lit (.int .u8 (x.key 4))), .pv (.lit (.int .u8 (x.key 5))), .pv (.lit (.int .u8 (x.key 6))), .pv (.lit (.int .u8 (x.key 7))), .pv (.lit (.string x.value)), .pv (.lit (.int .i64 x.mode)), .pv (.lit (.int .i64 x.bound)), .pv (.lit (.int .i64 x.began)), .pv (.lit (.int .i64 x.ended)), .pv (.lit (.int .i64 x.ver)), .pv (.lit (.int .i64 x.err)), .pv (.lit (.int .i64 x.floor))]) ?_
   refine rvc_un (rexec_prim C (δ := { v := .ptr 5 0, new := [(5, .cells [.pv (.lit (.int .i64 0)), .pv (.lit (.int .i64 0)), .pv (.lit (.bool false)), .pv (.lit (.int .u8 0)), .pv (.lit (.int .u8 0)), .pv (.lit (.int .u8 0)), .pv (.lit (.int .u8 0)), .pv (.lit (.int .u8 0)), .pv (.lit (.int .u8 0)), .pv (.lit (.int .u8 0)), .pv (.lit (.int .u8 0)), .pv (.lit (.string ⟨#[]⟩)), .pv (.lit (.int .i64 0)), .pv (.lit (.int .i64 0)), .pv (.lit (.int .i64 0)), .pv (.lit (.int .i64 0)), .pv (.lit (.int .i64 0)), .pv (.lit (.int .i64 0)), .pv (.lit (.int .i64 0))])] }) rfl rfl rfl rfl trivial rfl ?_)
   refine rvc_un (rexec_prim C (δ := { v := .undef, wr := [(5, some (.cells [.pv (.lit (.int .i64 x.client)), .pv (.lit (.int .i64 x.seq)), .pv (.lit (.bool x.write)), .pv (.lit (.int .u8 (x.key 0))), .pv (.lit (.int .u8 (x.key 1))), .pv (.lit (.int .u8 (x.key 2))), .pv (.lit (.int .u8 (x.key 3))), .pv (.lit (.int .u8 (x.key 4))), .pv (.lit (.int .u8 (x.key 5))), .pv (.lit (.int .u8 (x.key 6))), .pv (.lit (.int .u8 (x.key 7))), .pv (.lit (.string x.value)), .pv (.lit (.int .i64 x.mode)), .pv (.lit (.int .i64 x.bound)), .pv (.lit (.int .i64 x.began)), .pv (.lit (.int .i64 x.ended)), .pv (.lit (.int .i64 x.ver)), .pv (.lit (.int .i64 x.err)), .pv (.lit (.int .i64 x.floor))]))] }) rfl rfl rfl rfl trivial rfl ?_)
   refine rvc_nil ?_
   refine Awp.consP C ?_
   refine rvP C (.pv (.lit (.int .i64 0))) ?_
   refine rvc_nil ?_
   refine Awp.consP C ?_
   refine rvP C (.pv (.lit (.bool false))) ?_
   refine rvc_nil ?_
   refine Awp.seq ?_
   refine Awp.consP C ?_
   refine rvP C (sS (some out.isEmpty) (eA8 .u8) out) ?_
   refine rvP C (.pv (.lit (.int .i64 (out.length : Int)))) ?_
   refine rvP C (.pv (.lit (.int .i64 0))) ?_
   refine rvc_nil ?_
   refine Awp.block ?_
   refine Awp.forR (σ := Int × Bool) (out.length) (fun i1 v => [(3, sS (some out.isEmpty) (eA8 .u8) out), (5, .ptr 5 0), (6, .pv (.lit (.int .i64 v.1))), (7, .pv (.lit (.bool v.2))), (11, sS (some calls.nil) eCall calls.D), (12, .pv (.lit (.int .i64 (calls.D.length : Int)))), (13, .pv (.lit (.int .i64 (i : Int)))), (17, sS (some out.isEmpty) (eA8 .u8) out), (18, .pv (.lit (.int .i64 (out.length : Int)))), (19, .pv (.lit (.int .i64 (i1 : Int))))]) (fun i1 v => [(5, .cells [.pv (.lit (.int .i64 x.client)), .pv (.lit (.int .i64 x.seq)), .pv (.lit (.bool x.write)), .pv (.lit (.int .u8 (x.key 0))), .pv (.lit (.int .u8 (x.key 1))), .pv (.lit (.int .u8 (x.key 2))), .pv (.lit (.int .u8 (x.key 3))), .pv (.lit (.int .u8 (x.key 4))), .pv (.lit (.int .u8 (x.key 5))), .pv (.lit (.int .u8 (x.key 6))), .pv (.lit (.int .u8 (x.key 7))), .pv (.lit (.string x.value)), .pv (.lit (.int .i64 x.mode)), .pv (.lit (.int .i64 x.bound)), .pv (.lit (.int .i64 x.began)), .pv (.lit (.int .i64 x.ended)), .pv (.lit (.int .i64 x.ver)), .pv (.lit (.int .i64 x.err)), .pv (.lit (.int .i64 x.floor))])]) [5] (fun i1 v => (rKeys_l1 x (fun at_ there => (bif (!there) then rKeys_l0 (calls.D.drop (i + 1)) (i + 1) (((out.take at_.toNat) ++ [x.key]) ++ (out.drop at_.toNat)) else rKeys_l0 (calls.D.drop (i + 1)) (i + 1) out)) (out.drop i1) i1 v.1 v.2 = R) ∧ (0 ≤ v.1 ∧ v.1 ≤ (i1 : Int))) (0, false) ?_ ?_ (fun i1 v h6 hR => ?_)
   · exact ⟨hR, (by simp)⟩
   · exact ⟨fun b => b, WeakerR.ofL (Ks := [5]) hI ⟨⟨rfl, rfl⟩, ⟨rfl, rfl⟩, ⟨rfl, rfl⟩, ⟨rfl, rfl⟩, ⟨rfl, rfl⟩, ⟨rfl, rfl⟩, ⟨rfl, rfl⟩, ⟨rfl, rfl⟩, ⟨rfl, rfl⟩, ⟨rfl, rfl⟩, trivial⟩ (okH_cons rfl rfl rfl rfl (okH_nil)) rfl⟩
   obtain ⟨at_, there⟩ := v
   obtain ⟨hR, hV⟩ := hR
   replace hV : 0 ≤ at_ ∧ at_ ≤ (i1 : Int) := hV
   refine Awp.consP C ?_
   refine rvP C (.pv (.lit (.bool (decide ((i1 : Int) < (out.length : Int)))))) ?_
   refine rvc_nil ?_
   refine Awp.seq ?_
   refine Awp.cond (b := (decide ((i1 : Int) < (out.length : Int)))) rfl (fun h7 => ?_) (fun h7 => ?_)
   ·
    have h8 : i1 < out.length := by have := of_decide_eq_true h7; omega
    obtain ⟨x1, h9⟩ := getX h8
    rw [drop_at h9] at hR
    refine Awp.skip ?_
    refine Awp.seq ?_
    refine Awp.block ?_
    refine Awp.consP C ?_
    refine rvP C (.pv (.lit (.int .i64 (i1 : Int)))) ?_
    refine rvc_un (rexec_idxS C rfl rfl rfl rfl rfl rfl x1 (Int.natCast_nonneg _) h9 ?_)
    refine rvP C (.agg [.pv (.lit (.int .u8 (x1 0))), .pv (.lit (.int .u8 (x1 1))), .pv (.lit (.int .u8 (x1 2))), .pv (.lit (.int .u8 (x1 3))), .pv (.lit (.int .u8 (x1 4))), .pv (.lit (.int .u8 (x1 5))), .pv (.lit (.int .u8 (x1 6))), .pv (.lit (.int .u8 (x1 7)))]) ?_
    refine rvc_un (rexec_prim C (δ := { v := .ptr 9 0, new := [(9, .cells [.pv (.lit (.int .u8 0)), .pv (.lit (.int .u8 0)), .pv (.lit (.int .u8 0)), .pv (.lit (.int .u8 0)), .pv (.lit (.int .u8 0)), .pv (.lit (.int .u8 0)), .pv (.lit (.int .u8 0)), .pv (.lit (.int .u8 0))])] }) rfl rfl rfl rfl trivial rfl ?_)
    refine rvP C (.pv (.lit (.int .i64 (i1 : Int)))) ?_
    refine rvc_un (rexec_prim C (δ := { v := .undef, wr := [(9, some (.cells [.pv (.lit (.int .u8 (x1 0))), .pv (.lit (.int .u8 (x1 1))), .pv (.lit (.int .u8 (x1 2))), .pv (.lit (.int .u8 (x1 3))), .pv (.lit (.int .u8 (x1 4))), .pv (.lit (.int .u8 (x1 5))), .pv (.lit (.int .u8 (x1 6))), .pv (.lit (.int .u8 (x1 7)))]))] }) rfl rfl rfl rfl trivial rfl ?_)
    refine rvc_nil ?_
    refine Awp.seq ?_
    refine Awp.consP C ?_
    refine rvP C (.agg [.pv (.lit (.int .u8 (x1 0))), .pv (.lit (.int .u8 (x1 1))), .pv (.lit (.int .u8 (x1 2))), .pv (.lit (.int .u8 (x1 3))), .pv (.lit (.int .u8 (x1 4))), .pv (.lit (.int .u8 (x1 5))), .pv (.lit (.int .u8 (x1 6))), .pv (.lit (.int .u8 (x1 7)))]) ?_
    refine rvP C (.ptr 5 3) ?_
    refine rvP C (.agg [.pv (.lit (.int .u8 (x.key 0))), .pv (.lit (.int .u8 (x.key 1))), .pv (.lit (.int .u8 (x.key 2))), .pv (.lit (.int .u8 (x.key 3))), .pv (.lit (.int .u8 (x.key 4))), .pv (.lit (.int .u8 (x.key 5))), .pv (.lit (.int .u8 (x.key 6))), .pv (.lit (.int .u8 (x.key 7)))]) ?_
    refine rvc_un (rexec_call hP C rfl rfl rfl (rLess_calls x1 x.key) ?_)
    refine rvc_nil ?_
    refine Awp.cond (b := (rLess x1 x.key)) rfl (fun h10 => ?_) (fun h10 => ?_)
    ·
     replace hR := of_true h10 hR
     refine Awp.regionP C ?_
     refine rvP C (.pv (.lit (.int .i64 (i1 : Int)))) ?_
     refine rvP C (.pv (.lit (.int .i64 (IntKind.i64.wrap ((i1 : Int) + 1))))) ?_
     refine rvP C (.pv (.lit (.int .i64 (IntKind.i64.wrap ((i1 : Int) + 1))))) ?_
     refine rvc_nil ?_
     refine Awp.regionP C ?_
     refine rvP C (.pv (.lit (.bool there))) ?_
     refine rvP C (.pv (.lit (.bool there))) ?_
     refine rvc_case 31 there rfl (fun h11 => ?_) (fun h11 => ?_)
     ·
      replace hR := of_true h11 hR
      refine rvS ?_
      refine rvS ?_
      refine rvS ?_
      refine rvS ?_
      refine rvP C (.pv (.lit (.bool true))) ?_
      refine rvP C (.pv (.lit (.bool true))) ?_
      refine rvc_nil ?_
      refine Awp.regionP C ?_
      refine rvP C (.pv (.lit (.int .i64 (IntKind.i64.wrap ((i1 : Int) + 1))))) ?_
      refine rvP C (.pv (.lit (.int .i64 (IntKind.i64.wrap ((i1 : Int) + 1))))) ?_
      refine rvc_nil ?_
      refine ⟨h8, ((IntKind.i64.wrap ((i1 : Int) + 1)), true), ?_, ?_⟩
      · exact ⟨hR, (by have := wrapI ((i1 : Int) + 1); dsimp only; omega)⟩
      · exact ⟨fun b => b, WeakerR.ofL (Ks := [5]) hI ⟨⟨rfl, rfl⟩, ⟨rfl, rfl⟩, ⟨rfl, rfl⟩, ⟨rfl, rfl⟩, ⟨rfl, rfl⟩, ⟨rfl, rfl⟩, ⟨rfl, rfl⟩, ⟨rfl, rfl⟩, ⟨rfl, rfl⟩, ⟨lit_cast (wrap_i64 (by omega) (by omega)), rfl⟩, trivial⟩ (okH_cons rfl rfl rfl rfl (okH_nil)) rfl⟩
     ·
      replace hR := of_false h11 hR
      refine rvO C (.agg [.pv (.lit (.int .u8 (x1 0))), .pv (.lit (.int .u8 (x1 1))), .pv (.lit (.int .u8 (x1 2))), .pv (.lit (.int .u8 (x1 3))), .pv (.lit (.int .u8 (x1 4))), .pv (.lit (.int .u8 (x1 5))), .pv (.lit (.int .u8 (x1 6))), .pv (.lit (.int .u8 (x1 7)))]) ?_
      refine rvO C (.ptr 5 3) ?_
      refine rvO C (.agg [.pv (.lit (.int .u8 (x.key 0))), .pv (.lit (.int .u8 (x.key 1))), .pv (.lit (.int .u8 (x.key 2))), .pv (.lit (.int .u8 (x.key 3))), .pv (.lit (.int .u8 (x.key 4))), .pv (.lit (.int .u8 (x.key 5))), .pv (.lit (.int .u8 (x.key 6))), .pv (.lit (.int .u8 (x.key 7)))]) ?_
      refine rvO C (.pv (.lit (.bool (((x1 0) == (x.key 0)) && (((x1 1) == (x.key 1)) && (((x1 2) == (x.key 2)) && (((x1 3) == (x.key 3)) && (((x1 4) == (x.key 4)) && (((x1 5) == (x.key 5)) && (((x1 6) == (x.key 6)) && (((x1 7) == (x.key 7)) && true))))))))))) ?_
      refine rvP C (.pv (.lit (.bool (((x1 0) == (x.key 0)) && (((x1 1) == (x.key 1)) && (((x1 2) == (x.key 2)) && (((x1 3) == (x.key 3)) && (((x1 4) == (x.key 4)) && (((x1 5) == (x.key 5)) && (((x1 6) == (x.key 6)) && (((x1 7) == (x.key 7)) && true))))))))))) ?_
      refine rvP C (.pv (.lit (.bool (((x1 0) == (x.key 0)) && (((x1 1) == (x.key 1)) && (((x1 2) == (x.key 2)) && (((x1 3) == (x.key 3)) && (((x1 4) == (x.key 4)) && (((x1 5) == (x.key 5)) && (((x1 6) == (x.key 6)) && (((x1 7) == (x.key 7)) && true))))))))))) ?_
      refine rvc_nil ?_
      refine Awp.regionP C ?_
      refine rvP C (.pv (.lit (.int .i64 (IntKind.i64.wrap ((i1 : Int) + 1))))) ?_
      refine rvP C (.pv (.lit (.int .i64 (IntKind.i64.wrap ((i1 : Int) + 1))))) ?_
      refine rvc_nil ?_
      refine ⟨h8, ((IntKind.i64.wrap ((i1 : Int) + 1)), (((x1 0) == (x.key 0)) && (((x1 1) == (x.key 1)) && (((x1 2) == (x.key 2)) && (((x1 3) == (x.key 3)) && (((x1 4) == (x.key 4)) && (((x1 5) == (x.key 5)) && (((x1 6) == (x.key 6)) && (((x1 7) == (x.key 7)) && true))))))))), ?_, ?_⟩
      · exact ⟨hR, (by have := wrapI ((i1 : Int) + 1); dsimp only; omega)⟩
      · exact ⟨fun b => b, WeakerR.ofL (Ks := [5]) hI ⟨⟨rfl, rfl⟩, ⟨rfl, rfl⟩, ⟨rfl, rfl⟩, ⟨rfl, rfl⟩, ⟨rfl, rfl⟩, ⟨rfl, rfl⟩, ⟨rfl, rfl⟩, ⟨rfl, rfl⟩, ⟨rfl, rfl⟩, ⟨lit_cast (wrap_i64 (by omega) (by omega)), rfl⟩, trivial⟩ (okH_cons rfl rfl rfl rfl (okH_nil)) rfl⟩
    ·
     replace hR := of_false h10 hR
     refine Awp.skip ?_
     refine Awp.regionP C ?_
     refine rvP C (.pv (.lit (.bool there))) ?_
     refine rvP C (.pv (.lit (.bool there))) ?_
     refine rvc_case 31 there rfl (fun h12 => ?_) (fun h12 => ?_)
     ·
      replace hR := of_true h12 hR
      refine rvS ?_
      refine rvS ?_
      refine rvS ?_
      refine rvS ?_
      refine rvP C (.pv (.lit (.bool true))) ?_
      refine rvP C (.pv (.lit (.bool true))) ?_
      refine rvc_nil ?_
      refine Awp.regionP C ?_
      refine rvP C (.pv (.lit (.int .i64 (IntKind.i64.wrap ((i1 : Int) + 1))))) ?_
      refine rvP C (.pv (.lit (.int .i64 (IntKind.i64.wrap ((i1 : Int) + 1))))) ?_
      refine rvc_nil ?_
      refine ⟨h8, (at_, true), ?_, ?_⟩
      · exact ⟨hR, (by have := wrapI ((i1 : Int) + 1); dsimp only; omega)⟩
      · exact ⟨fun b => b, WeakerR.ofL (Ks := [5]) hI ⟨⟨rfl, rfl⟩, ⟨rfl, rfl⟩, ⟨rfl, rfl⟩, ⟨rfl, rfl⟩, ⟨rfl, rfl⟩, ⟨rfl, rfl⟩, ⟨rfl, rfl⟩, ⟨rfl, rfl⟩, ⟨rfl, rfl⟩, ⟨lit_cast (wrap_i64 (by omega) (by omega)), rfl⟩, trivial⟩ (okH_cons rfl rfl rfl rfl (okH_nil)) rfl⟩
     ·
      replace hR := of_false h12 hR
      refine rvO C (.agg [.pv (.lit (.int .u8 (x1 0))), .pv (.lit (.int .u8 (x1 1))), .pv (.lit (.int .u8 (x1 2))), .pv (.lit (.int .u8 (x1 3))), .pv (.lit (.int .u8 (x1 4))), .pv (.lit (.int .u8 (x1 5))), .pv (.lit (.int .u8 (x1 6))), .pv (.lit (.int .u8 (x1 7)))]) ?_
      refine rvO C (.ptr 5 3) ?_
      refine rvO C (.agg [.pv (.lit (.int .u8 (x.key 0))), .pv (.lit (.int .u8 (x.key 1))), .pv (.lit (.int .u8 (x.key 2))), .pv (.lit (.int .u8 (x.key 3))), .pv (.lit (.int .u8 (x.key 4))), .pv (.lit (.int .u8 (x.key 5))), .pv (.lit (.int .u8 (x.key 6))), .pv (.lit (.int .u8 (x.key 7)))]) ?_
      refine rvO C (.pv (.lit (.bool (((x1 0) == (x.key 0)) && (((x1 1) == (x.key 1)) && (((x1 2) == (x.key 2)) && (((x1 3) == (x.key 3)) && (((x1 4) == (x.key 4)) && (((x1 5) == (x.key 5)) && (((x1 6) == (x.key 6)) && (((x1 7) == (x.key 7)) && true))))))))))) ?_
      refine rvP C (.pv (.lit (.bool (((x1 0) == (x.key 0)) && (((x1 1) == (x.key 1)) && (((x1 2) == (x.key 2)) && (((x1 3) == (x.key 3)) && (((x1 4) == (x.key 4)) && (((x1 5) == (x.key 5)) && (((x1 6) == (x.key 6)) && (((x1 7) == (x.key 7)) && true))))))))))) ?_
      refine rvP C (.pv (.lit (.bool (((x1 0) == (x.key 0)) && (((x1 1) == (x.key 1)) && (((x1 2) == (x.key 2)) && (((x1 3) == (x.key 3)) && (((x1 4) == (x.key 4)) && (((x1 5) == (x.key 5)) && (((x1 6) == (x.key 6)) && (((x1 7) == (x.key 7)) && true))))))))))) ?_
      refine rvc_nil ?_
      refine Awp.regionP C ?_
      refine rvP C (.pv (.lit (.int .i64 (IntKind.i64.wrap ((i1 : Int) + 1))))) ?_
      refine rvP C (.pv (.lit (.int .i64 (IntKind.i64.wrap ((i1 : Int) + 1))))) ?_
      refine rvc_nil ?_
      refine ⟨h8, (at_, (((x1 0) == (x.key 0)) && (((x1 1) == (x.key 1)) && (((x1 2) == (x.key 2)) && (((x1 3) == (x.key 3)) && (((x1 4) == (x.key 4)) && (((x1 5) == (x.key 5)) && (((x1 6) == (x.key 6)) && (((x1 7) == (x.key 7)) && true))))))))), ?_, ?_⟩
      · exact ⟨hR, (by have := wrapI ((i1 : Int) + 1); dsimp only; omega)⟩
      · exact ⟨fun b => b, WeakerR.ofL (Ks := [5]) hI ⟨⟨rfl, rfl⟩, ⟨rfl, rfl⟩, ⟨rfl, rfl⟩, ⟨rfl, rfl⟩, ⟨rfl, rfl⟩, ⟨rfl, rfl⟩, ⟨rfl, rfl⟩, ⟨rfl, rfl⟩, ⟨rfl, rfl⟩, ⟨lit_cast (wrap_i64 (by omega) (by omega)), rfl⟩, trivial⟩ (okH_cons rfl rfl rfl rfl (okH_nil)) rfl⟩
   ·
    have h8 : ¬ i1 < out.length := by have := of_decide_eq_false h7; omega
    rw [drop_end h8] at hR
    refine Awp.exit ?_
    refine Awp.consP C ?_
    refine rvP C (.pv (.lit (.bool there))) ?_
    refine rvP C (.pv (.lit (.bool (!there)))) ?_
    refine rvc_nil ?_
    refine Awp.cond (b := (!there)) rfl (fun h13 => ?_) (fun h13 => ?_)
    ·
     replace hR := of_true h13 hR
     refine Awp.consP C ?_
     refine rvc_un (rexec_prim C (δ := { v := .sl 40 0 0 8 true, new := [(40, .cells (encC (eA8 .u8) []))] }) rfl rfl rfl rfl trivial rfl ?_)
     refine rvP C (sS (some out.isEmpty) (eA8 .u8) out) ?_
     refine rvP C (.pv (.lit (.int .i64 at_))) ?_
     refine rvc_un (rexec_sliceS C (e := (eA8 .u8)) (D := out) 0 at_.toNat rfl rfl rfl rfl rfl rfl rfl rfl rfl (by have := of_decide_eq_true h3; have := of_decide_eq_false h7; simp; omega) (by have := of_decide_eq_true h3; have := of_decide_eq_false h7; omega) (by have := of_decide_eq_true h3; have := of_decide_eq_false h7; omega) (out.take at_.toNat) (by simp) ?_)
     refine rvc_un (rexec_append C rfl rfl rfl rfl rfl rfl rfl rfl (fun _ h => by cases h) rfl (en := (eA8 .u8)) (D0 := []) (D := (out.take at_.toNat)) rfl rfl rfl rfl (by have := of_decide_eq_true h3; have := of_decide_eq_false h7; first | omega | (simp <;> omega)) (by decide) (nn := (out.take at_.toNat).length) (by simp <;> omega) ?_)
     refine rvP C (.sl 44 0 ((out.take at_.toNat).length) 8 false) ?_
     refine rvc_nil ?_
     refine Awp.consP C ?_
     refine rvP C (.sl 44 0 ((out.take at_.toNat).length) 8 false) ?_
     refine rvP C (.ptr 5 3) ?_
     refine rvP C (.agg [.pv (.lit (.int .u8 (x.key 0))), .pv (.lit (.int .u8 (x.key 1))), .pv (.lit (.int .u8 (x.key 2))), .pv (.lit (.int .u8 (x.key 3))), .pv (.lit (.int .u8 (x.key 4))), .pv (.lit (.int .u8 (x.key 5))), .pv (.lit (.int .u8 (x.key 6))), .pv (.lit (.int .u8 (x.key 7)))]) ?_
     refine rvc_un (rexec_buildSliceF C (eA8 .u8) [x.key] rfl rfl rfl rfl rfl rfl rfl (by decide) rfl ?_)
     refine rvc_un (rexec_append C rfl rfl rfl rfl rfl rfl rfl rfl (fun _ h => by cases h) rfl (en := (eA8 .u8)) (D0 := (out.take at_.toNat)) (D := [x.key]) rfl rfl rfl rfl (by have := of_decide_eq_true h3; have := of_decide_eq_false h7; first | omega | (simp <;> omega)) (by decide) (nn := ((out.take at_.toNat) ++ [x.key]).length) (by simp <;> omega) ?_)
     refine rvP C (.sl 49 0 (((out.take at_.toNat) ++ [x.key]).length) 8 false) ?_
     refine rvc_nil ?_
     refine Awp.regionP C ?_
     refine rvP C (.sl 49 0 (((out.take at_.toNat) ++ [x.key]).length) 8 false) ?_
     refine rvP C (sS (some out.isEmpty) (eA8 .u8) out) ?_
     refine rvP C (.pv (.lit (.int .i64 at_))) ?_
     refine rvc_un (rexec_sliceS C (e := (eA8 .u8)) (D := out) at_.toNat out.length rfl rfl rfl rfl rfl rfl rfl rfl (by have := of_decide_eq_true h3; have := of_decide_eq_false h7; simp; omega) rfl (by have := of_decide_eq_true h3; have := of_decide_eq_false h7; omega) (by have := of_decide_eq_true h3; have := of_decide_eq_false h7; omega) (out.drop at_.toNat) (by rw [List.take_of_length_le (by simp)]) ?_)
     refine rvc_un (rexec_append C rfl rfl rfl rfl rfl rfl rfl rfl (fun _ h => by cases h) rfl (en := (eA8 .u8)) (D0 := ((out.take at_.toNat) ++ [x.key])) (D := (out.drop at_.toNat)) rfl rfl rfl rfl (by have := of_decide_eq_true h3; have := of_decide_eq_false h7; first | omega | (simp <;> omega)) (by decide) (nn := (((out.take at_.toNat) ++ [x.key]) ++ (out.drop at_.toNat)).length) (by simp <;> omega) ?_)
     refine rvP C (.sl 54 0 ((((out.take at_.toNat) ++ [x.key]) ++ (out.drop at_.toNat)).length) 8 false) ?_
     refine rvc_nil ?_
     refine Awp.regionP C ?_
     refine rvP C (.pv (.lit (.int .i64 (IntKind.i64.wrap ((i : Int) + 1))))) ?_
     refine rvP C (.pv (.lit (.int .i64 (IntKind.i64.wrap ((i : Int) + 1))))) ?_
     refine rvc_nil ?_
     refine ⟨h4, (((out.take at_.toNat) ++ [x.key]) ++ (out.drop at_.toNat)), ?_, ?_⟩
     · exact ⟨hR, (by first | omega | (simp <;> omega))⟩
     · exact ⟨fun b => bif b == 900 then 54 else (fun b => b) b, WeakerR.ofL (Ks := [900]) hI ⟨⟨grow_to rfl rfl (by simp) rfl rfl, grow_within rfl⟩, ⟨rfl, rfl⟩, ⟨rfl, rfl⟩, ⟨lit_cast (wrap_i64 (by omega) (by omega)), rfl⟩, trivial⟩ (okH_grow (fun _ => rfl) rfl rfl (okH_nil)) rfl⟩
    ·
     replace hR := of_false h13 hR
     refine Awp.skip ?_
     refine Awp.regionP C ?_
     refine rvP C (.pv (.lit (.int .i64 (IntKind.i64.wrap ((i : Int) + 1))))) ?_
     refine rvP C (.pv (.lit (.int .i64 (IntKind.i64.wrap ((i : Int) + 1))))) ?_
     refine rvc_nil ?_
     refine ⟨h4, out, ?_, ?_⟩
     · exact ⟨hR, (by first | omega | (simp <;> omega))⟩
     · exact ⟨fun b => b, WeakerR.ofL (Ks := [900]) hI ⟨⟨grow_to_nil rfl h2 (.inr rfl), grow_within rfl⟩, ⟨rfl, rfl⟩, ⟨rfl, rfl⟩, ⟨lit_cast (wrap_i64 (by omega) (by omega)), rfl⟩, trivial⟩ (okH_grow (fun hne => absurd h2 hne) rfl rfl (okH_nil)) rfl⟩
  ·
   have h4 : ¬ i < calls.D.length := by have := of_decide_eq_false h3; omega
   rw [drop_end h4] at hR
   refine Awp.exit ?_
   refine Awp.consP C ?_
   refine rvP C (sS (some out.isEmpty) (eA8 .u8) out) ?_
   refine rvP C (sS (some out.isEmpty) (eA8 .u8) out) ?_
   refine rvc_nil ?_
   refine Awp.ret ?_
   subst hR
   exact ⟨.inl rfl, rfl⟩
 ·
  refine Awp.wordsR [(3, .sl 900 0 out.length 8 false), (11, sS (some calls.nil) eCall calls.D), (12, .pv (.lit (.int .i64 (calls.D.length : Int)))), (13, .pv (.lit (.int .i64 (i : Int))))] [(900, .cells (encC (eA8 .u8) out))] [900] (WeakerR.ofL (Ks := [900]) hI ⟨⟨(by exact grow_at_cons (b := 900) (b' := 900) (e := (eA8 .u8)) (l := out) rfl h2 rfl rfl rfl), rfl⟩, ⟨rfl, rfl⟩, ⟨rfl, rfl⟩, ⟨rfl, rfl⟩, trivial⟩ (okH_list (look_cons h2 rfl) rfl rfl (okH_nil)) rfl) ?_
  refine Awp.consP C ?_
  refine rvP C (.pv (.lit (.bool (decide ((i : Int) < (calls.D.length : Int)))))) ?_
  refine rvc_nil ?_
  refine Awp.seq ?_
  refine Awp.cond (b := (decide ((i : Int) < (calls.D.length : Int)))) rfl (fun h14 => ?_) (fun h14 => ?_)
  ·
   have h15 : i < calls.D.length := by have := of_decide_eq_true h14; omega
   obtain ⟨x, h16⟩ := getX h15
   rw [drop_at h16] at hR
   refine Awp.skip ?_
   refine Awp.seq ?_
   refine Awp.block ?_
   refine Awp.consP C ?_
   refine rvc_un (rexec_idxS C rfl rfl rfl rfl rfl rfl x (Int.natCast_nonneg _) h16 ?_)
   refine rvP C (.agg [.pv (.lit (.int .i64 x.client)), .pv (.lit (.int .i64 x.seq)), .pv (.lit (.bool x.write)), .pv (.lit (.int .u8 (x.key 0))), .pv (.lit (.int .u8 (x.key 1))), .pv (.lit (.int .u8 (x.key 2))), .pv (.lit (.int .u8 (x.key 3))), .pv (.lit (.int .u8 (x.key 4))), .pv (.lit (.int .u8 (x.key 5))), .pv (.lit (.int .u8 (x.key 6))), .pv (.lit (.int .u8 (x.key 7))), .pv (.lit (.string x.value)), .pv (.lit (.int .i64 x.mode)), .pv (.lit (.int .i64 x.bound)), .pv (.lit (.int .i64 x.began)), .pv (.lit (.int .i64 x.ended)), .pv (.lit (.int .i64 x.ver)), .pv (.lit (.int .i64 x.err)), .pv (.lit (.int .i64 x.floor))]) ?_
   refine rvc_un (rexec_prim C (δ := { v := .ptr 5 0, new := [(5, .cells [.pv (.lit (.int .i64 0)), .pv (.lit (.int .i64 0)), .pv (.lit (.bool false)), .pv (.lit (.int .u8 0)), .pv (.lit (.int .u8 0)), .pv (.lit (.int .u8 0)), .pv (.lit (.int .u8 0)), .pv (.lit (.int .u8 0)), .pv (.lit (.int .u8 0)), .pv (.lit (.int .u8 0)), .pv (.lit (.int .u8 0)), .pv (.lit (.string ⟨#[]⟩)), .pv (.lit (.int .i64 0)), .pv (.lit (.int .i64 0)), .pv (.lit (.int .i64 0)), .pv (.lit (.int .i64 0)), .pv (.lit (.int .i64 0)), .pv (.lit (.int .i64 0)), .pv (.lit (.int .i64 0))])] }) rfl rfl rfl rfl trivial rfl ?_)
   refine rvc_un (rexec_prim C (δ := { v := .undef, wr := [(5, some (.cells [.pv (.lit (.int .i64 x.client)), .pv (.lit (.int .i64 x.seq)), .pv (.lit (.bool x.write)), .pv (.lit (.int .u8 (x.key 0))), .pv (.lit (.int .u8 (x.key 1))), .pv (.lit (.int .u8 (x.key 2))), .pv (.lit (.int .u8 (x.key 3))), .pv (.lit (.int .u8 (x.key 4))), .pv (.lit (.int .u8 (x.key 5))), .pv (.lit (.int .u8 (x.key 6))), .pv (.lit (.int .u8 (x.key 7))), .pv (.lit (.string x.value)), .pv (.lit (.int .i64 x.mode)), .pv (.lit (.int .i64 x.bound)), .pv (.lit (.int .i64 x.began)), .pv (.lit (.int .i64 x.ended)), .pv (.lit (.int .i64 x.ver)), .pv (.lit (.int .i64 x.err)), .pv (.lit (.int .i64 x.floor))]))] }) rfl rfl rfl rfl trivial rfl ?_)
   refine rvc_nil ?_
   refine Awp.consP C ?_
   refine rvP C (.pv (.lit (.int .i64 0))) ?_
   refine rvc_nil ?_
   refine Awp.consP C ?_
   refine rvP C (.pv (.lit (.bool false))) ?_
   refine rvc_nil ?_
   refine Awp.seq ?_
   refine Awp.consP C ?_
   refine rvP C (.sl 900 0 out.length 8 false) ?_
   refine rvP C (.pv (.lit (.int .i64 (out.length : Int)))) ?_
   refine rvP C (.pv (.lit (.int .i64 0))) ?_
   refine rvc_nil ?_
   refine Awp.block ?_
   refine Awp.forR (σ := Int × Bool) (out.length) (fun i2 v => [(3, .sl 900 0 out.length 8 false), (5, .ptr 5 0), (6, .pv (.lit (.int .i64 v.1))), (7, .pv (.lit (.bool v.2))), (11, sS (some calls.nil) eCall calls.D), (12, .pv (.lit (.int .i64 (calls.D.length : Int)))), (13, .pv (.lit (.int .i64 (i : Int)))), (17, .sl 900 0 out.length 8 false), (18, .pv (.lit (.int .i64 (out.length : Int)))), (19, .pv (.lit (.int .i64 (i2 : Int))))]) (fun i2 v => [(900, .cells (encC (eA8 .u8) out)), (5, .cells [.pv (.lit (.int .i64 x.client)), .pv (.lit (.int .i64 x.seq)), .pv (.lit (.bool x.write)), .pv (.lit (.int .u8 (x.key 0))), .pv (.lit (.int .u8 (x.key 1))), .pv (.lit (.int .u8 (x.key 2))), .pv (.lit (.int .u8 (x.key 3))), .pv (.lit (.int .u8 (x.key 4))), .pv (.lit (.int .u8 (x.key 5))), .pv (.lit (.int .u8 (x.key 6))), .pv (.lit (.int .u8 (x.key 7))), .pv (.lit (.string x.value)), .pv (.lit (.int .i64 x.mode)), .pv (.lit (.int .i64 x.bound)), .pv (.lit (.int .i64 x.began)), .pv (.lit (.int .i64 x.ended)), .pv (.lit (.int .i64 x.ver)), .pv (.lit (.int .i64 x.err)), .pv (.lit (.int .i64 x.floor))])]) [5, 900] (fun i2 v => (rKeys_l1 x (fun at_1 there1 => (bif (!there1) then rKeys_l0 (calls.D.drop (i + 1)) (i + 1) (((out.take at_1.toNat) ++ [x.key]) ++ (out.drop at_1.toNat)) else rKeys_l0 (calls.D.drop (i + 1)) (i + 1) out)) (out.drop i2) i2 v.1 v.2 = R) ∧ (0 ≤ v.1 ∧ v.1 ≤ (i2 : Int))) (0, false) ?_ ?_ (fun i2 v h17 hR => ?_)
   · exact ⟨hR, (by simp)⟩
   · exact ⟨fun b => b, WeakerR.ofL (Ks := [5, 900]) hI ⟨⟨rfl, rfl⟩, ⟨rfl, rfl⟩, ⟨rfl, rfl⟩, ⟨rfl, rfl⟩, ⟨rfl, rfl⟩, ⟨rfl, rfl⟩, ⟨rfl, rfl⟩, ⟨rfl, rfl⟩, ⟨rfl, rfl⟩, ⟨rfl, rfl⟩, trivial⟩ (okH_list rfl rfl rfl (okH_cons rfl rfl rfl rfl (okH_nil))) rfl⟩
   obtain ⟨at_1, there1⟩ := v
   obtain ⟨hR, hV⟩ := hR
   replace hV : 0 ≤ at_1 ∧ at_1 ≤ (i2 : Int) := hV
   refine Awp.consP C ?_
   refine rvP C (.pv (.lit (.bool (decide ((i2 : Int) < (out.length : Int)))))) ?_
   refine rvc_nil ?_
   refine Awp.seq ?_
   refine Awp.cond (b := (decide ((i2 : Int) < (out.length : Int)))) rfl (fun h18 => ?_) (fun h18 => ?_)
   ·
    have h19 : i2 < out.length := by have := of_decide_eq_true h18; omega
    obtain ⟨x2, h20⟩ := getX h19
    rw [drop_at h20] at hR
    refine Awp.skip ?_
    refine Awp.seq ?_
    refine Awp.block ?_
    refine Awp.consP C ?_
    refine rvP C (.pv (.lit (.int .i64 (i2 : Int)))) ?_
    refine rvc_un (rexec_prim C (δ := { v := .ptr 900 (0 + i2 * 8) }) rfl rfl rfl rfl ⟨(by have := of_decide_eq_true h14; have := of_decide_eq_true h18; omega), getlt h20 (by first | rfl | omega | (have := of_decide_eq_true h14; have := of_decide_eq_true h18; omega)) (by first | rfl | omega | simp)⟩ rfl ?_)
    refine rvc_un (rexec_loadE C (e := (eA8 .u8)) i2 0 x2 (.agg [.pv (.lit (.int .u8 (x2 0))), .pv (.lit (.int .u8 (x2 1))), .pv (.lit (.int .u8 (x2 2))), .pv (.lit (.int .u8 (x2 3))), .pv (.lit (.int .u8 (x2 4))), .pv (.lit (.int .u8 (x2 5))), .pv (.lit (.int .u8 (x2 6))), .pv (.lit (.int .u8 (x2 7)))]) rfl rfl rfl rfl h20 (by simp [eA8]) (by decide) (by decide) rfl ?_)
    refine rvc_un (rexec_prim C (δ := { v := .ptr 9 0, new := [(9, .cells [.pv (.lit (.int .u8 0)), .pv (.lit (.int .u8 0)), .pv (.lit (.int .u8 0)), .pv (.lit (.int .u8 0)), .pv (.lit (.int .u8 0)), .pv (.lit (.int .u8 0)), .pv (.lit (.int .u8 0)), .pv (.lit (.int .u8 0))])] }) rfl rfl rfl rfl trivial rfl ?_)
    refine rvP C (.pv (.lit (.int .i64 (i2 : Int)))) ?_
    refine rvc_un (rexec_prim C (δ := { v := .undef, wr := [(9, some (.cells [.pv (.lit (.int .u8 (x2 0))), .pv (.lit (.int .u8 (x2 1))), .pv (.lit (.int .u8 (x2 2))), .pv (.lit (.int .u8 (x2 3))), .pv (.lit (.int .u8 (x2 4))), .pv (.lit (.int .u8 (x2 5))), .pv (.lit (.int .u8 (x2 6))), .pv (.lit (.int .u8 (x2 7)))]))] }) rfl rfl rfl rfl trivial rfl ?_)
    refine rvc_nil ?_
    refine Awp.seq ?_
    refine Awp.consP C ?_
    refine rvP C (.agg [.pv (.lit (.int .u8 (x2 0))), .pv (.lit (.int .u8 (x2 1))), .pv (.lit (.int .u8 (x2 2))), .pv (.lit (.int .u8 (x2 3))), .pv (.lit (.int .u8 (x2 4))), .pv (.lit (.int .u8 (x2 5))), .pv (.lit (.int .u8 (x2 6))), .pv (.lit (.int .u8 (x2 7)))]) ?_
    refine rvP C (.ptr 5 3) ?_
    refine rvP C (.agg [.pv (.lit (.int .u8 (x.key 0))), .pv (.lit (.int .u8 (x.key 1))), .pv (.lit (.int .u8 (x.key 2))), .pv (.lit (.int .u8 (x.key 3))), .pv (.lit (.int .u8 (x.key 4))), .pv (.lit (.int .u8 (x.key 5))), .pv (.lit (.int .u8 (x.key 6))), .pv (.lit (.int .u8 (x.key 7)))]) ?_
    refine rvc_un (rexec_call hP C rfl rfl rfl (rLess_calls x2 x.key) ?_)
    refine rvc_nil ?_
    refine Awp.cond (b := (rLess x2 x.key)) rfl (fun h21 => ?_) (fun h21 => ?_)
    ·
     replace hR := of_true h21 hR
     refine Awp.regionP C ?_
     refine rvP C (.pv (.lit (.int .i64 (i2 : Int)))) ?_
     refine rvP C (.pv (.lit (.int .i64 (IntKind.i64.wrap ((i2 : Int) + 1))))) ?_
     refine rvP C (.pv (.lit (.int .i64 (IntKind.i64.wrap ((i2 : Int) + 1))))) ?_
     refine rvc_nil ?_
     refine Awp.regionP C ?_
     refine rvP C (.pv (.lit (.bool there1))) ?_
     refine rvP C (.pv (.lit (.bool there1))) ?_
     refine rvc_case 31 there1 rfl (fun h22 => ?_) (fun h22 => ?_)
     ·
      replace hR := of_true h22 hR
      refine rvS ?_
      refine rvS ?_
      refine rvS ?_
      refine rvS ?_
      refine rvP C (.pv (.lit (.bool true))) ?_
      refine rvP C (.pv (.lit (.bool true))) ?_
      refine rvc_nil ?_
      refine Awp.regionP C ?_
      refine rvP C (.pv (.lit (.int .i64 (IntKind.i64.wrap ((i2 : Int) + 1))))) ?_
      refine rvP C (.pv (.lit (.int .i64 (IntKind.i64.wrap ((i2 : Int) + 1))))) ?_
      refine rvc_nil ?_
      refine ⟨h19, ((IntKind.i64.wrap ((i2 : Int) + 1)), true), ?_, ?_⟩
      · exact ⟨hR, (by have := wrapI ((i2 : Int) + 1); dsimp only; omega)⟩
      · exact ⟨fun b => b, WeakerR.ofL (Ks := [5, 900]) hI ⟨⟨rfl, rfl⟩, ⟨rfl, rfl⟩, ⟨rfl, rfl⟩, ⟨rfl, rfl⟩, ⟨rfl, rfl⟩, ⟨rfl, rfl⟩, ⟨rfl, rfl⟩, ⟨rfl, rfl⟩, ⟨rfl, rfl⟩, ⟨lit_cast (wrap_i64 (by omega) (by omega)), rfl⟩, trivial⟩ (okH_list rfl rfl rfl (okH_cons rfl rfl rfl rfl (okH_nil))) rfl⟩
     ·
      replace hR := of_false h22 hR
      refine rvO C (.agg [.pv (.lit (.int .u8 (x2 0))), .pv (.lit (.int .u8 (x2 1))), .pv (.lit (.int .u8 (x2 2))), .pv (.lit (.int .u8 (x2 3))), .pv (.lit (.int .u8 (x2 4))), .pv (.lit (.int .u8 (x2 5))), .pv (.lit (.int .u8 (x2 6))), .pv (.lit (.int .u8 (x2 7)))]) ?_
      refine rvO C (.ptr 5 3) ?_
      refine rvO C (.agg [.pv (.lit (.int .u8 (x.key 0))), .pv (.lit (.int .u8 (x.key 1))), .pv (.lit (.int .u8 (x.key 2))), .pv (.lit (.int .u8 (x.key 3))), .pv (.lit (.int .u8 (x.key 4))), .pv (.lit (.int .u8 (x.key 5))), .pv (.lit (.int .u8 (x.key 6))), .pv (.lit (.int .u8 (x.key 7)))]) ?_
      refine rvO C (.pv (.lit (.bool (((x2 0) == (x.key 0)) && (((x2 1) == (x.key 1)) && (((x2 2) == (x.key 2)) && (((x2 3) == (x.key 3)) && (((x2 4) == (x.key 4)) && (((x2 5) == (x.key 5)) && (((x2 6) == (x.key 6)) && (((x2 7) == (x.key 7)) && true))))))))))) ?_
      refine rvP C (.pv (.lit (.bool (((x2 0) == (x.key 0)) && (((x2 1) == (x.key 1)) && (((x2 2) == (x.key 2)) && (((x2 3) == (x.key 3)) && (((x2 4) == (x.key 4)) && (((x2 5) == (x.key 5)) && (((x2 6) == (x.key 6)) && (((x2 7) == (x.key 7)) && true))))))))))) ?_
      refine rvP C (.pv (.lit (.bool (((x2 0) == (x.key 0)) && (((x2 1) == (x.key 1)) && (((x2 2) == (x.key 2)) && (((x2 3) == (x.key 3)) && (((x2 4) == (x.key 4)) && (((x2 5) == (x.key 5)) && (((x2 6) == (x.key 6)) && (((x2 7) == (x.key 7)) && true))))))))))) ?_
      refine rvc_nil ?_
      refine Awp.regionP C ?_
      refine rvP C (.pv (.lit (.int .i64 (IntKind.i64.wrap ((i2 : Int) + 1))))) ?_
      refine rvP C (.pv (.lit (.int .i64 (IntKind.i64.wrap ((i2 : Int) + 1))))) ?_
      refine rvc_nil ?_
      refine ⟨h19, ((IntKind.i64.wrap ((i2 : Int) + 1)), (((x2 0) == (x.key 0)) && (((x2 1) == (x.key 1)) && (((x2 2) == (x.key 2)) && (((x2 3) == (x.key 3)) && (((x2 4) == (x.key 4)) && (((x2 5) == (x.key 5)) && (((x2 6) == (x.key 6)) && (((x2 7) == (x.key 7)) && true))))))))), ?_, ?_⟩
      · exact ⟨hR, (by have := wrapI ((i2 : Int) + 1); dsimp only; omega)⟩
      · exact ⟨fun b => b, WeakerR.ofL (Ks := [5, 900]) hI ⟨⟨rfl, rfl⟩, ⟨rfl, rfl⟩, ⟨rfl, rfl⟩, ⟨rfl, rfl⟩, ⟨rfl, rfl⟩, ⟨rfl, rfl⟩, ⟨rfl, rfl⟩, ⟨rfl, rfl⟩, ⟨rfl, rfl⟩, ⟨lit_cast (wrap_i64 (by omega) (by omega)), rfl⟩, trivial⟩ (okH_list rfl rfl rfl (okH_cons rfl rfl rfl rfl (okH_nil))) rfl⟩
    ·
     replace hR := of_false h21 hR
     refine Awp.skip ?_
     refine Awp.regionP C ?_
     refine rvP C (.pv (.lit (.bool there1))) ?_
     refine rvP C (.pv (.lit (.bool there1))) ?_
     refine rvc_case 31 there1 rfl (fun h23 => ?_) (fun h23 => ?_)
     ·
      replace hR := of_true h23 hR
      refine rvS ?_
      refine rvS ?_
      refine rvS ?_
      refine rvS ?_
      refine rvP C (.pv (.lit (.bool true))) ?_
      refine rvP C (.pv (.lit (.bool true))) ?_
      refine rvc_nil ?_
      refine Awp.regionP C ?_
      refine rvP C (.pv (.lit (.int .i64 (IntKind.i64.wrap ((i2 : Int) + 1))))) ?_
      refine rvP C (.pv (.lit (.int .i64 (IntKind.i64.wrap ((i2 : Int) + 1))))) ?_
      refine rvc_nil ?_
      refine ⟨h19, (at_1, true), ?_, ?_⟩
      · exact ⟨hR, (by have := wrapI ((i2 : Int) + 1); dsimp only; omega)⟩
      · exact ⟨fun b => b, WeakerR.ofL (Ks := [5, 900]) hI ⟨⟨rfl, rfl⟩, ⟨rfl, rfl⟩, ⟨rfl, rfl⟩, ⟨rfl, rfl⟩, ⟨rfl, rfl⟩, ⟨rfl, rfl⟩, ⟨rfl, rfl⟩, ⟨rfl, rfl⟩, ⟨rfl, rfl⟩, ⟨lit_cast (wrap_i64 (by omega) (by omega)), rfl⟩, trivial⟩ (okH_list rfl rfl rfl (okH_cons rfl rfl rfl rfl (okH_nil))) rfl⟩
     ·
      replace hR := of_false h23 hR
      refine rvO C (.agg [.pv (.lit (.int .u8 (x2 0))), .pv (.lit (.int .u8 (x2 1))), .pv (.lit (.int .u8 (x2 2))), .pv (.lit (.int .u8 (x2 3))), .pv (.lit (.int .u8 (x2 4))), .pv (.lit (.int .u8 (x2 5))), .pv (.lit (.int .u8 (x2 6))), .pv (.lit (.int .u8 (x2 7)))]) ?_
      refine rvO C (.ptr 5 3) ?_
      refine rvO C (.agg [.pv (.lit (.int .u8 (x.key 0))), .pv (.lit (.int .u8 (x.key 1))), .pv (.lit (.int .u8 (x.key 2))), .pv (.lit (.int .u8 (x.key 3))), .pv (.lit (.int .u8 (x.key 4))), .pv (.lit (.int .u8 (x.key 5))), .pv (.lit (.int .u8 (x.key 6))), .pv (.lit (.int .u8 (x.key 7)))]) ?_
      refine rvO C (.pv (.lit (.bool (((x2 0) == (x.key 0)) && (((x2 1) == (x.key 1)) && (((x2 2) == (x.key 2)) && (((x2 3) == (x.key 3)) && (((x2 4) == (x.key 4)) && (((x2 5) == (x.key 5)) && (((x2 6) == (x.key 6)) && (((x2 7) == (x.key 7)) && true))))))))))) ?_
      refine rvP C (.pv (.lit (.bool (((x2 0) == (x.key 0)) && (((x2 1) == (x.key 1)) && (((x2 2) == (x.key 2)) && (((x2 3) == (x.key 3)) && (((x2 4) == (x.key 4)) && (((x2 5) == (x.key 5)) && (((x2 6) == (x.key 6)) && (((x2 7) == (x.key 7)) && true))))))))))) ?_
      refine rvP C (.pv (.lit (.bool (((x2 0) == (x.key 0)) && (((x2 1) == (x.key 1)) && (((x2 2) == (x.key 2)) && (((x2 3) == (x.key 3)) && (((x2 4) == (x.key 4)) && (((x2 5) == (x.key 5)) && (((x2 6) == (x.key 6)) && (((x2 7) == (x.key 7)) && true))))))))))) ?_
      refine rvc_nil ?_
      refine Awp.regionP C ?_
      refine rvP C (.pv (.lit (.int .i64 (IntKind.i64.wrap ((i2 : Int) + 1))))) ?_
      refine rvP C (.pv (.lit (.int .i64 (IntKind.i64.wrap ((i2 : Int) + 1))))) ?_
      refine rvc_nil ?_
      refine ⟨h19, (at_1, (((x2 0) == (x.key 0)) && (((x2 1) == (x.key 1)) && (((x2 2) == (x.key 2)) && (((x2 3) == (x.key 3)) && (((x2 4) == (x.key 4)) && (((x2 5) == (x.key 5)) && (((x2 6) == (x.key 6)) && (((x2 7) == (x.key 7)) && true))))))))), ?_, ?_⟩
      · exact ⟨hR, (by have := wrapI ((i2 : Int) + 1); dsimp only; omega)⟩
      · exact ⟨fun b => b, WeakerR.ofL (Ks := [5, 900]) hI ⟨⟨rfl, rfl⟩, ⟨rfl, rfl⟩, ⟨rfl, rfl⟩, ⟨rfl, rfl⟩, ⟨rfl, rfl⟩, ⟨rfl, rfl⟩, ⟨rfl, rfl⟩, ⟨rfl, rfl⟩, ⟨rfl, rfl⟩, ⟨lit_cast (wrap_i64 (by omega) (by omega)), rfl⟩, trivial⟩ (okH_list rfl rfl rfl (okH_cons rfl rfl rfl rfl (okH_nil))) rfl⟩
   ·
    have h19 : ¬ i2 < out.length := by have := of_decide_eq_false h18; omega
    rw [drop_end h19] at hR
    refine Awp.exit ?_
    refine Awp.consP C ?_
    refine rvP C (.pv (.lit (.bool there1))) ?_
    refine rvP C (.pv (.lit (.bool (!there1)))) ?_
    refine rvc_nil ?_
    refine Awp.cond (b := (!there1)) rfl (fun h24 => ?_) (fun h24 => ?_)
    ·
     replace hR := of_true h24 hR
     refine Awp.freezeW 900 (encL (eA8 .u8) out) ?_ [(3, sS (some out.isEmpty) (eA8 .u8) out), (5, .ptr 5 0), (6, .pv (.lit (.int .i64 at_1))), (11, sS (some calls.nil) eCall calls.D), (12, .pv (.lit (.int .i64 (calls.D.length : Int)))), (13, .pv (.lit (.int .i64 (i : Int))))] [(5, .cells [.pv (.lit (.int .i64 x.client)), .pv (.lit (.int .i64 x.seq)), .pv (.lit (.bool x.write)), .pv (.lit (.int .u8 (x.key 0))), .pv (.lit (.int .u8 (x.key 1))), .pv (.lit (.int .u8 (x.key 2))), .pv (.lit (.int .u8 (x.key 3))), .pv (.lit (.int .u8 (x.key 4))), .pv (.lit (.int .u8 (x.key 5))), .pv (.lit (.int .u8 (x.key 6))), .pv (.lit (.int .u8 (x.key 7))), .pv (.lit (.string x.value)), .pv (.lit (.int .i64 x.mode)), .pv (.lit (.int .i64 x.bound)), .pv (.lit (.int .i64 x.began)), .pv (.lit (.int .i64 x.ended)), .pv (.lit (.int .i64 x.ver)), .pv (.lit (.int .i64 x.err)), .pv (.lit (.int .i64 x.floor))])] ?_ ?_ ?_
     · rfl
     · exact ⟨⟨_, rfl, .inl (.inr ⟨_, _, _, rfl, by rw [ne_isEmpty h2]; rfl⟩)⟩, ⟨_, rfl, .inl (.inl rfl)⟩, ⟨_, rfl, .inl (.inl rfl)⟩, ⟨_, rfl, .inl (.inl rfl)⟩, ⟨_, rfl, .inl (.inl rfl)⟩, ⟨_, rfl, .inl (.inl rfl)⟩, trivial⟩
     · exact ⟨⟨(by show (5 : Nat) ≠ 900; decide), .inl rfl⟩, trivial⟩
     refine Awp.consP C ?_
     refine rvc_un (rexec_prim C (δ := { v := .sl 40 0 0 8 true, new := [(40, .cells (encC (eA8 .u8) []))] }) rfl rfl rfl rfl trivial rfl ?_)
     refine rvP C (sS (some out.isEmpty) (eA8 .u8) out) ?_
     refine rvP C (.pv (.lit (.int .i64 at_1))) ?_
     refine rvc_un (rexec_sliceS C (e := (eA8 .u8)) (D := out) 0 at_1.toNat rfl rfl rfl rfl rfl rfl rfl rfl rfl (by have := of_decide_eq_true h14; have := of_decide_eq_false h18; simp; omega) (by have := of_decide_eq_true h14; have := of_decide_eq_false h18; omega) (by have := of_decide_eq_true h14; have := of_decide_eq_false h18; omega) (out.take at_1.toNat) (by simp) ?_)
     refine rvc_un (rexec_append C rfl rfl rfl rfl rfl rfl rfl rfl (fun _ h => by cases h) rfl (en := (eA8 .u8)) (D0 := []) (D := (out.take at_1.toNat)) rfl rfl rfl rfl (by have := of_decide_eq_true h14; have := of_decide_eq_false h18; first | omega | (simp <;> omega)) (by decide) (nn := (out.take at_1.toNat).length) (by simp <;> omega) ?_)
     refine rvP C (.sl 44 0 ((out.take at_1.toNat).length) 8 false) ?_
     refine rvc_nil ?_
     refine Awp.consP C ?_
     refine rvP C (.sl 44 0 ((out.take at_1.toNat).length) 8 false) ?_
     refine rvP C (.ptr 5 3) ?_
     refine rvP C (.agg [.pv (.lit (.int .u8 (x.key 0))), .pv (.lit (.int .u8 (x.key 1))), .pv (.lit (.int .u8 (x.key 2))), .pv (.lit (.int .u8 (x.key 3))), .pv (.lit (.int .u8 (x.key 4))), .pv (.lit (.int .u8 (x.key 5))), .pv (.lit (.int .u8 (x.key 6))), .pv (.lit (.int .u8 (x.key 7)))]) ?_
     refine rvc_un (rexec_buildSliceF C (eA8 .u8) [x.key] rfl rfl rfl rfl rfl rfl rfl (by decide) rfl ?_)
     refine rvc_un (rexec_append C rfl rfl rfl rfl rfl rfl rfl rfl (fun _ h => by cases h) rfl (en := (eA8 .u8)) (D0 := (out.take at_1.toNat)) (D := [x.key]) rfl rfl rfl rfl (by have := of_decide_eq_true h14; have := of_decide_eq_false h18; first | omega | (simp <;> omega)) (by decide) (nn := ((out.take at_1.toNat) ++ [x.key]).length) (by simp <;> omega) ?_)
     refine rvP C (.sl 49 0 (((out.take at_1.toNat) ++ [x.key]).length) 8 false) ?_
     refine rvc_nil ?_
     refine Awp.regionP C ?_
     refine rvP C (.sl 49 0 (((out.take at_1.toNat) ++ [x.key]).length) 8 false) ?_
     refine rvP C (sS (some out.isEmpty) (eA8 .u8) out) ?_
     refine rvP C (.pv (.lit (.int .i64 at_1))) ?_
     refine rvc_un (rexec_sliceS C (e := (eA8 .u8)) (D := out) at_1.toNat out.length rfl rfl rfl rfl rfl rfl rfl rfl (by have := of_decide_eq_true h14; have := of_decide_eq_false h18; simp; omega) rfl (by have := of_decide_eq_true h14; have := of_decide_eq_false h18; omega) (by have := of_decide_eq_true h14; have := of_decide_eq_false h18; omega) (out.drop at_1.toNat) (by rw [List.take_of_length_le (by simp)]) ?_)
     refine rvc_un (rexec_append C rfl rfl rfl rfl rfl rfl rfl rfl (fun _ h => by cases h) rfl (en := (eA8 .u8)) (D0 := ((out.take at_1.toNat) ++ [x.key])) (D := (out.drop at_1.toNat)) rfl rfl rfl rfl (by have := of_decide_eq_true h14; have := of_decide_eq_false h18; first | omega | (simp <;> omega)) (by decide) (nn := (((out.take at_1.toNat) ++ [x.key]) ++ (out.drop at_1.toNat)).length) (by simp <;> omega) ?_)
     refine rvP C (.sl 54 0 ((((out.take at_1.toNat) ++ [x.key]) ++ (out.drop at_1.toNat)).length) 8 false) ?_
     refine rvc_nil ?_
     refine Awp.regionP C ?_
     refine rvP C (.pv (.lit (.int .i64 (IntKind.i64.wrap ((i : Int) + 1))))) ?_
     refine rvP C (.pv (.lit (.int .i64 (IntKind.i64.wrap ((i : Int) + 1))))) ?_
     refine rvc_nil ?_
     refine ⟨h15, (((out.take at_1.toNat) ++ [x.key]) ++ (out.drop at_1.toNat)), ?_, ?_⟩
     · exact ⟨hR, (by first | omega | (simp <;> omega))⟩
     · exact ⟨fun b => bif b == 900 then 54 else (fun b => b) b, WeakerR.ofL (Ks := [900]) hI ⟨⟨grow_to rfl rfl (by simp) rfl rfl, grow_within rfl⟩, ⟨rfl, rfl⟩, ⟨rfl, rfl⟩, ⟨lit_cast (wrap_i64 (by omega) (by omega)), rfl⟩, trivial⟩ (okH_grow (fun _ => rfl) rfl rfl (okH_nil)) rfl⟩
    ·
     replace hR := of_false h24 hR
     refine Awp.skip ?_
     refine Awp.regionP C ?_
     refine rvP C (.pv (.lit (.int .i64 (IntKind.i64.wrap ((i : Int) + 1))))) ?_
     refine rvP C (.pv (.lit (.int .i64 (IntKind.i64.wrap ((i : Int) + 1))))) ?_
     refine rvc_nil ?_
     refine ⟨h15, out, ?_, ?_⟩
     · exact ⟨hR, (by first | omega | (simp <;> omega))⟩
     · exact ⟨fun b => b, WeakerR.ofL (Ks := [900]) hI ⟨⟨grow_to rfl rfl h2 rfl rfl, grow_within rfl⟩, ⟨rfl, rfl⟩, ⟨rfl, rfl⟩, ⟨lit_cast (wrap_i64 (by omega) (by omega)), rfl⟩, trivial⟩ (okH_grow (fun _ => rfl) rfl rfl (okH_nil)) rfl⟩
  ·
   have h15 : ¬ i < calls.D.length := by have := of_decide_eq_false h14; omega
   rw [drop_end h15] at hR
   refine Awp.exit ?_
   refine Awp.consP C ?_
   refine rvP C (.sl 900 0 out.length 8 false) ?_
   refine rvP C (.sl 900 0 out.length 8 false) ?_
   refine rvc_nil ?_
   refine Awp.freezeW 900 (encL (eA8 .u8) out) ?_ [(2, sS (some out.isEmpty) (eA8 .u8) out)] [] ?_ ?_ ?_
   · rfl
   · exact ⟨⟨_, rfl, .inl (.inr ⟨_, _, _, rfl, by rw [ne_isEmpty h2]; rfl⟩)⟩, trivial⟩
   · exact trivial
   refine Awp.ret ?_
   subst hR
   exact ⟨.inl rfl, rfl⟩
 -- !! two models: ('(Sl.mk out.isEmpty out)', 'rKeys_l1 x (fun at_ there => (bif (!there) then rKeys_l0 (calls.D.drop (i + 1)) (i + 1) (((out.take at_.toNat) ++ [x.key]) ++ (out.drop at_.toNat)) else rKeys_l0 (calls.D.drop (i + 1)) (i + 1) out)) out 0 0 false') ||| ('(Sl.mk out.isEmpty out)', 'rKeys_l1 x (fun at_1 there1 => (bif (!there1) then rKeys_l0 (calls.D.drop (i + 1)) (i + 1) (((out.take at_1.toNat) ++ [x.key]) ++ (out.drop at_1.toNat)) else rKeys_l0 (calls.D.drop (i + 1)) (i + 1) out)) out 0 0 false')
def rVersions_l4 (x6 : Op) (kk : Bool) : List Op → Nat → Bool
  | [], _ => kk 
  | x7 :: x7s, i7 => (bif (x7.ended != 0) then (bif (x6.ended == 0) then rVersions_l4 x6 kk x7s (i7 + 1)  else (bif (decide (x6.ended ≥ x7.began)) then rVersions_l4 x6 kk x7s (i7 + 1)  else (bif (decide (x6.ver > x7.ver)) then false else (bif x7.write then (bif (x6.ver == x7.ver) then false else rVersions_l4 x6 kk x7s (i7 + 1) ) else rVersions_l4 x6 kk x7s (i7 + 1) )))) else (bif x7.write then (bif (x6.ended == 0) then rVersions_l4 x6 kk x7s (i7 + 1)  else (bif (!(x7.ver != 0)) then rVersions_l4 x6 kk x7s (i7 + 1)  else (bif (decide (x6.ended ≥ x7.began)) then rVersions_l4 x6 kk x7s (i7 + 1)  else (bif (decide (x6.ver > x7.ver)) then false else (bif (x6.ver == x7.ver) then false else rVersions_l4 x6 kk x7s (i7 + 1) ))))) else (bif (x6.ended == 0) then rVersions_l4 x6 kk x7s (i7 + 1)  else rVersions_l4 x6 kk x7s (i7 + 1) )))
end Go.Proofs.Ytoieegmebadfkaa
namespace Go.Proofs.Ytoieegmebadfkaa
open Go.Am
theorem kSlot_eq (a b : Slot) : kSlot.eq a b = decide (kL a.key = kL b.key ∧ a.ver = b.ver) := by
  show (((((a.key 0) == (b.key 0)) && (((a.key 1) == (b.key 1)) && (((a.key 2) == (b.key 2)) && (((a.key 3) == (b.key 3)) && (((a.key 4) == (b.key 4)) && (((a.key 5) == (b.key 5)) && (((a.key 6) == (b.key 6)) && (((a.key 7) == (b.key 7)) && true)))))))) && ((a.ver == b.ver) && true))) = _
  rw [eq8, Bool.eq_iff_iff]; simp
theorem kReq_eq (a b : Req) : kReq.eq a b = decide (a.client = b.client ∧ a.seq = b.seq) := by
  show ((a.client == b.client) && ((a.seq == b.seq) && true)) = _
  rw [Bool.eq_iff_iff]; simp
section maps
variable {κ β : Type} {KE : KEnc κ}
theorem mGet_set (hsym : ∀ a b, KE.eq a b = KE.eq b a) (htr : ∀ a b c, KE.eq a b = true → KE.eq a c = KE.eq b c) (p q : κ) (b : β) : ∀ (D : List (κ × β)), mGet KE q (mSet KE p b D) = if KE.eq q p then some b else mGet KE q D
  | [] => rfl
  | e :: D => by
    unfold mSet
    by_cases h1 : KE.eq p e.1 = true
    · rw [if_pos h1]
      have e1 : KE.eq q e.1 = KE.eq q p := by rw [hsym q e.1, hsym q p, htr p e.1 q h1]
      show (if KE.eq q e.1 then some b else mGet KE q D) = if KE.eq q p then some b else if KE.eq q e.1 then some e.2 else mGet KE q D
      rw [e1]
      cases KE.eq q p <;> rfl
    · rw [if_neg h1]
      show (if KE.eq q e.1 then some e.2 else mGet KE q (mSet KE p b D)) = if KE.eq q p then some b else if KE.eq q e.1 then some e.2 else mGet KE q D
      rw [mGet_set hsym htr p q b D]
      by_cases h2 : KE.eq q p = true
      · rw [if_pos h2]
        have : KE.eq q e.1 = KE.eq p e.1 := htr q p e.1 h2
        rw [this, if_neg h1]
        simp [h2]
      · simp [h2]
end maps
theorem kReq_sym (a b : Req) : kReq.eq a b = kReq.eq b a := by
  rw [kReq_eq, kReq_eq, decide_eq_decide]; exact ⟨fun h => ⟨h.1.symm, h.2.symm⟩, fun h => ⟨h.1.symm, h.2.symm⟩⟩
theorem kReq_tr (a b c : Req) (h : kReq.eq a b = true) : kReq.eq a c = kReq.eq b c := by
  rw [kReq_eq] at h
  obtain ⟨h1, h2⟩ := of_decide_eq_true h
  rw [kReq_eq, kReq_eq, h1, h2]
theorem kSlot_sym (a b : Slot) : kSlot.eq a b = kSlot.eq b a := by
  rw [kSlot_eq, kSlot_eq, decide_eq_decide]; exact ⟨fun h => ⟨h.1.symm, h.2.symm⟩, fun h => ⟨h.1.symm, h.2.symm⟩⟩
theorem kSlot_tr (a b c : Slot) (h : kSlot.eq a b = true) : kSlot.eq a c = kSlot.eq b c := by
  rw [kSlot_eq] at h
  obtain ⟨h1, h2⟩ := of_decide_eq_true h
  rw [kSlot_eq, kSlot_eq, h1, h2]
/-- The last one of which something is so. -/
def lastP (p : Record → Bool) : List Record → Option Record → Option Record
  | [], r => r
  | x :: xs, r => lastP p xs (if p x then some x else r)
theorem openB_l0_req (q : Req) : ∀ (xs : List Record) (i : Nat) (m1 : List (Slot × Record)) (m2 : List (Req × Record)), mGet kReq q (openB_l0 xs i m1 m2).req = lastP (fun x => kReq.eq q x.req) xs (mGet kReq q m2)
  | [], _, _, _ => rfl
  | x :: xs, i, m1, m2 => by
    unfold openB_l0 lastP
    rw [openB_l0_req q xs (i + 1), mGet_set kReq_sym kReq_tr]
theorem openB_l0_of (q : Slot) : ∀ (xs : List Record) (i : Nat) (m1 : List (Slot × Record)) (m2 : List (Req × Record)), mGet kSlot q (openB_l0 xs i m1 m2).of_ = lastP (fun x => kSlot.eq q (Slot.mk x.key x.ver)) xs (mGet kSlot q m1)
  | [], _, _, _ => rfl
  | x :: xs, i, m1, m2 => by
    unfold openB_l0 lastP
    rw [openB_l0_of q xs (i + 1), mGet_set kSlot_sym kSlot_tr]
theorem openB_req (q : Req) (recs : Sl Record) : mGet kReq q (openB recs).req = lastP (fun x => decide (q.client = x.req.client ∧ q.seq = x.req.seq)) recs.D none := by
  unfold openB
  rw [openB_l0_req]
  simp only [kReq_eq]; rfl
theorem openB_of (q : Slot) (recs : Sl Record) : mGet kSlot q (openB recs).of_ = lastP (fun x => decide (kL q.key = kL x.key ∧ q.ver = x.ver)) recs.D none := by
  unfold openB
  rw [openB_l0_of]
  simp only [kSlot_eq]; rfl
theorem lastP_some (p : Record → Bool) : ∀ (xs : List Record) (r : Option Record), (lastP p xs r).isSome = (r.isSome || xs.any p)
  | [], r => by simp [lastP]
  | x :: xs, r => by
    unfold lastP
    rw [lastP_some p xs, List.any_cons]
    cases p x <;> cases r <;> simp
def normR (r : Record) : Record := Record.mk r.index r.epoch (ofL [r.key 0, r.key 1, r.key 2, r.key 3, r.key 4, r.key 5, r.key 6, r.key 7]) r.ver r.value (Req.mk r.req.client r.req.seq)
theorem rOfC_l0_eq (c : Call) : ∀ (xs : List Record) (i : Nat) (r : Record) (o : Option Record), o.getD r = r → rOfC_l0 c xs i r.index r.epoch r.ver r.value r.req.client r.req.seq (r.key 0) (r.key 1) (r.key 2) (r.key 3) (r.key 4) (r.key 5) (r.key 6) (r.key 7) = normR ((lastP (fun x => decide (c.client = x.req.client ∧ c.seq = x.req.seq)) xs o).getD r)
  | [], _, r, o, h => by
    unfold rOfC_l0 lastP
    rw [h]; rfl
  | x :: xs, i, r, o, h => by
    unfold rOfC_l0 lastP
    by_cases h1 : c.client = x.req.client
    · rw [show (x.req.client == c.client) = true from beq_iff_eq.2 h1.symm, cond_true]
      by_cases h2 : c.seq = x.req.seq
      · rw [show (x.req.seq == c.seq) = true from beq_iff_eq.2 h2.symm, cond_true, if_pos (decide_eq_true ⟨h1, h2⟩), rOfC_l0_eq c xs (i + 1) x (some x) rfl]
        congr 1
        have : ∀ (ys : List Record) (a b : Record), (lastP (fun x => decide (c.client = x.req.client ∧ c.seq = x.req.seq)) ys (some x)).getD a = (lastP (fun x => decide (c.client = x.req.client ∧ c.seq = x.req.seq)) ys (some x)).getD b := fun ys a b => by
          have hs := lastP_some (fun x => decide (c.client = x.req.client ∧ c.seq = x.req.seq)) ys (some x)
          rw [show (some x).isSome = true from rfl, Bool.true_or] at hs
          obtain ⟨y, hy⟩ := Option.isSome_iff_exists.1 hs
          rw [hy]; rfl
        exact this xs x r
      · rw [show (x.req.seq == c.seq) = false by simpa using fun e => h2 e.symm, cond_false, if_neg (by simp [h2]), rOfC_l0_eq c xs (i + 1) r o h]
    · rw [show (x.req.client == c.client) = false by simpa using fun e => h1 e.symm, cond_false, if_neg (by simp [h1]), rOfC_l0_eq c xs (i + 1) r o h]
def lastC (c : Call) (recs : Sl Record) : Option Record := lastP (fun x => decide (c.client = x.req.client ∧ c.seq = x.req.seq)) recs.D none
theorem rOfC_eq (c : Call) (recs : Sl Record) : rOfC c recs = normR ((lastC c recs).getD zeroR) := by
  unfold rOfC lastC
  exact rOfC_l0_eq c recs.D 0 zeroR none rfl
theorem reqOf (c : Call) (recs : Sl Record) : mGet kReq (jReq c) (openB recs).req = lastC c recs := openB_req _ _
def ans (c : Call) : Bool := c.ended != 0 && c.err == 0
def cnt (c : Call) : Bool := c.write || c.mode == 0 || c.mode == 1 && c.bound == 0
theorem jAns_eq (c : Call) : jAnswered c = ans c := by unfold jAnswered ans; cases c.ended != 0 <;> rfl
theorem rAns_eq (c : Call) : rAnswered c = ans c := by unfold rAnswered ans; cases c.ended != 0 <;> rfl
theorem jCnt_eq (c : Call) : jCounts c = cnt c := by unfold jCounts cnt; cases c.write <;> cases c.mode == 0 <;> cases c.mode == 1 <;> simp
theorem rCnt_eq (c : Call) : rCounts c = cnt c := by unfold rCounts cnt; cases c.write <;> cases c.mode == 0 <;> cases c.mode == 1 <;> simp
def sel (k : List Int) (x : Call) : Bool := decide (kL x.key = k) && (cnt x && (x.write || ans x))
def opOf (recs : Sl Record) (x : Call) : Op := if x.write && !ans x then Op.mk x.write x.value ((lastC x recs).getD zeroR).ver x.began 0 else Op.mk x.write x.value x.ver x.began x.ended
def opsOf (k : List Int) (recs : Sl Record) (xs : List Call) : List Op := (xs.filter (sel k)).map (opOf recs)
theorem jOps_l0_eq (k : Nat → Int) (recs : Sl Record) : ∀ (xs : List Call) (i : Nat) (l : List Op), jOps_l0 k recs xs i l = Sl.mk (l ++ opsOf (kL k) recs xs).isEmpty (l ++ opsOf (kL k) recs xs)
  | [], _, l => by unfold jOps_l0 opsOf; simp
  | x :: xs, i, l => by
    unfold jOps_l0
    have ih := jOps_l0_eq k recs xs (i + 1)
    rw [eq8, jCnt_eq, jAns_eq, reqOf]
    unfold opsOf
    by_cases h1 : kL x.key = kL k
    · rw [decide_eq_true h1, Bool.not_true, cond_false]
      cases h2 : cnt x
      · rw [Bool.not_false, cond_true, ih, List.filter_cons_of_neg (by unfold sel; rw [h2]; simp)]; rfl
      · rw [Bool.not_true, cond_false]
        cases h3 : x.write
        · rw [Bool.not_false, cond_true]
          cases h4 : ans x
          · rw [Bool.not_false, cond_true, ih, List.filter_cons_of_neg (by unfold sel; rw [h2, h3, h4]; simp)]; rfl
          · rw [Bool.not_true, cond_false, cond_false, ih, List.filter_cons_of_pos (by unfold sel; rw [h2, h4, decide_eq_true h1]; simp), List.map_cons]
            unfold opsOf
            simp [opOf, h3]
        · rw [Bool.not_true, cond_false, cond_true]
          cases h4 : ans x
          · rw [Bool.not_false, cond_true, ih, List.filter_cons_of_pos (by unfold sel; rw [h2, h3, decide_eq_true h1]; simp), List.map_cons]
            unfold opsOf
            simp [opOf, h3, h4, zeroR]
          · rw [Bool.not_true, cond_false, ih, List.filter_cons_of_pos (by unfold sel; rw [h2, h3, decide_eq_true h1]; simp), List.map_cons]
            unfold opsOf
            simp [opOf, h3, h4]
    · rw [decide_eq_false h1, Bool.not_false, cond_true, ih, List.filter_cons_of_neg (by unfold sel; rw [decide_eq_false h1]; simp)]; rfl
theorem jOps_eq (k : Nat → Int) (calls : Sl Call) (recs : Sl Record) : jOps k calls recs = Sl.mk (opsOf (kL k) recs calls.D).isEmpty (opsOf (kL k) recs calls.D) := by
  unfold jOps; rw [jOps_l0_eq]; rfl
theorem rOps_l0_eq (k : Nat → Int) (recs : Sl Record) : ∀ (xs : List Call) (i : Nat) (l : List Op), rOps_l0 k recs xs i l = Sl.mk (l ++ opsOf (kL k) recs xs).isEmpty (l ++ opsOf (kL k) recs xs)
  | [], _, l => by unfold rOps_l0 opsOf; simp
  | x :: xs, i, l => by
    unfold rOps_l0
    have ih := rOps_l0_eq k recs xs (i + 1)
    rw [eq8, rCnt_eq, rAns_eq, rOfC_eq]
    unfold opsOf
    by_cases h1 : kL x.key = kL k
    · rw [decide_eq_true h1, Bool.not_true, cond_false]
      cases h2 : cnt x
      · rw [Bool.not_false, cond_true, ih, List.filter_cons_of_neg (by unfold sel; rw [h2]; simp)]; rfl
      · rw [Bool.not_true, cond_false]
        cases h3 : x.write
        · rw [Bool.not_false, cond_true]
          cases h4 : ans x
          · rw [Bool.not_false, cond_true, ih, List.filter_cons_of_neg (by unfold sel; rw [h2, h3, h4]; simp)]; rfl
          · rw [Bool.not_true, cond_false, ih, List.filter_cons_of_pos (by unfold sel; rw [h2, h4, decide_eq_true h1]; simp), List.map_cons]
            unfold opsOf
            simp [opOf, h3]
        · rw [Bool.not_true, cond_false]
          cases h4 : ans x
          · rw [Bool.not_false, cond_true, ih, List.filter_cons_of_pos (by unfold sel; rw [h2, h3, decide_eq_true h1]; simp), List.map_cons]
            unfold opsOf
            simp [opOf, h3, h4, normR]
          · rw [Bool.not_true, cond_false, ih, List.filter_cons_of_pos (by unfold sel; rw [h2, h3, decide_eq_true h1]; simp), List.map_cons]
            unfold opsOf
            simp [opOf, h3, h4]
    · rw [decide_eq_false h1, Bool.not_false, cond_true, ih, List.filter_cons_of_neg (by unfold sel; rw [decide_eq_false h1]; simp)]; rfl
theorem rOps_eq (k : Nat → Int) (calls : Sl Call) (recs : Sl Record) : rOps k calls recs = Sl.mk (opsOf (kL k) recs calls.D).isEmpty (opsOf (kL k) recs calls.D) := by
  unfold rOps; rw [rOps_l0_eq]; rfl
theorem opsOf_len (k : List Int) (recs : Sl Record) (xs : List Call) : (opsOf k recs xs).length ≤ xs.length := by
  unfold opsOf; rw [List.length_map]; exact List.length_filter_le _ _
theorem jOps_len {k : Nat → Int} {calls : Sl Call} {recs : Sl Record} : (jOps k calls recs).D.length ≤ calls.D.length := by rw [jOps_eq]; exact opsOf_len _ _ _
end Go.Proofs.Ytoieegmebadfkaa
namespace Go.Proofs.Ytoieegmebadfkaa
open Go.Am
def Asc (L : List (List Int)) : Prop := L.Pairwise fun a b => ll a b = true
theorem asc_ext : ∀ (L M : List (List Int)), Asc L → Asc M → (∀ x, x ∈ L ↔ x ∈ M) → L = M
  | [], [], _, _, _ => rfl
  | [], m :: M, _, _, h => by have := (h m).2 List.mem_cons_self; cases this
  | l :: L, [], _, _, h => by have := (h l).1 List.mem_cons_self; cases this
  | l :: L, m :: M, h1, h2, h => by
    have h1' := List.pairwise_cons.1 h1
    have h2' := List.pairwise_cons.1 h2
    have e : l = m := by
      rcases List.mem_cons.1 ((h l).1 List.mem_cons_self) with e | e
      · exact e
      · rcases List.mem_cons.1 ((h m).2 List.mem_cons_self) with e' | e'
        · exact e'.symm
        · have a := h2'.1 l e
          rw [ll_asym (h1'.1 m e')] at a; cases a
    subst e
    congr 1
    refine asc_ext L M h1'.2 h2'.2 fun x => ⟨fun hx => ?_, fun hx => ?_⟩
    · rcases List.mem_cons.1 ((h x).1 (List.mem_cons_of_mem _ hx)) with e | e
      · exact absurd e (ll_ne (h1'.1 x hx)).symm
      · exact e
    · rcases List.mem_cons.1 ((h x).2 (List.mem_cons_of_mem _ hx)) with e | e
      · exact absurd e (ll_ne (h2'.1 x hx)).symm
      · exact e
theorem dd_spec : ∀ (xs : List (Nat → Int)) (p : List Int), (p :: xs.map kL).Pairwise (fun a b => ll b a = false) → Asc (p :: (dd p xs).map kL) ∧ ∀ y, y ∈ p :: (dd p xs).map kL ↔ y ∈ p :: xs.map kL
  | [], p, _ => ⟨List.pairwise_cons.2 ⟨fun _ h => (by cases h), .nil⟩, fun _ => Iff.rfl⟩
  | x :: xs, p, h => by
    rw [List.map_cons] at h
    obtain ⟨g1, g2⟩ := List.pairwise_cons.1 h
    rw [dd_cons]
    by_cases e : kL x = p
    · rw [if_pos e]
      obtain ⟨i1, i2⟩ := dd_spec xs p (List.pairwise_cons.2 ⟨fun a ha => g1 a (List.mem_cons_of_mem _ ha), (List.pairwise_cons.1 g2).2⟩)
      refine ⟨i1, fun y => (i2 y).trans ?_⟩
      rw [List.map_cons, e]
      simp only [List.mem_cons]
      exact ⟨fun h => h.elim .inl fun h => .inr (.inr h), fun h => h.elim .inl fun h => h⟩
    · rw [if_neg e]
      obtain ⟨i1, i2⟩ := dd_spec xs (kL x) g2
      rw [List.map_cons]
      have hlt : ll p (kL x) = true := ll_tri (g1 (kL x) List.mem_cons_self) e
      refine ⟨List.pairwise_cons.2 ⟨fun a ha => ?_, i1⟩, fun y => ?_⟩
      · rcases List.mem_cons.1 ha with rfl | ha
        · exact hlt
        · exact ll_trans hlt ((List.pairwise_cons.1 i1).1 a ha)
      · rw [List.map_cons, List.mem_cons, i2 y, List.mem_cons (a := y) (b := p)]
theorem ddK_spec {D : List (Nat → Int)} (h : D.Pairwise fun a b => ll (kL b) (kL a) = false) : Asc ((ddK D).map kL) ∧ ∀ y, y ∈ (ddK D).map kL ↔ y ∈ D.map kL := by
  cases D with
  | nil => exact ⟨.nil, fun _ => Iff.rfl⟩
  | cons x xs =>
    have := dd_spec xs (kL x) (by rw [← List.map_cons, List.pairwise_map]; exact h)
    exact this
theorem jKeys_l0_eq : ∀ (xs : List Call) (i : Nat) (l : List (Nat → Int)), (jKeys_l0 xs i l).D = compactKeys (sortKeys (l ++ xs.map (·.key)) cmpKeys)
  | [], _, l => by
    unfold jKeys_l0
    rw [List.map_nil, List.append_nil]
  | x :: xs, i, l => by
    unfold jKeys_l0
    rw [jKeys_l0_eq xs (i + 1), List.map_cons, List.append_assoc]; rfl
theorem jKeys_D {calls : Sl Call} (hL : calls.D.length ≤ 1000000) : (jKeys calls).D = ddK (sortKeys (calls.D.map (·.key)) cmpKeys) := by
  unfold jKeys
  rw [jKeys_l0_eq, List.nil_append, compact_eq (by rw [sortKeys_len, List.length_map]; exact hL)]
theorem jKeys_spec {calls : Sl Call} (hL : calls.D.length ≤ 1000000) : Asc ((jKeys calls).D.map kL) ∧ ∀ y, y ∈ (jKeys calls).D.map kL ↔ y ∈ calls.D.map fun x => kL x.key := by
  rw [jKeys_D hL]
  obtain ⟨p1, p2⟩ := sortKeys_spec (calls.D.map (·.key))
  obtain ⟨q1, q2⟩ := ddK_spec p2
  refine ⟨q1, fun y => (q2 y).trans ?_⟩
  rw [(p1.map kL).mem_iff, List.map_map]; rfl
theorem rLess_eq {a b : Nat → Int} (ha : B8 (kL a)) (hb : B8 (kL b)) : rLess a b = ll (kL a) (kL b) := bytesLess_strOf ha hb
theorem rKeys_l1_eq (x : Call) (hx : B8 (kL x.key)) (kk : Int → Bool → Sl (Nat → Int)) : ∀ (xs : List (Nat → Int)) (i : Nat) (at_ : Int) (there : Bool), i + xs.length ≤ 1000000 → (∀ k ∈ xs, B8 (kL k)) → Asc (xs.map kL) →
    rKeys_l1 x kk xs i at_ there = kk (if xs.filter (fun k => ll (kL k) (kL x.key)) = [] then at_ else ((i + (xs.filter fun k => ll (kL k) (kL x.key)).length : Nat) : Int)) (there || xs.any fun k => decide (kL k = kL x.key))
  | [], i, at_, there, _, _, _ => by unfold rKeys_l1; simp
  | k :: xs, i, at_, there, hi, hb, hp => by
    unfold rKeys_l1
    rw [List.length_cons] at hi
    have ew : IntKind.i64.wrap ((i : Int) + 1) = ((i + 1 : Nat) : Int) := by rw [wrap_i64 (by omega) (by omega)]; omega
    have ih := fun a t => rKeys_l1_eq x hx kk xs (i + 1) a t (by omega) (fun k hk => hb k (List.mem_cons_of_mem _ hk)) (List.pairwise_cons.1 hp).2
    rw [rLess_eq (hb k List.mem_cons_self) hx, eq8, ew]
    cases h1 : ll (kL k) (kL x.key)
    · have hno : xs.filter (fun k => ll (kL k) (kL x.key)) = [] := by
        rw [List.filter_eq_nil_iff]
        intro y hy e
        have := ll_trans ((List.pairwise_cons.1 hp).1 (kL y) (List.mem_map_of_mem hy)) e
        rw [h1] at this; cases this
      rw [cond_false, ih, ih, hno, List.filter_cons_of_neg (by rw [h1]; decide), hno, List.any_cons]
      cases there <;> simp
    · rw [cond_true, ih, ih, List.filter_cons_of_pos (p := fun k => ll (kL k) (kL x.key)) h1, List.any_cons]
      have e2 : ∀ F : List (Nat → Int), (if F = [] then ((i + 1 : Nat) : Int) else ((i + 1 + F.length : Nat) : Int)) = ((i + (F.length + 1) : Nat) : Int) := fun F => by
        split
        · next h => rw [h]; rfl
        · omega
      rw [e2, if_neg (List.cons_ne_nil _ _), List.length_cons]
      cases there <;> simp
theorem asc_split (p : List Int) : ∀ (xs : List (Nat → Int)), Asc (xs.map kL) → (∀ k ∈ xs.take (xs.filter fun k => ll (kL k) p).length, ll (kL k) p = true) ∧ ∀ k ∈ xs.drop (xs.filter fun k => ll (kL k) p).length, ll (kL k) p = false
  | [], _ => ⟨fun _ h => (by simp at h), fun _ h => (by simp at h)⟩
  | x :: xs, h => by
    obtain ⟨i1, i2⟩ := asc_split p xs (List.pairwise_cons.1 h).2
    cases h1 : ll (kL x) p
    · have hno : xs.filter (fun k => ll (kL k) p) = [] := by
        rw [List.filter_eq_nil_iff]
        intro y hy e
        have := ll_trans ((List.pairwise_cons.1 h).1 (kL y) (List.mem_map_of_mem hy)) e
        rw [h1] at this; cases this
      rw [List.filter_cons_of_neg (by rw [h1]; decide), hno]
      refine ⟨fun _ h => (by simp at h), fun k hk => ?_⟩
      rcases List.mem_cons.1 (show k ∈ x :: xs from hk) with rfl | hk
      · exact h1
      · have := List.filter_eq_nil_iff.1 hno k hk
        simpa using this
    · rw [List.filter_cons_of_pos (p := fun k => ll (kL k) p) h1, List.length_cons]
      refine ⟨fun k hk => ?_, fun k hk => i2 k hk⟩
      rw [List.take_succ_cons] at hk
      rcases List.mem_cons.1 hk with rfl | hk
      · exact h1
      · exact i1 k hk
theorem rKeys_l0_eq : ∀ (xs : List Call) (i : Nat) (out : List (Nat → Int)), out.length ≤ i → i + xs.length ≤ 1000000 → (∀ k ∈ out, B8 (kL k)) → (∀ x ∈ xs, B8 (kL x.key)) → Asc (out.map kL) →
    (rKeys_l0 xs i out).nil = (rKeys_l0 xs i out).D.isEmpty ∧ (rKeys_l0 xs i out).D.length ≤ i + xs.length ∧ Asc ((rKeys_l0 xs i out).D.map kL) ∧ ∀ y, y ∈ (rKeys_l0 xs i out).D.map kL ↔ y ∈ out.map kL ∨ y ∈ xs.map fun x => kL x.key
  | [], i, out, h1, _, _, _, h5 => by
    unfold rKeys_l0
    exact ⟨rfl, h1, h5, fun y => ⟨.inl, fun h => h.elim id fun h => (by cases h)⟩⟩
  | x :: xs, i, out, h1, h2, h3, h4, h5 => by
    rw [List.length_cons] at h2
    unfold rKeys_l0
    have hx := h4 x List.mem_cons_self
    rw [rKeys_l1_eq x hx _ out 0 0 false (by omega) h3 h5, Bool.false_or]
    have e0 : (if out.filter (fun k => ll (kL k) (kL x.key)) = [] then (0 : Int) else ((0 + (out.filter fun k => ll (kL k) (kL x.key)).length : Nat) : Int)) = ((out.filter fun k => ll (kL k) (kL x.key)).length : Int) := by
      split
      · next h => rw [h]; rfl
      · rw [Nat.zero_add]
    rw [e0, Int.toNat_natCast]
    obtain ⟨s1, s2⟩ := asc_split (kL x.key) out h5
    generalize (out.filter fun k => ll (kL k) (kL x.key)).length = c at s1 s2 ⊢
    cases ha : out.any fun k => decide (kL k = kL x.key)
    · rw [Bool.not_false, cond_true]
      have hne : ∀ k ∈ out, kL k ≠ kL x.key := fun k hk e => by
        rw [List.any_eq_false] at ha
        exact ha k hk (decide_eq_true e)
      have hsplit : out.map kL = (out.take c).map kL ++ (out.drop c).map kL := by rw [← List.map_append, List.take_append_drop]
      rw [hsplit] at h5
      obtain ⟨a1, a2, a3⟩ := List.pairwise_append.1 h5
      have hasc : Asc (((out.take c ++ [x.key]) ++ out.drop c).map kL) := by
        rw [List.map_append, List.map_append, List.append_assoc]
        refine List.pairwise_append.2 ⟨a1, List.pairwise_cons.2 ⟨fun b hb => ?_, a2⟩, fun a ha b hb => ?_⟩
        · obtain ⟨k, hk, rfl⟩ := List.mem_map.1 hb
          exact ll_tri (s2 k hk) (hne k (List.mem_of_mem_drop hk))
        · rcases List.mem_cons.1 (show b ∈ kL x.key :: (out.drop c).map kL from hb) with rfl | hb
          · obtain ⟨k, hk, rfl⟩ := List.mem_map.1 ha
            exact s1 k hk
          · exact a3 a ha b hb
      obtain ⟨r1, r2, r3, r4⟩ := rKeys_l0_eq xs (i + 1) ((out.take c ++ [x.key]) ++ out.drop c) (by
          have := congrArg List.length (List.take_append_drop c out)
          simp only [List.length_append, List.length_cons, List.length_nil] at this ⊢; omega) (by omega) (fun k hk => by
          rcases List.mem_append.1 hk with hk | hk
          · rcases List.mem_append.1 hk with hk | hk
            · exact h3 k (List.mem_of_mem_take hk)
            · rw [List.mem_singleton.1 hk]; exact hx
          · exact h3 k (List.mem_of_mem_drop hk)) (fun y hy => h4 y (List.mem_cons_of_mem _ hy)) hasc
      refine ⟨r1, by rw [List.length_cons]; omega, r3, fun y => (r4 y).trans ?_⟩
      rw [hsplit, List.map_append, List.map_append, List.map_cons]
      simp only [List.mem_append, List.mem_cons, List.map_cons, List.map_nil, List.not_mem_nil, or_false]
      exact ⟨fun h => by
        rcases h with ((h | h) | h) | h
        · exact .inl (.inl h)
        · exact .inr (.inl h)
        · exact .inl (.inr h)
        · exact .inr (.inr h), fun h => by
        rcases h with (h | h) | h | h
        · exact .inl (.inl (.inl h))
        · exact .inl (.inr h)
        · exact .inl (.inl (.inr h))
        · exact .inr h⟩
    · rw [Bool.not_true, cond_false]
      obtain ⟨r1, r2, r3, r4⟩ := rKeys_l0_eq xs (i + 1) out (by omega) (by omega) h3 (fun y hy => h4 y (List.mem_cons_of_mem _ hy)) h5
      refine ⟨r1, by rw [List.length_cons]; omega, r3, fun y => (r4 y).trans ?_⟩
      obtain ⟨k, hk, e⟩ := List.any_eq_true.1 ha
      have e := of_decide_eq_true e
      rw [List.map_cons, List.mem_cons]
      refine ⟨fun h => h.elim .inl fun h => .inr (.inr h), fun h => ?_⟩
      rcases h with h | rfl | h
      · exact .inl h
      · exact .inl (e ▸ List.mem_map_of_mem hk)
      · exact .inr h
theorem rKeys_spec {calls : Sl Call} (hL : calls.D.length ≤ 1000000) (hb : ∀ x ∈ calls.D, B8 (kL x.key)) : (rKeys calls).D.length ≤ calls.D.length ∧ Asc ((rKeys calls).D.map kL) ∧ ∀ y, y ∈ (rKeys calls).D.map kL ↔ y ∈ calls.D.map fun x => kL x.key := by
  unfold rKeys
  obtain ⟨_, r2, r3, r4⟩ := rKeys_l0_eq calls.D 0 [] (Nat.le_refl _) (by omega) (fun _ h => (by cases h)) hb .nil
  exact ⟨by omega, r3, fun y => (r4 y).trans ⟨fun h => h.elim (fun h => (by cases h)) id, .inr⟩⟩
theorem keys_eq {calls : Sl Call} (hL : calls.D.length ≤ 1000000) (hb : ∀ x ∈ calls.D, B8 (kL x.key)) : (jKeys calls).D.map kL = (rKeys calls).D.map kL := by
  obtain ⟨p1, p2⟩ := jKeys_spec hL
  obtain ⟨_, q1, q2⟩ := rKeys_spec hL hb
  exact asc_ext _ _ p1 q1 fun y => (p2 y).trans (q2 y).symm
theorem ddK_len : ∀ (D : List (Nat → Int)), (ddK D).length ≤ D.length
  | [] => Nat.le_refl _
  | x :: xs => by
    have : ∀ (ys : List (Nat → Int)) (p : List Int), (dd p ys).length ≤ ys.length := fun ys => by
      induction ys with
      | nil => intro p; exact Nat.le_refl _
      | cons y ys ih =>
        intro p
        rw [dd_cons]
        split
        · rw [List.length_cons]; exact Nat.le_succ_of_le (ih _)
        · rw [List.length_cons, List.length_cons]; exact Nat.succ_le_succ (ih _)
    exact Nat.succ_le_succ (this xs (kL x))
theorem jKeys_len {calls : Sl Call} (hL : calls.D.length ≤ 1000000) : (jKeys calls).D.length ≤ calls.D.length := by
  rw [jKeys_D hL]
  refine Nat.le_trans (ddK_len _) ?_
  rw [sortKeys_len, List.length_map]; exact Nat.le_refl _
end Go.Proofs.Ytoieegmebadfkaa
namespace Go.Proofs.Ytoieegmebadfkaa
open Go.Am
structure Stand where
  value : ByteArray
  began : Int
  there : Bool
  deriving Inhabited
def kI64 : KEnc Int := ⟨fun x => .pv (.lit (.int .i64 x)), fun a b => (a == b), fun _ => rfl, fun _ => Nat.le_of_ble_eq_true rfl, fun a b => by simp only [beq_iff_eq, AV.pv.injEq, PV.lit.injEq, Value.int.injEq, true_and]⟩
theorem kI64_ok : KeyOk Try.prog 3 kI64 := KeyOk.int tabOk (r := (tab.lookup 3).get rfl) rfl rfl (f := fun x => x) (fun _ => rfl) (fun _ _ => rfl)
def vStand : VEnc Stand := ⟨fun x => .agg [.pv (.lit (.string x.value)), .pv (.lit (.int .i64 x.began)), .pv (.lit (.bool x.there))], fun _ _ => rfl⟩
def rising_l1 (x : Op) (kk : Bool) : List Op → Nat → Bool
  | [], _ => kk 
  | x1 :: x1s, i1 => (bif (x.ended == 0) then rising_l1 x kk x1s (i1 + 1)  else (bif (x1.ver == 0) then (bif x1.write then rising_l1 x kk x1s (i1 + 1)  else (bif (decide (x.ended ≥ x1.began)) then rising_l1 x kk x1s (i1 + 1)  else (bif (x1.ended == 0) then (bif (!x1.write) then rising_l1 x kk x1s (i1 + 1)  else (bif (decide (x.ver > x1.ver)) then false else rising_l1 x kk x1s (i1 + 1) )) else (bif (decide (x.ver > x1.ver)) then false else rising_l1 x kk x1s (i1 + 1) )))) else (bif (decide (x.ended ≥ x1.began)) then rising_l1 x kk x1s (i1 + 1)  else (bif (x1.ended == 0) then (bif (!x1.write) then rising_l1 x kk x1s (i1 + 1)  else (bif (decide (x.ver > x1.ver)) then false else (bif x1.write then (bif (x.ver == x1.ver) then false else rising_l1 x kk x1s (i1 + 1) ) else rising_l1 x kk x1s (i1 + 1) ))) else (bif (decide (x.ver > x1.ver)) then false else (bif x1.write then (bif (x.ver == x1.ver) then false else rising_l1 x kk x1s (i1 + 1) ) else rising_l1 x kk x1s (i1 + 1) ))))))
def rising_l0 (l : (Sl Op)) : List Op → Nat → Bool
  | [], _ => true
  | x :: xs, i => rising_l1 x (rising_l0 l xs (i + 1) ) l.D 0
def rising (l : (Sl Op)) : Bool :=
  rising_l0 l l.D 0
theorem rising_calls (l : (Sl Op)) (hl1 : l.D.length ≤ 1000000) : PCalls Try.prog 56 [sS (some l.nil) eOp l.D] (.pv (.lit (.bool (rising l)))) := by
 generalize hR : rising l = R
 refine PCalls.of_body tabOk Try.func56 rfl rfl rfl rfl rfl mixed fun E hP C hI => ?_
 refine Awp.consP C ?_
 refine rvP C (.pv (.lit (.bool false))) ?_
 refine rvc_nil ?_
 refine Awp.seq ?_
 refine Awp.consP C ?_
 refine rvP C (sS (some l.nil) eOp l.D) ?_
 refine rvP C (.pv (.lit (.int .i64 (l.D.length : Int)))) ?_
 refine rvP C (.pv (.lit (.int .i64 0))) ?_
 refine rvc_nil ?_
 refine Awp.block ?_
 refine Awp.forR (σ := Unit) (l.D.length) (fun i _v => [(0, sS (some l.nil) eOp l.D), (7, sS (some l.nil) eOp l.D), (8, .pv (.lit (.int .i64 (l.D.length : Int)))), (9, .pv (.lit (.int .i64 (i : Int))))]) (fun i _v => []) [] (fun i _v => rising_l0 l (l.D.drop i) i  = R) () ?_ ?_ (fun i _v h1 hR => ?_)
 · exact hR
 · exact ⟨fun b => b, WeakerR.ofL (Ks := []) hI ⟨⟨rfl, rfl⟩, ⟨rfl, rfl⟩, ⟨rfl, rfl⟩, ⟨rfl, rfl⟩, trivial⟩ (okH_nil) rfl⟩
 refine Awp.consP C ?_
 refine rvP C (.pv (.lit (.bool (decide ((i : Int) < (l.D.length : Int)))))) ?_
 refine rvc_nil ?_
 refine Awp.seq ?_
 refine Awp.cond (b := (decide ((i : Int) < (l.D.length : Int)))) rfl (fun h2 => ?_) (fun h2 => ?_)
 ·
  have h3 : i < l.D.length := by have := of_decide_eq_true h2; omega
  obtain ⟨x, h4⟩ := getX h3
  rw [drop_at h4] at hR
  refine Awp.skip ?_
  refine Awp.seq ?_
  refine Awp.block ?_
  refine Awp.consP C ?_
  refine rvc_un (rexec_idxS C rfl rfl rfl rfl rfl rfl x (Int.natCast_nonneg _) h4 ?_)
  refine rvP C (.agg [.pv (.lit (.bool x.write)), .pv (.lit (.string x.value)), .pv (.lit (.int .i64 x.ver)), .pv (.lit (.int .i64 x.began)), .pv (.lit (.int .i64 x.ended))]) ?_
  refine rvc_un (rexec_prim C (δ := { v := .ptr 4 0, new := [(4, .cells [.pv (.lit (.bool false)), .pv (.lit (.string ⟨#[]⟩)), .pv (.lit (.int .i64 0)), .pv (.lit (.int .i64 0)), .pv (.lit (.int .i64 0))])] }) rfl rfl rfl rfl trivial rfl ?_)
  refine rvc_un (rexec_prim C (δ := { v := .undef, wr := [(4, some (.cells [.pv (.lit (.bool x.write)), .pv (.lit (.string x.value)), .pv (.lit (.int .i64 x.ver)), .pv (.lit (.int .i64 x.began)), .pv (.lit (.int .i64 x.ended))]))] }) rfl rfl rfl rfl trivial rfl ?_)
  refine rvc_nil ?_
  refine Awp.consP C ?_
  refine rvP C (sS (some l.nil) eOp l.D) ?_
  refine rvP C (.pv (.lit (.int .i64 (l.D.length : Int)))) ?_
  refine rvP C (.pv (.lit (.int .i64 0))) ?_
  refine rvc_nil ?_
  refine Awp.block ?_
  refine Awp.forR (σ := Unit) (l.D.length) (fun i1 _v => [(0, sS (some l.nil) eOp l.D), (4, .ptr 4 0), (7, sS (some l.nil) eOp l.D), (8, .pv (.lit (.int .i64 (l.D.length : Int)))), (9, .pv (.lit (.int .i64 (i : Int)))), (13, sS (some l.nil) eOp l.D), (14, .pv (.lit (.int .i64 (l.D.length : Int)))), (15, .pv (.lit (.int .i64 (i1 : Int))))]) (fun i1 _v => [(4, .cells [.pv (.lit (.bool x.write)), .pv (.lit (.string x.value)), .pv (.lit (.int .i64 x.ver)), .pv (.lit (.int .i64 x.began)), .pv (.lit (.int .i64 x.ended))])]) [4] (fun i1 _v => rising_l1 x (rising_l0 l (l.D.drop (i + 1)) (i + 1) ) (l.D.drop i1) i1  = R) () ?_ ?_ (fun i1 _v h5 hR => ?_)
  · exact hR
  · exact ⟨fun b => b, WeakerR.ofL (Ks := [4]) hI ⟨⟨rfl, rfl⟩, ⟨rfl, rfl⟩, ⟨rfl, rfl⟩, ⟨rfl, rfl⟩, ⟨rfl, rfl⟩, ⟨rfl, rfl⟩, ⟨rfl, rfl⟩, ⟨rfl, rfl⟩, trivial⟩ (okH_cons rfl rfl rfl rfl (okH_nil)) rfl⟩
  refine Awp.consP C ?_
  refine rvP C (.pv (.lit (.bool (decide ((i1 : Int) < (l.D.length : Int)))))) ?_
  refine rvc_nil ?_
  refine Awp.seq ?_
  refine Awp.cond (b := (decide ((i1 : Int) < (l.D.length : Int)))) rfl (fun h6 => ?_) (fun h6 => ?_)
  ·
   have h7 : i1 < l.D.length := by have := of_decide_eq_true h6; omega
   obtain ⟨x1, h8⟩ := getX h7
   rw [drop_at h8] at hR
   refine Awp.skip ?_
   refine Awp.seq ?_
   refine Awp.block ?_
   refine Awp.consP C ?_
   refine rvc_un (rexec_idxS C rfl rfl rfl rfl rfl rfl x1 (Int.natCast_nonneg _) h8 ?_)
   refine rvP C (.agg [.pv (.lit (.bool x1.write)), .pv (.lit (.string x1.value)), .pv (.lit (.int .i64 x1.ver)), .pv (.lit (.int .i64 x1.began)), .pv (.lit (.int .i64 x1.ended))]) ?_
   refine rvc_un (rexec_prim C (δ := { v := .ptr 6 0, new := [(6, .cells [.pv (.lit (.bool false)), .pv (.lit (.string ⟨#[]⟩)), .pv (.lit (.int .i64 0)), .pv (.lit (.int .i64 0)), .pv (.lit (.int .i64 0))])] }) rfl rfl rfl rfl trivial rfl ?_)
   refine rvc_un (rexec_prim C (δ := { v := .undef, wr := [(6, some (.cells [.pv (.lit (.bool x1.write)), .pv (.lit (.string x1.value)), .pv (.lit (.int .i64 x1.ver)), .pv (.lit (.int .i64 x1.began)), .pv (.lit (.int .i64 x1.ended))]))] }) rfl rfl rfl rfl trivial rfl ?_)
   refine rvc_nil ?_
   refine Awp.seq ?_
   refine Awp.consP C ?_
   refine rvP C (.ptr 4 4) ?_
   refine rvP C (.pv (.lit (.int .i64 x.ended))) ?_
   refine rvP C (.pv (.lit (.bool (x.ended == 0)))) ?_
   refine rvP C (.pv (.lit (.bool (x.ended == 0)))) ?_
   refine rvc_case 22 (x.ended == 0) rfl (fun h9 => ?_) (fun h9 => ?_)
   ·
    replace hR := of_true h9 hR
    refine rvS ?_
    refine rvS ?_
    refine rvS ?_
    refine rvS ?_
    refine rvc_shutU rfl rfl rfl ?_
    refine rvc_shutU rfl rfl rfl ?_
    refine rvS ?_
    refine rvP C (.pv (.lit (.bool true))) ?_
    refine rvP C (.pv (.lit (.bool true))) ?_
    refine rvS ?_
    refine rvS ?_
    refine rvS ?_
    refine rvS ?_
    refine rvS ?_
    refine rvP C (.pv (.lit (.bool true))) ?_
    refine rvP C (.pv (.lit (.bool true))) ?_
    refine rvS ?_
    refine rvS ?_
    refine rvS ?_
    refine rvS ?_
    refine rvc_shutU rfl rfl rfl ?_
    refine rvc_shutU rfl rfl rfl ?_
    refine rvc_shutU rfl rfl rfl ?_
    refine rvS ?_
    refine rvP C (.pv (.lit (.bool true))) ?_
    refine rvc_nil ?_
    refine Awp.condT (b := true) rfl rfl ?_
    refine Awp.exit ?_
    refine Awp.regionP C ?_
    refine rvP C (.pv (.lit (.int .i64 (IntKind.i64.wrap ((i1 : Int) + 1))))) ?_
    refine rvP C (.pv (.lit (.int .i64 (IntKind.i64.wrap ((i1 : Int) + 1))))) ?_
    refine rvc_nil ?_
    refine ⟨h7, (), ?_, ?_⟩
    · exact hR
    · exact ⟨fun b => b, WeakerR.ofL (Ks := [4]) hI ⟨⟨rfl, rfl⟩, ⟨rfl, rfl⟩, ⟨rfl, rfl⟩, ⟨rfl, rfl⟩, ⟨rfl, rfl⟩, ⟨rfl, rfl⟩, ⟨rfl, rfl⟩, ⟨lit_cast (wrap_i64 (by omega) (by omega)), rfl⟩, trivial⟩ (okH_cons rfl rfl rfl rfl (okH_nil)) rfl⟩
   ·
    replace hR := of_false h9 hR
    refine rvO C (.ptr 6 2) ?_
    refine rvO C (.pv (.lit (.int .i64 x1.ver))) ?_
    refine rvO C (.pv (.lit (.bool (x1.ver == 0)))) ?_
    refine rvO C (.pv (.lit (.bool (x1.ver == 0)))) ?_
    refine rvc_case 26 (x1.ver == 0) rfl (fun h10 => ?_) (fun h10 => ?_)
    ·
     replace hR := of_true h10 hR
     refine rvO C (.ptr 6 0) ?_
     refine rvO C (.pv (.lit (.bool x1.write))) ?_
     refine rvO C (.pv (.lit (.bool x1.write))) ?_
     refine rvP C (.pv (.lit (.bool x1.write))) ?_
     refine rvP C (.pv (.lit (.bool x1.write))) ?_
     refine rvc_case 31 x1.write rfl (fun h11 => ?_) (fun h11 => ?_)
     ·
      replace hR := of_true h11 hR
      refine rvS ?_
      refine rvS ?_
      refine rvS ?_
      refine rvS ?_
      refine rvS ?_
      refine rvP C (.pv (.lit (.bool true))) ?_
      refine rvP C (.pv (.lit (.bool true))) ?_
      refine rvS ?_
      refine rvS ?_
      refine rvS ?_
      refine rvS ?_
      refine rvc_shutU rfl rfl rfl ?_
      refine rvc_shutU rfl rfl rfl ?_
      refine rvc_shutU rfl rfl rfl ?_
      refine rvS ?_
      refine rvP C (.pv (.lit (.bool true))) ?_
      refine rvc_nil ?_
      refine Awp.condT (b := true) rfl rfl ?_
      refine Awp.exit ?_
      refine Awp.regionP C ?_
      refine rvP C (.pv (.lit (.int .i64 (IntKind.i64.wrap ((i1 : Int) + 1))))) ?_
      refine rvP C (.pv (.lit (.int .i64 (IntKind.i64.wrap ((i1 : Int) + 1))))) ?_
      refine rvc_nil ?_
      refine ⟨h7, (), ?_, ?_⟩
      · exact hR
      · exact ⟨fun b => b, WeakerR.ofL (Ks := [4]) hI ⟨⟨rfl, rfl⟩, ⟨rfl, rfl⟩, ⟨rfl, rfl⟩, ⟨rfl, rfl⟩, ⟨rfl, rfl⟩, ⟨rfl, rfl⟩, ⟨rfl, rfl⟩, ⟨lit_cast (wrap_i64 (by omega) (by omega)), rfl⟩, trivial⟩ (okH_cons rfl rfl rfl rfl (okH_nil)) rfl⟩
     ·
      replace hR := of_false h11 hR
      refine rvO C (.ptr 4 4) ?_
      refine rvO C (.pv (.lit (.int .i64 x.ended))) ?_
      refine rvO C (.ptr 6 3) ?_
      refine rvO C (.pv (.lit (.int .i64 x1.began))) ?_
      refine rvO C (.pv (.lit (.bool (decide (x.ended ≥ x1.began))))) ?_
      refine rvP C (.pv (.lit (.bool (decide (x.ended ≥ x1.began))))) ?_
      refine rvP C (.pv (.lit (.bool (decide (x.ended ≥ x1.began))))) ?_
      refine rvc_case 38 (decide (x.ended ≥ x1.began)) rfl (fun h12 => ?_) (fun h12 => ?_)
      ·
       replace hR := of_true h12 hR
       refine rvS ?_
       refine rvS ?_
       refine rvS ?_
       refine rvS ?_
       refine rvc_shutU rfl rfl rfl ?_
       refine rvc_shutU rfl rfl rfl ?_
       refine rvc_shutU rfl rfl rfl ?_
       refine rvS ?_
       refine rvP C (.pv (.lit (.bool true))) ?_
       refine rvc_nil ?_
       refine Awp.condT (b := true) rfl rfl ?_
       refine Awp.exit ?_
       refine Awp.regionP C ?_
       refine rvP C (.pv (.lit (.int .i64 (IntKind.i64.wrap ((i1 : Int) + 1))))) ?_
       refine rvP C (.pv (.lit (.int .i64 (IntKind.i64.wrap ((i1 : Int) + 1))))) ?_
       refine rvc_nil ?_
       refine ⟨h7, (), ?_, ?_⟩
       · exact hR
       · exact ⟨fun b => b, WeakerR.ofL (Ks := [4]) hI ⟨⟨rfl, rfl⟩, ⟨rfl, rfl⟩, ⟨rfl, rfl⟩, ⟨rfl, rfl⟩, ⟨rfl, rfl⟩, ⟨rfl, rfl⟩, ⟨rfl, rfl⟩, ⟨lit_cast (wrap_i64 (by omega) (by omega)), rfl⟩, trivial⟩ (okH_cons rfl rfl rfl rfl (okH_nil)) rfl⟩
      ·
       replace hR := of_false h12 hR
       refine rvO C (.ptr 6 4) ?_
       refine rvO C (.pv (.lit (.int .i64 x1.ended))) ?_
       refine rvO C (.pv (.lit (.bool (x1.ended == 0)))) ?_
       refine rvO C (.pv (.lit (.bool (x1.ended == 0)))) ?_
       refine rvc_case 42 (x1.ended == 0) rfl (fun h13 => ?_) (fun h13 => ?_)
       ·
        replace hR := of_true h13 hR
        refine rvO C (.ptr 6 0) ?_
        refine rvO C (.pv (.lit (.bool x1.write))) ?_
        refine rvO C (.pv (.lit (.bool (!x1.write)))) ?_
        refine rvO C (.pv (.lit (.bool (!x1.write)))) ?_
        refine rvP C (.pv (.lit (.bool (!x1.write)))) ?_
        refine rvc_nil ?_
        refine Awp.cond (b := (!x1.write)) rfl (fun h14 => ?_) (fun h14 => ?_)
        ·
         replace hR := of_true h14 hR
         refine Awp.exit ?_
         refine Awp.regionP C ?_
         refine rvP C (.pv (.lit (.int .i64 (IntKind.i64.wrap ((i1 : Int) + 1))))) ?_
         refine rvP C (.pv (.lit (.int .i64 (IntKind.i64.wrap ((i1 : Int) + 1))))) ?_
         refine rvc_nil ?_
         refine ⟨h7, (), ?_, ?_⟩
         · exact hR
         · exact ⟨fun b => b, WeakerR.ofL (Ks := [4]) hI ⟨⟨rfl, rfl⟩, ⟨rfl, rfl⟩, ⟨rfl, rfl⟩, ⟨rfl, rfl⟩, ⟨rfl, rfl⟩, ⟨rfl, rfl⟩, ⟨rfl, rfl⟩, ⟨lit_cast (wrap_i64 (by omega) (by omega)), rfl⟩, trivial⟩ (okH_cons rfl rfl rfl rfl (okH_nil)) rfl⟩
        ·
         replace hR := of_false h14 hR
         refine Awp.skip ?_
         refine Awp.consP C ?_
         refine rvP C (.ptr 4 2) ?_
         refine rvP C (.pv (.lit (.int .i64 x.ver))) ?_
         refine rvP C (.ptr 6 2) ?_
         refine rvP C (.pv (.lit (.int .i64 x1.ver))) ?_
         refine rvP C (.pv (.lit (.bool (decide (x.ver > x1.ver))))) ?_
         refine rvP C (.pv (.lit (.bool (decide (x.ver > x1.ver))))) ?_
         refine rvc_case 53 (decide (x.ver > x1.ver)) rfl (fun h15 => ?_) (fun h15 => ?_)
         ·
          replace hR := of_true h15 hR
          refine rvS ?_
          refine rvS ?_
          refine rvS ?_
          refine rvc_shutU rfl rfl rfl ?_
          refine rvc_shutU rfl rfl rfl ?_
          refine rvc_shutU rfl rfl rfl ?_
          refine rvc_shutU rfl rfl rfl ?_
          refine rvc_shutU rfl rfl rfl ?_
          refine rvS ?_
          refine rvP C (.pv (.lit (.bool true))) ?_
          refine rvc_nil ?_
          refine Awp.condT (b := true) rfl rfl ?_
          refine Awp.consP C ?_
          refine rvP C (.pv (.lit (.bool false))) ?_
          refine rvc_nil ?_
          refine Awp.ret ?_
          subst hR
          exact ⟨.inl rfl, rfl⟩
         ·
          replace hR := of_false h15 hR
          refine rvO C (.ptr 6 0) ?_
          refine rvO C (.pv (.lit (.bool x1.write))) ?_
          refine rvO C (.pv (.lit (.bool x1.write))) ?_
          refine rvc_known 56 x1.write false rfl h11 ?_
          refine rvS ?_
          refine rvS ?_
          refine rvS ?_
          refine rvS ?_
          refine rvS ?_
          refine rvO C (.pv (.lit (.bool false))) ?_
          refine rvP C (.pv (.lit (.bool false))) ?_
          refine rvc_nil ?_
          refine Awp.condF (b := false) rfl rfl ?_
          refine Awp.skip ?_
          refine Awp.regionP C ?_
          refine rvP C (.pv (.lit (.int .i64 (IntKind.i64.wrap ((i1 : Int) + 1))))) ?_
          refine rvP C (.pv (.lit (.int .i64 (IntKind.i64.wrap ((i1 : Int) + 1))))) ?_
          refine rvc_nil ?_
          refine ⟨h7, (), ?_, ?_⟩
          · exact hR
          · exact ⟨fun b => b, WeakerR.ofL (Ks := [4]) hI ⟨⟨rfl, rfl⟩, ⟨rfl, rfl⟩, ⟨rfl, rfl⟩, ⟨rfl, rfl⟩, ⟨rfl, rfl⟩, ⟨rfl, rfl⟩, ⟨rfl, rfl⟩, ⟨lit_cast (wrap_i64 (by omega) (by omega)), rfl⟩, trivial⟩ (okH_cons rfl rfl rfl rfl (okH_nil)) rfl⟩
       ·
        replace hR := of_false h13 hR
        refine rvS ?_
        refine rvS ?_
        refine rvS ?_
        refine rvO C (.pv (.lit (.bool false))) ?_
        refine rvP C (.pv (.lit (.bool false))) ?_
        refine rvc_nil ?_
        refine Awp.condF (b := false) rfl rfl ?_
        refine Awp.skip ?_
        refine Awp.consP C ?_
        refine rvP C (.ptr 4 2) ?_
        refine rvP C (.pv (.lit (.int .i64 x.ver))) ?_
        refine rvP C (.ptr 6 2) ?_
        refine rvP C (.pv (.lit (.int .i64 x1.ver))) ?_
        refine rvP C (.pv (.lit (.bool (decide (x.ver > x1.ver))))) ?_
        refine rvP C (.pv (.lit (.bool (decide (x.ver > x1.ver))))) ?_
        refine rvc_case 53 (decide (x.ver > x1.ver)) rfl (fun h16 => ?_) (fun h16 => ?_)
        ·
         replace hR := of_true h16 hR
         refine rvS ?_
         refine rvS ?_
         refine rvS ?_
         refine rvc_shutU rfl rfl rfl ?_
         refine rvc_shutU rfl rfl rfl ?_
         refine rvc_shutU rfl rfl rfl ?_
         refine rvc_shutU rfl rfl rfl ?_
         refine rvc_shutU rfl rfl rfl ?_
         refine rvS ?_
         refine rvP C (.pv (.lit (.bool true))) ?_
         refine rvc_nil ?_
         refine Awp.condT (b := true) rfl rfl ?_
         refine Awp.consP C ?_
         refine rvP C (.pv (.lit (.bool false))) ?_
         refine rvc_nil ?_
         refine Awp.ret ?_
         subst hR
         exact ⟨.inl rfl, rfl⟩
        ·
         replace hR := of_false h16 hR
         refine rvO C (.ptr 6 0) ?_
         refine rvO C (.pv (.lit (.bool x1.write))) ?_
         refine rvO C (.pv (.lit (.bool x1.write))) ?_
         refine rvc_known 56 x1.write false rfl h11 ?_
         refine rvS ?_
         refine rvS ?_
         refine rvS ?_
         refine rvS ?_
         refine rvS ?_
         refine rvO C (.pv (.lit (.bool false))) ?_
         refine rvP C (.pv (.lit (.bool false))) ?_
         refine rvc_nil ?_
         refine Awp.condF (b := false) rfl rfl ?_
         refine Awp.skip ?_
         refine Awp.regionP C ?_
         refine rvP C (.pv (.lit (.int .i64 (IntKind.i64.wrap ((i1 : Int) + 1))))) ?_
         refine rvP C (.pv (.lit (.int .i64 (IntKind.i64.wrap ((i1 : Int) + 1))))) ?_
         refine rvc_nil ?_
         refine ⟨h7, (), ?_, ?_⟩
         · exact hR
         · exact ⟨fun b => b, WeakerR.ofL (Ks := [4]) hI ⟨⟨rfl, rfl⟩, ⟨rfl, rfl⟩, ⟨rfl, rfl⟩, ⟨rfl, rfl⟩, ⟨rfl, rfl⟩, ⟨rfl, rfl⟩, ⟨rfl, rfl⟩, ⟨lit_cast (wrap_i64 (by omega) (by omega)), rfl⟩, trivial⟩ (okH_cons rfl rfl rfl rfl (okH_nil)) rfl⟩
    ·
     replace hR := of_false h10 hR
     refine rvS ?_
     refine rvS ?_
     refine rvO C (.pv (.lit (.bool false))) ?_
     refine rvP C (.pv (.lit (.bool false))) ?_
     refine rvP C (.pv (.lit (.bool false))) ?_
     refine rvO C (.ptr 4 4) ?_
     refine rvO C (.pv (.lit (.int .i64 x.ended))) ?_
     refine rvO C (.ptr 6 3) ?_
     refine rvO C (.pv (.lit (.int .i64 x1.began))) ?_
     refine rvO C (.pv (.lit (.bool (decide (x.ended ≥ x1.began))))) ?_
     refine rvP C (.pv (.lit (.bool (decide (x.ended ≥ x1.began))))) ?_
     refine rvP C (.pv (.lit (.bool (decide (x.ended ≥ x1.began))))) ?_
     refine rvc_case 38 (decide (x.ended ≥ x1.began)) rfl (fun h17 => ?_) (fun h17 => ?_)
     ·
      replace hR := of_true h17 hR
      refine rvS ?_
      refine rvS ?_
      refine rvS ?_
      refine rvS ?_
      refine rvc_shutU rfl rfl rfl ?_
      refine rvc_shutU rfl rfl rfl ?_
      refine rvc_shutU rfl rfl rfl ?_
      refine rvS ?_
      refine rvP C (.pv (.lit (.bool true))) ?_
      refine rvc_nil ?_
      refine Awp.condT (b := true) rfl rfl ?_
      refine Awp.exit ?_
      refine Awp.regionP C ?_
      refine rvP C (.pv (.lit (.int .i64 (IntKind.i64.wrap ((i1 : Int) + 1))))) ?_
      refine rvP C (.pv (.lit (.int .i64 (IntKind.i64.wrap ((i1 : Int) + 1))))) ?_
      refine rvc_nil ?_
      refine ⟨h7, (), ?_, ?_⟩
      · exact hR
      · exact ⟨fun b => b, WeakerR.ofL (Ks := [4]) hI ⟨⟨rfl, rfl⟩, ⟨rfl, rfl⟩, ⟨rfl, rfl⟩, ⟨rfl, rfl⟩, ⟨rfl, rfl⟩, ⟨rfl, rfl⟩, ⟨rfl, rfl⟩, ⟨lit_cast (wrap_i64 (by omega) (by omega)), rfl⟩, trivial⟩ (okH_cons rfl rfl rfl rfl (okH_nil)) rfl⟩
     ·
      replace hR := of_false h17 hR
      refine rvO C (.ptr 6 4) ?_
      refine rvO C (.pv (.lit (.int .i64 x1.ended))) ?_
      refine rvO C (.pv (.lit (.bool (x1.ended == 0)))) ?_
      refine rvO C (.pv (.lit (.bool (x1.ended == 0)))) ?_
      refine rvc_case 42 (x1.ended == 0) rfl (fun h18 => ?_) (fun h18 => ?_)
      ·
       replace hR := of_true h18 hR
       refine rvO C (.ptr 6 0) ?_
       refine rvO C (.pv (.lit (.bool x1.write))) ?_
       refine rvO C (.pv (.lit (.bool (!x1.write)))) ?_
       refine rvO C (.pv (.lit (.bool (!x1.write)))) ?_
       refine rvP C (.pv (.lit (.bool (!x1.write)))) ?_
       refine rvc_nil ?_
       refine Awp.cond (b := (!x1.write)) rfl (fun h19 => ?_) (fun h19 => ?_)
       ·
        replace hR := of_true h19 hR
        refine Awp.exit ?_
        refine Awp.regionP C ?_
        refine rvP C (.pv (.lit (.int .i64 (IntKind.i64.wrap ((i1 : Int) + 1))))) ?_
        refine rvP C (.pv (.lit (.int .i64 (IntKind.i64.wrap ((i1 : Int) + 1))))) ?_
        refine rvc_nil ?_
        refine ⟨h7, (), ?_, ?_⟩
        · exact hR
        · exact ⟨fun b => b, WeakerR.ofL (Ks := [4]) hI ⟨⟨rfl, rfl⟩, ⟨rfl, rfl⟩, ⟨rfl, rfl⟩, ⟨rfl, rfl⟩, ⟨rfl, rfl⟩, ⟨rfl, rfl⟩, ⟨rfl, rfl⟩, ⟨lit_cast (wrap_i64 (by omega) (by omega)), rfl⟩, trivial⟩ (okH_cons rfl rfl rfl rfl (okH_nil)) rfl⟩
       ·
        replace hR := of_false h19 hR
        refine Awp.skip ?_
        refine Awp.consP C ?_
        refine rvP C (.ptr 4 2) ?_
        refine rvP C (.pv (.lit (.int .i64 x.ver))) ?_
        refine rvP C (.ptr 6 2) ?_
        refine rvP C (.pv (.lit (.int .i64 x1.ver))) ?_
        refine rvP C (.pv (.lit (.bool (decide (x.ver > x1.ver))))) ?_
        refine rvP C (.pv (.lit (.bool (decide (x.ver > x1.ver))))) ?_
        refine rvc_case 53 (decide (x.ver > x1.ver)) rfl (fun h20 => ?_) (fun h20 => ?_)
        ·
         replace hR := of_true h20 hR
         refine rvS ?_
         refine rvS ?_
         refine rvS ?_
         refine rvc_shutU rfl rfl rfl ?_
         refine rvc_shutU rfl rfl rfl ?_
         refine rvc_shutU rfl rfl rfl ?_
         refine rvc_shutU rfl rfl rfl ?_
         refine rvc_shutU rfl rfl rfl ?_
         refine rvS ?_
         refine rvP C (.pv (.lit (.bool true))) ?_
         refine rvc_nil ?_
         refine Awp.condT (b := true) rfl rfl ?_
         refine Awp.consP C ?_
         refine rvP C (.pv (.lit (.bool false))) ?_
         refine rvc_nil ?_
         refine Awp.ret ?_
         subst hR
         exact ⟨.inl rfl, rfl⟩
        ·
         replace hR := of_false h20 hR
         refine rvO C (.ptr 6 0) ?_
         refine rvO C (.pv (.lit (.bool x1.write))) ?_
         refine rvO C (.pv (.lit (.bool x1.write))) ?_
         refine rvc_case 56 x1.write rfl (fun h21 => ?_) (fun h21 => ?_)
         ·
          replace hR := of_true h21 hR
          refine rvO C (.ptr 4 2) ?_
          refine rvO C (.pv (.lit (.int .i64 x.ver))) ?_
          refine rvO C (.ptr 6 2) ?_
          refine rvO C (.pv (.lit (.int .i64 x1.ver))) ?_
          refine rvO C (.pv (.lit (.bool (x.ver == x1.ver)))) ?_
          refine rvO C (.pv (.lit (.bool (x.ver == x1.ver)))) ?_
          refine rvP C (.pv (.lit (.bool (x.ver == x1.ver)))) ?_
          refine rvc_nil ?_
          refine Awp.cond (b := (x.ver == x1.ver)) rfl (fun h22 => ?_) (fun h22 => ?_)
          ·
           replace hR := of_true h22 hR
           refine Awp.consP C ?_
           refine rvP C (.pv (.lit (.bool false))) ?_
           refine rvc_nil ?_
           refine Awp.ret ?_
           subst hR
           exact ⟨.inl rfl, rfl⟩
          ·
           replace hR := of_false h22 hR
           refine Awp.skip ?_
           refine Awp.regionP C ?_
           refine rvP C (.pv (.lit (.int .i64 (IntKind.i64.wrap ((i1 : Int) + 1))))) ?_
           refine rvP C (.pv (.lit (.int .i64 (IntKind.i64.wrap ((i1 : Int) + 1))))) ?_
           refine rvc_nil ?_
           refine ⟨h7, (), ?_, ?_⟩
           · exact hR
           · exact ⟨fun b => b, WeakerR.ofL (Ks := [4]) hI ⟨⟨rfl, rfl⟩, ⟨rfl, rfl⟩, ⟨rfl, rfl⟩, ⟨rfl, rfl⟩, ⟨rfl, rfl⟩, ⟨rfl, rfl⟩, ⟨rfl, rfl⟩, ⟨lit_cast (wrap_i64 (by omega) (by omega)), rfl⟩, trivial⟩ (okH_cons rfl rfl rfl rfl (okH_nil)) rfl⟩
         ·
          replace hR := of_false h21 hR
          refine rvS ?_
          refine rvS ?_
          refine rvS ?_
          refine rvS ?_
          refine rvS ?_
          refine rvO C (.pv (.lit (.bool false))) ?_
          refine rvP C (.pv (.lit (.bool false))) ?_
          refine rvc_nil ?_
          refine Awp.condF (b := false) rfl rfl ?_
          refine Awp.skip ?_
          refine Awp.regionP C ?_
          refine rvP C (.pv (.lit (.int .i64 (IntKind.i64.wrap ((i1 : Int) + 1))))) ?_
          refine rvP C (.pv (.lit (.int .i64 (IntKind.i64.wrap ((i1 : Int) + 1))))) ?_
          refine rvc_nil ?_
          refine ⟨h7, (), ?_, ?_⟩
          · exact hR
          · exact ⟨fun b => b, WeakerR.ofL (Ks := [4]) hI ⟨⟨rfl, rfl⟩, ⟨rfl, rfl⟩, ⟨rfl, rfl⟩, ⟨rfl, rfl⟩, ⟨rfl, rfl⟩, ⟨rfl, rfl⟩, ⟨rfl, rfl⟩, ⟨lit_cast (wrap_i64 (by omega) (by omega)), rfl⟩, trivial⟩ (okH_cons rfl rfl rfl rfl (okH_nil)) rfl⟩
      ·
       replace hR := of_false h18 hR
       refine rvS ?_
       refine rvS ?_
       refine rvS ?_
       refine rvO C (.pv (.lit (.bool false))) ?_
       refine rvP C (.pv (.lit (.bool false))) ?_
       refine rvc_nil ?_
       refine Awp.condF (b := false) rfl rfl ?_
       refine Awp.skip ?_
       refine Awp.consP C ?_
       refine rvP C (.ptr 4 2) ?_
       refine rvP C (.pv (.lit (.int .i64 x.ver))) ?_
       refine rvP C (.ptr 6 2) ?_
       refine rvP C (.pv (.lit (.int .i64 x1.ver))) ?_
       refine rvP C (.pv (.lit (.bool (decide (x.ver > x1.ver))))) ?_
       refine rvP C (.pv (.lit (.bool (decide (x.ver > x1.ver))))) ?_
       refine rvc_case 53 (decide (x.ver > x1.ver)) rfl (fun h23 => ?_) (fun h23 => ?_)
       ·
        replace hR := of_true h23 hR
        refine rvS ?_
        refine rvS ?_
        refine rvS ?_
        refine rvc_shutU rfl rfl rfl ?_
        refine rvc_shutU rfl rfl rfl ?_
        refine rvc_shutU rfl rfl rfl ?_
        refine rvc_shutU rfl rfl rfl ?_
        refine rvc_shutU rfl rfl rfl ?_
        refine rvS ?_
        refine rvP C (.pv (.lit (.bool true))) ?_
        refine rvc_nil ?_
        refine Awp.condT (b := true) rfl rfl ?_
        refine Awp.consP C ?_
        refine rvP C (.pv (.lit (.bool false))) ?_
        refine rvc_nil ?_
        refine Awp.ret ?_
        subst hR
        exact ⟨.inl rfl, rfl⟩
       ·
        replace hR := of_false h23 hR
        refine rvO C (.ptr 6 0) ?_
        refine rvO C (.pv (.lit (.bool x1.write))) ?_
        refine rvO C (.pv (.lit (.bool x1.write))) ?_
        refine rvc_case 56 x1.write rfl (fun h24 => ?_) (fun h24 => ?_)
        ·
         replace hR := of_true h24 hR
         refine rvO C (.ptr 4 2) ?_
         refine rvO C (.pv (.lit (.int .i64 x.ver))) ?_
         refine rvO C (.ptr 6 2) ?_
         refine rvO C (.pv (.lit (.int .i64 x1.ver))) ?_
         refine rvO C (.pv (.lit (.bool (x.ver == x1.ver)))) ?_
         refine rvO C (.pv (.lit (.bool (x.ver == x1.ver)))) ?_
         refine rvP C (.pv (.lit (.bool (x.ver == x1.ver)))) ?_
         refine rvc_nil ?_
         refine Awp.cond (b := (x.ver == x1.ver)) rfl (fun h25 => ?_) (fun h25 => ?_)
         ·
          replace hR := of_true h25 hR
          refine Awp.consP C ?_
          refine rvP C (.pv (.lit (.bool false))) ?_
          refine rvc_nil ?_
          refine Awp.ret ?_
          subst hR
          exact ⟨.inl rfl, rfl⟩
         ·
          replace hR := of_false h25 hR
          refine Awp.skip ?_
          refine Awp.regionP C ?_
          refine rvP C (.pv (.lit (.int .i64 (IntKind.i64.wrap ((i1 : Int) + 1))))) ?_
          refine rvP C (.pv (.lit (.int .i64 (IntKind.i64.wrap ((i1 : Int) + 1))))) ?_
          refine rvc_nil ?_
          refine ⟨h7, (), ?_, ?_⟩
          · exact hR
          · exact ⟨fun b => b, WeakerR.ofL (Ks := [4]) hI ⟨⟨rfl, rfl⟩, ⟨rfl, rfl⟩, ⟨rfl, rfl⟩, ⟨rfl, rfl⟩, ⟨rfl, rfl⟩, ⟨rfl, rfl⟩, ⟨rfl, rfl⟩, ⟨lit_cast (wrap_i64 (by omega) (by omega)), rfl⟩, trivial⟩ (okH_cons rfl rfl rfl rfl (okH_nil)) rfl⟩
        ·
         replace hR := of_false h24 hR
         refine rvS ?_
         refine rvS ?_
         refine rvS ?_
         refine rvS ?_
         refine rvS ?_
         refine rvO C (.pv (.lit (.bool false))) ?_
         refine rvP C (.pv (.lit (.bool false))) ?_
         refine rvc_nil ?_
         refine Awp.condF (b := false) rfl rfl ?_
         refine Awp.skip ?_
         refine Awp.regionP C ?_
         refine rvP C (.pv (.lit (.int .i64 (IntKind.i64.wrap ((i1 : Int) + 1))))) ?_
         refine rvP C (.pv (.lit (.int .i64 (IntKind.i64.wrap ((i1 : Int) + 1))))) ?_
         refine rvc_nil ?_
         refine ⟨h7, (), ?_, ?_⟩
         · exact hR
         · exact ⟨fun b => b, WeakerR.ofL (Ks := [4]) hI ⟨⟨rfl, rfl⟩, ⟨rfl, rfl⟩, ⟨rfl, rfl⟩, ⟨rfl, rfl⟩, ⟨rfl, rfl⟩, ⟨rfl, rfl⟩, ⟨rfl, rfl⟩, ⟨lit_cast (wrap_i64 (by omega) (by omega)), rfl⟩, trivial⟩ (okH_cons rfl rfl rfl rfl (okH_nil)) rfl⟩
  ·
   have h7 : ¬ i1 < l.D.length := by have := of_decide_eq_false h6; omega
   rw [drop_end h7] at hR
   refine Awp.exit ?_
   refine Awp.regionP C ?_
   refine rvP C (.pv (.lit (.int .i64 (IntKind.i64.wrap ((i : Int) + 1))))) ?_
   refine rvP C (.pv (.lit (.int .i64 (IntKind.i64.wrap ((i : Int) + 1))))) ?_
   refine rvc_nil ?_
   refine ⟨h3, (), ?_, ?_⟩
   · exact hR
   · exact ⟨fun b => b, WeakerR.ofL (Ks := []) hI ⟨⟨rfl, rfl⟩, ⟨rfl, rfl⟩, ⟨rfl, rfl⟩, ⟨lit_cast (wrap_i64 (by omega) (by omega)), rfl⟩, trivial⟩ (okH_nil) rfl⟩
 ·
  have h3 : ¬ i < l.D.length := by have := of_decide_eq_false h2; omega
  rw [drop_end h3] at hR
  refine Awp.exit ?_
  refine Awp.consP C ?_
  refine rvP C (.pv (.lit (.bool true))) ?_
  refine rvc_nil ?_
  refine Awp.ret ?_
  subst hR
  exact ⟨.inl rfl, rfl⟩
def versions_l1 (l : (Sl Op)) (vc : (List (Int × Stand))) : List Op → Nat → Bool
  | [], _ => (rising l)
  | x1 :: x1s, i1 => (bif (x1.ended == 0) then versions_l1 l vc x1s (i1 + 1)  else (bif (x1.ver == 0) then (bif x1.write then false else (bif (!(x1.value.toList == (⟨#[]⟩ : ByteArray).toList)) then false else (bif (x1.ver != 0) then (bif (!x1.write) then (bif (!(((mGet kI64 x1.ver vc).getD (Stand.mk ⟨#[]⟩ 0 false)).there)) then false else (bif (!((((mGet kI64 x1.ver vc).getD (Stand.mk ⟨#[]⟩ 0 false)).value).toList == x1.value.toList)) then false else (bif (decide ((((mGet kI64 x1.ver vc).getD (Stand.mk ⟨#[]⟩ 0 false)).began) ≥ x1.ended)) then false else versions_l1 l vc x1s (i1 + 1) ))) else versions_l1 l vc x1s (i1 + 1) ) else versions_l1 l vc x1s (i1 + 1) ))) else (bif (x1.ver != 0) then (bif (!x1.write) then (bif (!(((mGet kI64 x1.ver vc).getD (Stand.mk ⟨#[]⟩ 0 false)).there)) then false else (bif (!((((mGet kI64 x1.ver vc).getD (Stand.mk ⟨#[]⟩ 0 false)).value).toList == x1.value.toList)) then false else (bif (decide ((((mGet kI64 x1.ver vc).getD (Stand.mk ⟨#[]⟩ 0 false)).began) ≥ x1.ended)) then false else versions_l1 l vc x1s (i1 + 1) ))) else versions_l1 l vc x1s (i1 + 1) ) else versions_l1 l vc x1s (i1 + 1) )))
def versions_l0 (l : (Sl Op)) : List Op → Nat → (List (Int × Stand)) → Bool
  | [], _, vc => versions_l1 l vc l.D 0 
  | x :: xs, i, vc => (bif (!x.write) then versions_l0 l xs (i + 1) vc else (bif (x.ver == 0) then versions_l0 l xs (i + 1) vc else (bif ((mGet kI64 x.ver vc).getD (Stand.mk ⟨#[]⟩ 0 false)).there then false else versions_l0 l xs (i + 1) (mSet kI64 x.ver (Stand.mk x.value x.began true) vc))))
def versions (l : (Sl Op)) : Bool :=
  versions_l0 l l.D 0 []
theorem versions_calls (l : (Sl Op)) (hl1 : l.D.length ≤ 1000000) : PCalls Try.prog 36 [sS (some l.nil) eOp l.D] (.pv (.lit (.bool (versions l)))) := by
 generalize hR : versions l = R
 refine PCalls.of_body tabOk Try.func36 rfl rfl rfl rfl rfl mixed fun E hP C hI => ?_
 refine Awp.consP C ?_
 refine rvP C (.pv (.lit (.bool false))) ?_
 refine rvc_nil ?_
 refine Awp.consP C ?_
 refine rvc_un (rexec_makeMap C rfl rfl kI64 vStand ?_)
 refine rvP C (.mp 9) ?_
 refine rvc_nil ?_
 refine Awp.seq ?_
 refine Awp.consP C ?_
 refine rvP C (sS (some l.nil) eOp l.D) ?_
 refine rvP C (.pv (.lit (.int .i64 (l.D.length : Int)))) ?_
 refine rvP C (.pv (.lit (.int .i64 0))) ?_
 refine rvc_nil ?_
 refine Awp.block ?_
 refine Awp.forR (σ := ((List (Int × Stand)))) (l.D.length) (fun i v => [(0, sS (some l.nil) eOp l.D), (3, .mp 9), (10, sS (some l.nil) eOp l.D), (11, .pv (.lit (.int .i64 (l.D.length : Int)))), (12, .pv (.lit (.int .i64 (i : Int))))]) (fun i v => [(9, mapE kI64 vStand.enc v)]) [9] (fun i v => versions_l0 l (l.D.drop i) i v = R) [] ?_ ?_ (fun i vc h1 hR => ?_)
 · exact hR
 · exact ⟨fun b => b, WeakerR.ofL (Ks := [9]) hI ⟨⟨rfl, rfl⟩, ⟨rfl, rfl⟩, ⟨rfl, rfl⟩, ⟨rfl, rfl⟩, ⟨rfl, rfl⟩, trivial⟩ (okH_map rfl rfl rfl (okH_nil)) rfl⟩
 refine Awp.consP C ?_
 refine rvP C (.pv (.lit (.bool (decide ((i : Int) < (l.D.length : Int)))))) ?_
 refine rvc_nil ?_
 refine Awp.seq ?_
 refine Awp.cond (b := (decide ((i : Int) < (l.D.length : Int)))) rfl (fun h2 => ?_) (fun h2 => ?_)
 ·
  have h3 : i < l.D.length := by have := of_decide_eq_true h2; omega
  obtain ⟨x, h4⟩ := getX h3
  rw [drop_at h4] at hR
  refine Awp.skip ?_
  refine Awp.seq ?_
  refine Awp.block ?_
  refine Awp.consP C ?_
  refine rvc_un (rexec_idxS C rfl rfl rfl rfl rfl rfl x (Int.natCast_nonneg _) h4 ?_)
  refine rvP C (.agg [.pv (.lit (.bool x.write)), .pv (.lit (.string x.value)), .pv (.lit (.int .i64 x.ver)), .pv (.lit (.int .i64 x.began)), .pv (.lit (.int .i64 x.ended))]) ?_
  refine rvc_un (rexec_prim C (δ := { v := .ptr 5 0, new := [(5, .cells [.pv (.lit (.bool false)), .pv (.lit (.string ⟨#[]⟩)), .pv (.lit (.int .i64 0)), .pv (.lit (.int .i64 0)), .pv (.lit (.int .i64 0))])] }) rfl rfl rfl rfl trivial rfl ?_)
  refine rvc_un (rexec_prim C (δ := { v := .undef, wr := [(5, some (.cells [.pv (.lit (.bool x.write)), .pv (.lit (.string x.value)), .pv (.lit (.int .i64 x.ver)), .pv (.lit (.int .i64 x.began)), .pv (.lit (.int .i64 x.ended))]))] }) rfl rfl rfl rfl trivial rfl ?_)
  refine rvc_nil ?_
  refine Awp.seq ?_
  refine Awp.consP C ?_
  refine rvP C (.ptr 5 0) ?_
  refine rvP C (.pv (.lit (.bool x.write))) ?_
  refine rvP C (.pv (.lit (.bool (!x.write)))) ?_
  refine rvP C (.pv (.lit (.bool (!x.write)))) ?_
  refine rvc_case 19 (!x.write) rfl (fun h5 => ?_) (fun h5 => ?_)
  ·
   replace hR := of_true h5 hR
   refine rvS ?_
   refine rvS ?_
   refine rvS ?_
   refine rvP C (.pv (.lit (.bool true))) ?_
   refine rvc_nil ?_
   refine Awp.condT (b := true) rfl rfl ?_
   refine Awp.exit ?_
   refine Awp.regionP C ?_
   refine rvP C (.pv (.lit (.int .i64 (IntKind.i64.wrap ((i : Int) + 1))))) ?_
   refine rvP C (.pv (.lit (.int .i64 (IntKind.i64.wrap ((i : Int) + 1))))) ?_
   refine rvc_nil ?_
   refine ⟨h3, vc, ?_, ?_⟩
   · exact hR
   · exact ⟨fun b => b, WeakerR.ofL (Ks := [9]) hI ⟨⟨rfl, rfl⟩, ⟨rfl, rfl⟩, ⟨rfl, rfl⟩, ⟨rfl, rfl⟩, ⟨lit_cast (wrap_i64 (by omega) (by omega)), rfl⟩, trivial⟩ (okH_map rfl rfl rfl (okH_nil)) rfl⟩
  ·
   replace hR := of_false h5 hR
   refine rvO C (.ptr 5 2) ?_
   refine rvO C (.pv (.lit (.int .i64 x.ver))) ?_
   refine rvO C (.pv (.lit (.bool (x.ver == 0)))) ?_
   refine rvP C (.pv (.lit (.bool (x.ver == 0)))) ?_
   refine rvc_nil ?_
   refine Awp.cond (b := (x.ver == 0)) rfl (fun h6 => ?_) (fun h6 => ?_)
   ·
    replace hR := of_true h6 hR
    refine Awp.exit ?_
    refine Awp.regionP C ?_
    refine rvP C (.pv (.lit (.int .i64 (IntKind.i64.wrap ((i : Int) + 1))))) ?_
    refine rvP C (.pv (.lit (.int .i64 (IntKind.i64.wrap ((i : Int) + 1))))) ?_
    refine rvc_nil ?_
    refine ⟨h3, vc, ?_, ?_⟩
    · exact hR
    · exact ⟨fun b => b, WeakerR.ofL (Ks := [9]) hI ⟨⟨rfl, rfl⟩, ⟨rfl, rfl⟩, ⟨rfl, rfl⟩, ⟨rfl, rfl⟩, ⟨lit_cast (wrap_i64 (by omega) (by omega)), rfl⟩, trivial⟩ (okH_map rfl rfl rfl (okH_nil)) rfl⟩
   ·
    replace hR := of_false h6 hR
    refine Awp.skip ?_
    refine Awp.seq ?_
    refine Awp.consP C ?_
    refine rvP C (.mp 9) ?_
    refine rvP C (.ptr 5 2) ?_
    refine rvP C (.pv (.lit (.int .i64 x.ver))) ?_
    refine rvc_un (rexec_lookup hP C rfl x.ver (Stand.mk ⟨#[]⟩ 0 false) rfl rfl rfl rfl rfl rfl kI64_ok rfl (.agg [.pv (.lit (.string (((mGet kI64 x.ver vc).getD (Stand.mk ⟨#[]⟩ 0 false)).value))), .pv (.lit (.int .i64 (((mGet kI64 x.ver vc).getD (Stand.mk ⟨#[]⟩ 0 false)).began))), .pv (.lit (.bool (((mGet kI64 x.ver vc).getD (Stand.mk ⟨#[]⟩ 0 false)).there)))]) rfl ?_)
    refine rvP C (.pv (.lit (.bool (((mGet kI64 x.ver vc).getD (Stand.mk ⟨#[]⟩ 0 false)).there)))) ?_
    refine rvc_nil ?_
    refine Awp.cond (b := ((mGet kI64 x.ver vc).getD (Stand.mk ⟨#[]⟩ 0 false)).there) rfl (fun h7 => ?_) (fun h7 => ?_)
    ·
     replace hR := of_true h7 hR
     refine Awp.consP C ?_
     refine rvP C (.pv (.lit (.bool false))) ?_
     refine rvc_nil ?_
     refine Awp.ret ?_
     subst hR
     exact ⟨.inl rfl, rfl⟩
    ·
     replace hR := of_false h7 hR
     refine Awp.skip ?_
     refine Awp.regionP C ?_
     refine rvP C (.mp 9) ?_
     refine rvP C (.ptr 5 2) ?_
     refine rvP C (.pv (.lit (.int .i64 x.ver))) ?_
     refine rvP C (.ptr 5 1) ?_
     refine rvP C (.pv (.lit (.string x.value))) ?_
     refine rvP C (.ptr 5 3) ?_
     refine rvP C (.pv (.lit (.int .i64 x.began))) ?_
     refine rvP C (.agg [.pv (.lit (.string x.value)), .pv (.lit (.int .i64 x.began)), .pv (.lit (.bool true))]) ?_
     refine rvc_un (rexec_mapUpdate hP C x.ver (Stand.mk x.value x.began true) rfl rfl rfl rfl rfl rfl kI64_ok ?_)
     refine rvc_nil ?_
     refine Awp.regionP C ?_
     refine rvP C (.pv (.lit (.int .i64 (IntKind.i64.wrap ((i : Int) + 1))))) ?_
     refine rvP C (.pv (.lit (.int .i64 (IntKind.i64.wrap ((i : Int) + 1))))) ?_
     refine rvc_nil ?_
     refine ⟨h3, (mSet kI64 x.ver (Stand.mk x.value x.began true) vc), ?_, ?_⟩
     · exact hR
     · exact ⟨fun b => b, WeakerR.ofL (Ks := [9]) hI ⟨⟨rfl, rfl⟩, ⟨rfl, rfl⟩, ⟨rfl, rfl⟩, ⟨rfl, rfl⟩, ⟨lit_cast (wrap_i64 (by omega) (by omega)), rfl⟩, trivial⟩ (okH_map rfl rfl rfl (okH_nil)) rfl⟩
 ·
  have h3 : ¬ i < l.D.length := by have := of_decide_eq_false h2; omega
  rw [drop_end h3] at hR
  refine Awp.exit ?_
  refine Awp.seq ?_
  refine Awp.consP C ?_
  refine rvP C (sS (some l.nil) eOp l.D) ?_
  refine rvP C (.pv (.lit (.int .i64 (l.D.length : Int)))) ?_
  refine rvP C (.pv (.lit (.int .i64 0))) ?_
  refine rvc_nil ?_
  refine Awp.block ?_
  refine Awp.forR (σ := Unit) (l.D.length) (fun i1 _v => [(0, sS (some l.nil) eOp l.D), (3, .mp 9), (38, sS (some l.nil) eOp l.D), (39, .pv (.lit (.int .i64 (l.D.length : Int)))), (40, .pv (.lit (.int .i64 (i1 : Int))))]) (fun i1 _v => [(9, mapE kI64 vStand.enc vc)]) [9] (fun i1 _v => versions_l1 l vc (l.D.drop i1) i1  = R) () ?_ ?_ (fun i1 _v h8 hR => ?_)
  · exact hR
  · exact ⟨fun b => b, WeakerR.ofL (Ks := [9]) hI ⟨⟨rfl, rfl⟩, ⟨rfl, rfl⟩, ⟨rfl, rfl⟩, ⟨rfl, rfl⟩, ⟨rfl, rfl⟩, trivial⟩ (okH_map rfl rfl rfl (okH_nil)) rfl⟩
  refine Awp.consP C ?_
  refine rvP C (.pv (.lit (.bool (decide ((i1 : Int) < (l.D.length : Int)))))) ?_
  refine rvc_nil ?_
  refine Awp.seq ?_
  refine Awp.cond (b := (decide ((i1 : Int) < (l.D.length : Int)))) rfl (fun h9 => ?_) (fun h9 => ?_)
  ·
   have h10 : i1 < l.D.length := by have := of_decide_eq_true h9; omega
   obtain ⟨x1, h11⟩ := getX h10
   rw [drop_at h11] at hR
   refine Awp.skip ?_
   refine Awp.seq ?_
   refine Awp.block ?_
   refine Awp.consP C ?_
   refine rvc_un (rexec_idxS C rfl rfl rfl rfl rfl rfl x1 (Int.natCast_nonneg _) h11 ?_)
   refine rvP C (.agg [.pv (.lit (.bool x1.write)), .pv (.lit (.string x1.value)), .pv (.lit (.int .i64 x1.ver)), .pv (.lit (.int .i64 x1.began)), .pv (.lit (.int .i64 x1.ended))]) ?_
   refine rvc_un (rexec_prim C (δ := { v := .ptr 7 0, new := [(7, .cells [.pv (.lit (.bool false)), .pv (.lit (.string ⟨#[]⟩)), .pv (.lit (.int .i64 0)), .pv (.lit (.int .i64 0)), .pv (.lit (.int .i64 0))])] }) rfl rfl rfl rfl trivial rfl ?_)
   refine rvc_un (rexec_prim C (δ := { v := .undef, wr := [(7, some (.cells [.pv (.lit (.bool x1.write)), .pv (.lit (.string x1.value)), .pv (.lit (.int .i64 x1.ver)), .pv (.lit (.int .i64 x1.began)), .pv (.lit (.int .i64 x1.ended))]))] }) rfl rfl rfl rfl trivial rfl ?_)
   refine rvc_nil ?_
   refine Awp.consP C ?_
   refine rvP C (.mp 9) ?_
   refine rvP C (.ptr 7 2) ?_
   refine rvP C (.pv (.lit (.int .i64 x1.ver))) ?_
   refine rvc_un (rexec_lookup hP C rfl x1.ver (Stand.mk ⟨#[]⟩ 0 false) rfl rfl rfl rfl rfl rfl kI64_ok rfl (.agg [.pv (.lit (.string (((mGet kI64 x1.ver vc).getD (Stand.mk ⟨#[]⟩ 0 false)).value))), .pv (.lit (.int .i64 (((mGet kI64 x1.ver vc).getD (Stand.mk ⟨#[]⟩ 0 false)).began))), .pv (.lit (.bool (((mGet kI64 x1.ver vc).getD (Stand.mk ⟨#[]⟩ 0 false)).there)))]) rfl ?_)
   refine rvc_un (rexec_prim C (δ := { v := .ptr 8 0, new := [(8, .cells [.pv (.lit (.string ⟨#[]⟩)), .pv (.lit (.int .i64 0)), .pv (.lit (.bool false))])] }) rfl rfl rfl rfl trivial rfl ?_)
   refine rvc_un (rexec_prim C (δ := { v := .undef, wr := [(8, some (.cells [.pv (.lit (.string (((mGet kI64 x1.ver vc).getD (Stand.mk ⟨#[]⟩ 0 false)).value))), .pv (.lit (.int .i64 (((mGet kI64 x1.ver vc).getD (Stand.mk ⟨#[]⟩ 0 false)).began))), .pv (.lit (.bool (((mGet kI64 x1.ver vc).getD (Stand.mk ⟨#[]⟩ 0 false)).there)))]))] }) rfl rfl rfl rfl trivial rfl ?_)
   refine rvc_nil ?_
   refine Awp.block ?_
   refine Awp.consP C ?_
   refine rvP C (.ptr 7 4) ?_
   refine rvP C (.pv (.lit (.int .i64 x1.ended))) ?_
   refine rvP C (.pv (.lit (.bool (x1.ended == 0)))) ?_
   refine rvP C (.pv (.lit (.bool (x1.ended == 0)))) ?_
   refine rvc_nil ?_
   refine Awp.cond (b := (x1.ended == 0)) rfl (fun h12 => ?_) (fun h12 => ?_)
   ·
    replace hR := of_true h12 hR
    refine Awp.skip ?_
    refine Awp.regionP C ?_
    refine rvP C (.pv (.lit (.int .i64 (IntKind.i64.wrap ((i1 : Int) + 1))))) ?_
    refine rvP C (.pv (.lit (.int .i64 (IntKind.i64.wrap ((i1 : Int) + 1))))) ?_
    refine rvc_nil ?_
    refine ⟨h10, (), ?_, ?_⟩
    · exact hR
    · exact ⟨fun b => b, WeakerR.ofL (Ks := [9]) hI ⟨⟨rfl, rfl⟩, ⟨rfl, rfl⟩, ⟨rfl, rfl⟩, ⟨rfl, rfl⟩, ⟨lit_cast (wrap_i64 (by omega) (by omega)), rfl⟩, trivial⟩ (okH_map rfl rfl rfl (okH_nil)) rfl⟩
   ·
    replace hR := of_false h12 hR
    refine Awp.consP C ?_
    refine rvP C (.ptr 7 2) ?_
    refine rvP C (.pv (.lit (.int .i64 x1.ver))) ?_
    refine rvP C (.pv (.lit (.bool (x1.ver == 0)))) ?_
    refine rvP C (.pv (.lit (.bool (x1.ver == 0)))) ?_
    refine rvc_case 56 (x1.ver == 0) rfl (fun h13 => ?_) (fun h13 => ?_)
    ·
     replace hR := of_true h13 hR
     refine rvO C (.ptr 7 0) ?_
     refine rvO C (.pv (.lit (.bool x1.write))) ?_
     refine rvO C (.pv (.lit (.bool x1.write))) ?_
     refine rvc_case 59 x1.write rfl (fun h14 => ?_) (fun h14 => ?_)
     ·
      replace hR := of_true h14 hR
      refine rvS ?_
      refine rvS ?_
      refine rvS ?_
      refine rvO C (.pv (.lit (.bool true))) ?_
      refine rvP C (.pv (.lit (.bool true))) ?_
      refine rvP C (.pv (.lit (.bool true))) ?_
      refine rvc_nil ?_
      refine Awp.condT (b := true) rfl rfl ?_
      refine Awp.consP C ?_
      refine rvP C (.pv (.lit (.bool false))) ?_
      refine rvc_nil ?_
      refine Awp.ret ?_
      subst hR
      exact ⟨.inl rfl, rfl⟩
     ·
      replace hR := of_false h14 hR
      refine rvO C (.ptr 7 1) ?_
      refine rvO C (.pv (.lit (.string x1.value))) ?_
      refine rvO C (.pv (.lit (.bool (!(x1.value.toList == (⟨#[]⟩ : ByteArray).toList))))) ?_
      refine rvO C (.pv (.lit (.bool (!(x1.value.toList == (⟨#[]⟩ : ByteArray).toList))))) ?_
      refine rvP C (.pv (.lit (.bool (!(x1.value.toList == (⟨#[]⟩ : ByteArray).toList))))) ?_
      refine rvP C (.pv (.lit (.bool (!(x1.value.toList == (⟨#[]⟩ : ByteArray).toList))))) ?_
      refine rvc_nil ?_
      refine Awp.cond (b := (!(x1.value.toList == (⟨#[]⟩ : ByteArray).toList))) rfl (fun h15 => ?_) (fun h15 => ?_)
      ·
       replace hR := of_true h15 hR
       refine Awp.consP C ?_
       refine rvP C (.pv (.lit (.bool false))) ?_
       refine rvc_nil ?_
       refine Awp.ret ?_
       subst hR
       exact ⟨.inl rfl, rfl⟩
      ·
       replace hR := of_false h15 hR
       refine Awp.consP C ?_
       refine rvP C (.ptr 7 2) ?_
       refine rvP C (.pv (.lit (.int .i64 x1.ver))) ?_
       refine rvP C (.pv (.lit (.bool (x1.ver != 0)))) ?_
       refine rvP C (.pv (.lit (.bool (x1.ver != 0)))) ?_
       refine rvc_case 69 (x1.ver != 0) rfl (fun h16 => ?_) (fun h16 => ?_)
       ·
        replace hR := of_true h16 hR
        refine rvO C (.ptr 7 0) ?_
        refine rvO C (.pv (.lit (.bool x1.write))) ?_
        refine rvO C (.pv (.lit (.bool (!x1.write)))) ?_
        refine rvP C (.pv (.lit (.bool (!x1.write)))) ?_
        refine rvP C (.pv (.lit (.bool (!x1.write)))) ?_
        refine rvc_case 74 (!x1.write) rfl (fun h17 => ?_) (fun h17 => ?_)
        ·
         replace hR := of_true h17 hR
         refine rvO C (.ptr 8 2) ?_
         refine rvO C (.pv (.lit (.bool (((mGet kI64 x1.ver vc).getD (Stand.mk ⟨#[]⟩ 0 false)).there)))) ?_
         refine rvO C (.pv (.lit (.bool (!(((mGet kI64 x1.ver vc).getD (Stand.mk ⟨#[]⟩ 0 false)).there))))) ?_
         refine rvO C (.pv (.lit (.bool (!(((mGet kI64 x1.ver vc).getD (Stand.mk ⟨#[]⟩ 0 false)).there))))) ?_
         refine rvc_case 78 (!(((mGet kI64 x1.ver vc).getD (Stand.mk ⟨#[]⟩ 0 false)).there)) rfl (fun h18 => ?_) (fun h18 => ?_)
         ·
          replace hR := of_true h18 hR
          refine rvS ?_
          refine rvS ?_
          refine rvS ?_
          refine rvS ?_
          refine rvS ?_
          refine rvO C (.pv (.lit (.bool true))) ?_
          refine rvO C (.pv (.lit (.bool true))) ?_
          refine rvS ?_
          refine rvS ?_
          refine rvS ?_
          refine rvS ?_
          refine rvS ?_
          refine rvO C (.pv (.lit (.bool true))) ?_
          refine rvP C (.pv (.lit (.bool true))) ?_
          refine rvP C (.pv (.lit (.bool true))) ?_
          refine rvc_nil ?_
          refine Awp.condT (b := true) rfl rfl ?_
          refine Awp.consP C ?_
          refine rvP C (.pv (.lit (.bool false))) ?_
          refine rvc_nil ?_
          refine Awp.ret ?_
          subst hR
          exact ⟨.inl rfl, rfl⟩
         ·
          replace hR := of_false h18 hR
          refine rvO C (.ptr 8 0) ?_
          refine rvO C (.pv (.lit (.string (((mGet kI64 x1.ver vc).getD (Stand.mk ⟨#[]⟩ 0 false)).value)))) ?_
          refine rvO C (.ptr 7 1) ?_
          refine rvO C (.pv (.lit (.string x1.value))) ?_
          refine rvO C (.pv (.lit (.bool (!((((mGet kI64 x1.ver vc).getD (Stand.mk ⟨#[]⟩ 0 false)).value).toList == x1.value.toList))))) ?_
          refine rvO C (.pv (.lit (.bool (!((((mGet kI64 x1.ver vc).getD (Stand.mk ⟨#[]⟩ 0 false)).value).toList == x1.value.toList))))) ?_
          refine rvO C (.pv (.lit (.bool (!((((mGet kI64 x1.ver vc).getD (Stand.mk ⟨#[]⟩ 0 false)).value).toList == x1.value.toList))))) ?_
          refine rvc_case 85 (!((((mGet kI64 x1.ver vc).getD (Stand.mk ⟨#[]⟩ 0 false)).value).toList == x1.value.toList)) rfl (fun h19 => ?_) (fun h19 => ?_)
          ·
           replace hR := of_true h19 hR
           refine rvS ?_
           refine rvS ?_
           refine rvS ?_
           refine rvS ?_
           refine rvS ?_
           refine rvO C (.pv (.lit (.bool true))) ?_
           refine rvP C (.pv (.lit (.bool true))) ?_
           refine rvP C (.pv (.lit (.bool true))) ?_
           refine rvc_nil ?_
           refine Awp.condT (b := true) rfl rfl ?_
           refine Awp.consP C ?_
           refine rvP C (.pv (.lit (.bool false))) ?_
           refine rvc_nil ?_
           refine Awp.ret ?_
           subst hR
           exact ⟨.inl rfl, rfl⟩
          ·
           replace hR := of_false h19 hR
           refine rvO C (.ptr 8 1) ?_
           refine rvO C (.pv (.lit (.int .i64 (((mGet kI64 x1.ver vc).getD (Stand.mk ⟨#[]⟩ 0 false)).began)))) ?_
           refine rvO C (.ptr 7 4) ?_
           refine rvO C (.pv (.lit (.int .i64 x1.ended))) ?_
           refine rvO C (.pv (.lit (.bool (decide ((((mGet kI64 x1.ver vc).getD (Stand.mk ⟨#[]⟩ 0 false)).began) ≥ x1.ended))))) ?_
           refine rvO C (.pv (.lit (.bool (decide ((((mGet kI64 x1.ver vc).getD (Stand.mk ⟨#[]⟩ 0 false)).began) ≥ x1.ended))))) ?_
           refine rvP C (.pv (.lit (.bool (decide ((((mGet kI64 x1.ver vc).getD (Stand.mk ⟨#[]⟩ 0 false)).began) ≥ x1.ended))))) ?_
           refine rvP C (.pv (.lit (.bool (decide ((((mGet kI64 x1.ver vc).getD (Stand.mk ⟨#[]⟩ 0 false)).began) ≥ x1.ended))))) ?_
           refine rvc_nil ?_
           refine Awp.cond (b := (decide ((((mGet kI64 x1.ver vc).getD (Stand.mk ⟨#[]⟩ 0 false)).began) ≥ x1.ended))) rfl (fun h20 => ?_) (fun h20 => ?_)
           ·
            replace hR := of_true h20 hR
            refine Awp.consP C ?_
            refine rvP C (.pv (.lit (.bool false))) ?_
            refine rvc_nil ?_
            refine Awp.ret ?_
            subst hR
            exact ⟨.inl rfl, rfl⟩
           ·
            replace hR := of_false h20 hR
            refine Awp.skip ?_
            refine Awp.regionP C ?_
            refine rvP C (.pv (.lit (.int .i64 (IntKind.i64.wrap ((i1 : Int) + 1))))) ?_
            refine rvP C (.pv (.lit (.int .i64 (IntKind.i64.wrap ((i1 : Int) + 1))))) ?_
            refine rvc_nil ?_
            refine ⟨h10, (), ?_, ?_⟩
            · exact hR
            · exact ⟨fun b => b, WeakerR.ofL (Ks := [9]) hI ⟨⟨rfl, rfl⟩, ⟨rfl, rfl⟩, ⟨rfl, rfl⟩, ⟨rfl, rfl⟩, ⟨lit_cast (wrap_i64 (by omega) (by omega)), rfl⟩, trivial⟩ (okH_map rfl rfl rfl (okH_nil)) rfl⟩
        ·
         replace hR := of_false h17 hR
         refine rvS ?_
         refine rvS ?_
         refine rvS ?_
         refine rvS ?_
         refine rvc_shutU rfl rfl rfl ?_
         refine rvc_shutU rfl rfl rfl ?_
         refine rvc_shutU rfl rfl rfl ?_
         refine rvc_shutU rfl rfl rfl ?_
         refine rvc_shutU rfl rfl rfl ?_
         refine rvS ?_
         refine rvS ?_
         refine rvc_shutU rfl rfl rfl ?_
         refine rvc_shutU rfl rfl rfl ?_
         refine rvc_shutU rfl rfl rfl ?_
         refine rvc_shutU rfl rfl rfl ?_
         refine rvc_shutU rfl rfl rfl ?_
         refine rvS ?_
         refine rvP C (.pv (.lit (.bool false))) ?_
         refine rvP C (.pv (.lit (.bool false))) ?_
         refine rvc_nil ?_
         refine Awp.condF (b := false) rfl rfl ?_
         refine Awp.skip ?_
         refine Awp.regionP C ?_
         refine rvP C (.pv (.lit (.int .i64 (IntKind.i64.wrap ((i1 : Int) + 1))))) ?_
         refine rvP C (.pv (.lit (.int .i64 (IntKind.i64.wrap ((i1 : Int) + 1))))) ?_
         refine rvc_nil ?_
         refine ⟨h10, (), ?_, ?_⟩
         · exact hR
         · exact ⟨fun b => b, WeakerR.ofL (Ks := [9]) hI ⟨⟨rfl, rfl⟩, ⟨rfl, rfl⟩, ⟨rfl, rfl⟩, ⟨rfl, rfl⟩, ⟨lit_cast (wrap_i64 (by omega) (by omega)), rfl⟩, trivial⟩ (okH_map rfl rfl rfl (okH_nil)) rfl⟩
       ·
        replace hR := of_false h16 hR
        refine rvS ?_
        refine rvS ?_
        refine rvS ?_
        refine rvP C (.pv (.lit (.bool false))) ?_
        refine rvP C (.pv (.lit (.bool false))) ?_
        refine rvS ?_
        refine rvS ?_
        refine rvS ?_
        refine rvS ?_
        refine rvc_shutU rfl rfl rfl ?_
        refine rvc_shutU rfl rfl rfl ?_
        refine rvc_shutU rfl rfl rfl ?_
        refine rvc_shutU rfl rfl rfl ?_
        refine rvc_shutU rfl rfl rfl ?_
        refine rvS ?_
        refine rvS ?_
        refine rvc_shutU rfl rfl rfl ?_
        refine rvc_shutU rfl rfl rfl ?_
        refine rvc_shutU rfl rfl rfl ?_
        refine rvc_shutU rfl rfl rfl ?_
        refine rvc_shutU rfl rfl rfl ?_
        refine rvS ?_
        refine rvP C (.pv (.lit (.bool false))) ?_
        refine rvP C (.pv (.lit (.bool false))) ?_
        refine rvc_nil ?_
        refine Awp.condF (b := false) rfl rfl ?_
        refine Awp.skip ?_
        refine Awp.regionP C ?_
        refine rvP C (.pv (.lit (.int .i64 (IntKind.i64.wrap ((i1 : Int) + 1))))) ?_
        refine rvP C (.pv (.lit (.int .i64 (IntKind.i64.wrap ((i1 : Int) + 1))))) ?_
        refine rvc_nil ?_
        refine ⟨h10, (), ?_, ?_⟩
        · exact hR
        · exact ⟨fun b => b, WeakerR.ofL (Ks := [9]) hI ⟨⟨rfl, rfl⟩, ⟨rfl, rfl⟩, ⟨rfl, rfl⟩, ⟨rfl, rfl⟩, ⟨lit_cast (wrap_i64 (by omega) (by omega)), rfl⟩, trivial⟩ (okH_map rfl rfl rfl (okH_nil)) rfl⟩
    ·
     replace hR := of_false h13 hR
     refine rvS ?_
     refine rvS ?_
     refine rvS ?_
     refine rvc_shutU rfl rfl rfl ?_
     refine rvc_shutU rfl rfl rfl ?_
     refine rvc_shutU rfl rfl rfl ?_
     refine rvS ?_
     refine rvP C (.pv (.lit (.bool false))) ?_
     refine rvP C (.pv (.lit (.bool false))) ?_
     refine rvc_nil ?_
     refine Awp.condF (b := false) rfl rfl ?_
     refine Awp.consP C ?_
     refine rvP C (.ptr 7 2) ?_
     refine rvP C (.pv (.lit (.int .i64 x1.ver))) ?_
     refine rvP C (.pv (.lit (.bool (x1.ver != 0)))) ?_
     refine rvP C (.pv (.lit (.bool (x1.ver != 0)))) ?_
     refine rvc_case 69 (x1.ver != 0) rfl (fun h21 => ?_) (fun h21 => ?_)
     ·
      replace hR := of_true h21 hR
      refine rvO C (.ptr 7 0) ?_
      refine rvO C (.pv (.lit (.bool x1.write))) ?_
      refine rvO C (.pv (.lit (.bool (!x1.write)))) ?_
      refine rvP C (.pv (.lit (.bool (!x1.write)))) ?_
      refine rvP C (.pv (.lit (.bool (!x1.write)))) ?_
      refine rvc_case 74 (!x1.write) rfl (fun h22 => ?_) (fun h22 => ?_)
      ·
       replace hR := of_true h22 hR
       refine rvO C (.ptr 8 2) ?_
       refine rvO C (.pv (.lit (.bool (((mGet kI64 x1.ver vc).getD (Stand.mk ⟨#[]⟩ 0 false)).there)))) ?_
       refine rvO C (.pv (.lit (.bool (!(((mGet kI64 x1.ver vc).getD (Stand.mk ⟨#[]⟩ 0 false)).there))))) ?_
       refine rvO C (.pv (.lit (.bool (!(((mGet kI64 x1.ver vc).getD (Stand.mk ⟨#[]⟩ 0 false)).there))))) ?_
       refine rvc_case 78 (!(((mGet kI64 x1.ver vc).getD (Stand.mk ⟨#[]⟩ 0 false)).there)) rfl (fun h23 => ?_) (fun h23 => ?_)
       ·
        replace hR := of_true h23 hR
        refine rvS ?_
        refine rvS ?_
        refine rvS ?_
        refine rvS ?_
        refine rvS ?_
        refine rvO C (.pv (.lit (.bool true))) ?_
        refine rvO C (.pv (.lit (.bool true))) ?_
        refine rvS ?_
        refine rvS ?_
        refine rvS ?_
        refine rvS ?_
        refine rvS ?_
        refine rvO C (.pv (.lit (.bool true))) ?_
        refine rvP C (.pv (.lit (.bool true))) ?_
        refine rvP C (.pv (.lit (.bool true))) ?_
        refine rvc_nil ?_
        refine Awp.condT (b := true) rfl rfl ?_
        refine Awp.consP C ?_
        refine rvP C (.pv (.lit (.bool false))) ?_
        refine rvc_nil ?_
        refine Awp.ret ?_
        subst hR
        exact ⟨.inl rfl, rfl⟩
       ·
        replace hR := of_false h23 hR
        refine rvO C (.ptr 8 0) ?_
        refine rvO C (.pv (.lit (.string (((mGet kI64 x1.ver vc).getD (Stand.mk ⟨#[]⟩ 0 false)).value)))) ?_
        refine rvO C (.ptr 7 1) ?_
        refine rvO C (.pv (.lit (.string x1.value))) ?_
        refine rvO C (.pv (.lit (.bool (!((((mGet kI64 x1.ver vc).getD (Stand.mk ⟨#[]⟩ 0 false)).value).toList == x1.value.toList))))) ?_
        refine rvO C (.pv (.lit (.bool (!((((mGet kI64 x1.ver vc).getD (Stand.mk ⟨#[]⟩ 0 false)).value).toList == x1.value.toList))))) ?_
        refine rvO C (.pv (.lit (.bool (!((((mGet kI64 x1.ver vc).getD (Stand.mk ⟨#[]⟩ 0 false)).value).toList == x1.value.toList))))) ?_
        refine rvc_case 85 (!((((mGet kI64 x1.ver vc).getD (Stand.mk ⟨#[]⟩ 0 false)).value).toList == x1.value.toList)) rfl (fun h24 => ?_) (fun h24 => ?_)
        ·
         replace hR := of_true h24 hR
         refine rvS ?_
         refine rvS ?_
         refine rvS ?_
         refine rvS ?_
         refine rvS ?_
         refine rvO C (.pv (.lit (.bool true))) ?_
         refine rvP C (.pv (.lit (.bool true))) ?_
         refine rvP C (.pv (.lit (.bool true))) ?_
         refine rvc_nil ?_
         refine Awp.condT (b := true) rfl rfl ?_
         refine Awp.consP C ?_
         refine rvP C (.pv (.lit (.bool false))) ?_
         refine rvc_nil ?_
         refine Awp.ret ?_
         subst hR
         exact ⟨.inl rfl, rfl⟩
        ·
         replace hR := of_false h24 hR
         refine rvO C (.ptr 8 1) ?_
         refine rvO C (.pv (.lit (.int .i64 (((mGet kI64 x1.ver vc).getD (Stand.mk ⟨#[]⟩ 0 false)).began)))) ?_
         refine rvO C (.ptr 7 4) ?_
         refine rvO C (.pv (.lit (.int .i64 x1.ended))) ?_
         refine rvO C (.pv (.lit (.bool (decide ((((mGet kI64 x1.ver vc).getD (Stand.mk ⟨#[]⟩ 0 false)).began) ≥ x1.ended))))) ?_
         refine rvO C (.pv (.lit (.bool (decide ((((mGet kI64 x1.ver vc).getD (Stand.mk ⟨#[]⟩ 0 false)).began) ≥ x1.ended))))) ?_
         refine rvP C (.pv (.lit (.bool (decide ((((mGet kI64 x1.ver vc).getD (Stand.mk ⟨#[]⟩ 0 false)).began) ≥ x1.ended))))) ?_
         refine rvP C (.pv (.lit (.bool (decide ((((mGet kI64 x1.ver vc).getD (Stand.mk ⟨#[]⟩ 0 false)).began) ≥ x1.ended))))) ?_
         refine rvc_nil ?_
         refine Awp.cond (b := (decide ((((mGet kI64 x1.ver vc).getD (Stand.mk ⟨#[]⟩ 0 false)).began) ≥ x1.ended))) rfl (fun h25 => ?_) (fun h25 => ?_)
         ·
          replace hR := of_true h25 hR
          refine Awp.consP C ?_
          refine rvP C (.pv (.lit (.bool false))) ?_
          refine rvc_nil ?_
          refine Awp.ret ?_
          subst hR
          exact ⟨.inl rfl, rfl⟩
         ·
          replace hR := of_false h25 hR
          refine Awp.skip ?_
          refine Awp.regionP C ?_
          refine rvP C (.pv (.lit (.int .i64 (IntKind.i64.wrap ((i1 : Int) + 1))))) ?_
          refine rvP C (.pv (.lit (.int .i64 (IntKind.i64.wrap ((i1 : Int) + 1))))) ?_
          refine rvc_nil ?_
          refine ⟨h10, (), ?_, ?_⟩
          · exact hR
          · exact ⟨fun b => b, WeakerR.ofL (Ks := [9]) hI ⟨⟨rfl, rfl⟩, ⟨rfl, rfl⟩, ⟨rfl, rfl⟩, ⟨rfl, rfl⟩, ⟨lit_cast (wrap_i64 (by omega) (by omega)), rfl⟩, trivial⟩ (okH_map rfl rfl rfl (okH_nil)) rfl⟩
      ·
       replace hR := of_false h22 hR
       refine rvS ?_
       refine rvS ?_
       refine rvS ?_
       refine rvS ?_
       refine rvc_shutU rfl rfl rfl ?_
       refine rvc_shutU rfl rfl rfl ?_
       refine rvc_shutU rfl rfl rfl ?_
       refine rvc_shutU rfl rfl rfl ?_
       refine rvc_shutU rfl rfl rfl ?_
       refine rvS ?_
       refine rvS ?_
       refine rvc_shutU rfl rfl rfl ?_
       refine rvc_shutU rfl rfl rfl ?_
       refine rvc_shutU rfl rfl rfl ?_
       refine rvc_shutU rfl rfl rfl ?_
       refine rvc_shutU rfl rfl rfl ?_
       refine rvS ?_
       refine rvP C (.pv (.lit (.bool false))) ?_
       refine rvP C (.pv (.lit (.bool false))) ?_
       refine rvc_nil ?_
       refine Awp.condF (b := false) rfl rfl ?_
       refine Awp.skip ?_
       refine Awp.regionP C ?_
       refine rvP C (.pv (.lit (.int .i64 (IntKind.i64.wrap ((i1 : Int) + 1))))) ?_
       refine rvP C (.pv (.lit (.int .i64 (IntKind.i64.wrap ((i1 : Int) + 1))))) ?_
       refine rvc_nil ?_
       refine ⟨h10, (), ?_, ?_⟩
       · exact hR
       · exact ⟨fun b => b, WeakerR.ofL (Ks := [9]) hI ⟨⟨rfl, rfl⟩, ⟨rfl, rfl⟩, ⟨rfl, rfl⟩, ⟨rfl, rfl⟩, ⟨lit_cast (wrap_i64 (by omega) (by omega)), rfl⟩, trivial⟩ (okH_map rfl rfl rfl (okH_nil)) rfl⟩
     ·
      replace hR := of_false h21 hR
      refine rvS ?_
      refine rvS ?_
      refine rvS ?_
      refine rvP C (.pv (.lit (.bool false))) ?_
      refine rvP C (.pv (.lit (.bool false))) ?_
      refine rvS ?_
      refine rvS ?_
      refine rvS ?_
      refine rvS ?_
      refine rvc_shutU rfl rfl rfl ?_
      refine rvc_shutU rfl rfl rfl ?_
      refine rvc_shutU rfl rfl rfl ?_
      refine rvc_shutU rfl rfl rfl ?_
      refine rvc_shutU rfl rfl rfl ?_
      refine rvS ?_
      refine rvS ?_
      refine rvc_shutU rfl rfl rfl ?_
      refine rvc_shutU rfl rfl rfl ?_
      refine rvc_shutU rfl rfl rfl ?_
      refine rvc_shutU rfl rfl rfl ?_
      refine rvc_shutU rfl rfl rfl ?_
      refine rvS ?_
      refine rvP C (.pv (.lit (.bool false))) ?_
      refine rvP C (.pv (.lit (.bool false))) ?_
      refine rvc_nil ?_
      refine Awp.condF (b := false) rfl rfl ?_
      refine Awp.skip ?_
      refine Awp.regionP C ?_
      refine rvP C (.pv (.lit (.int .i64 (IntKind.i64.wrap ((i1 : Int) + 1))))) ?_
      refine rvP C (.pv (.lit (.int .i64 (IntKind.i64.wrap ((i1 : Int) + 1))))) ?_
      refine rvc_nil ?_
      refine ⟨h10, (), ?_, ?_⟩
      · exact hR
      · exact ⟨fun b => b, WeakerR.ofL (Ks := [9]) hI ⟨⟨rfl, rfl⟩, ⟨rfl, rfl⟩, ⟨rfl, rfl⟩, ⟨rfl, rfl⟩, ⟨lit_cast (wrap_i64 (by omega) (by omega)), rfl⟩, trivial⟩ (okH_map rfl rfl rfl (okH_nil)) rfl⟩
  ·
   have h10 : ¬ i1 < l.D.length := by have := of_decide_eq_false h9; omega
   rw [drop_end h10] at hR
   refine Awp.exit ?_
   refine Awp.consP C ?_
   refine rvP C (sS (some l.nil) eOp l.D) ?_
   refine rvc_un (rexec_call hP C rfl rfl rfl (rising_calls l hl1) ?_)
   refine rvP C (.pv (.lit (.bool (rising l)))) ?_
   refine rvc_nil ?_
   refine Awp.ret ?_
   subst hR
   exact ⟨.inl rfl, rfl⟩
end Go.Proofs.Ytoieegmebadfkaa
namespace Go.Proofs.Ytoieegmebadfkaa
open Go.Am
def okR (a b : Op) : Bool := (a.ended == 0) || !((b.ended != 0) || b.write && (b.ver != 0)) || decide (a.ended ≥ b.began) || !(decide (a.ver > b.ver) || b.write && (a.ver == b.ver))
def okB (L : List Op) (x : Op) : Bool := (x.ver == 0) && (x.value.toList == (⟨#[]⟩ : ByteArray).toList) || L.any fun b => b.write && ((b.ver == x.ver) && ((x.ver != 0) && ((b.value.toList == x.value.toList) && decide (b.began < x.ended))))
structure VP (L : List Op) : Prop where
  w0 : ∀ x ∈ L, x.write = true → x.ended ≠ 0 → x.ver ≠ 0
  one : ∀ (i j : Nat) (x y : Op), L[i]? = some x → L[j]? = some y → i < j → x.write = true → y.write = true → x.ver = y.ver → x.ver = 0
  rd : ∀ x ∈ L, x.write = false → x.ended ≠ 0 → okB L x = true
  ris : ∀ a ∈ L, ∀ b ∈ L, okR a b = true
theorem rl4_eq (x : Op) (kk : Bool) : ∀ (xs : List Op) (i : Nat), rVersions_l4 x kk xs i = (xs.all (okR x) && kk)
  | [], _ => by unfold rVersions_l4; rfl
  | y :: ys, i => by
    unfold rVersions_l4
    rw [rl4_eq x kk ys (i + 1), List.all_cons]
    unfold okR
    rw [show (x.ended == 0) = !(x.ended != 0) by rw [bne, Bool.not_not]]
    generalize ys.all _ = r
    generalize (y.ended != 0) = b1
    generalize (x.ended != 0) = b2
    generalize (decide (x.ended ≥ y.began)) = b3
    generalize (decide (x.ver > y.ver)) = b4
    generalize (x.ver == y.ver) = b5
    generalize (y.ver != 0) = b6
    generalize y.write = b7
    cases b1 <;> cases b2 <;> cases b3 <;> cases b4 <;> cases b5 <;> cases b6 <;> cases b7 <;> simp
def okR1 (a b : Op) : Bool := (a.ended == 0) || ((b.ver == 0) && b.write) || decide (a.ended ≥ b.began) || ((b.ended == 0) && !b.write) || !(decide (a.ver > b.ver) || b.write && (a.ver == b.ver))
theorem ris1_eq (x : Op) (kk : Bool) : ∀ (xs : List Op) (i : Nat), rising_l1 x kk xs i = (xs.all (okR1 x) && kk)
  | [], _ => by unfold rising_l1; rfl
  | y :: ys, i => by
    unfold rising_l1
    rw [ris1_eq x kk ys (i + 1), List.all_cons]
    unfold okR1
    generalize ys.all _ = r
    generalize (x.ended == 0) = b1
    generalize (y.ver == 0) = b2
    generalize (decide (x.ended ≥ y.began)) = b3
    generalize (y.ended == 0) = b4
    generalize (decide (x.ver > y.ver)) = b5
    generalize (x.ver == y.ver) = b6
    generalize y.write = b7
    cases b1 <;> cases b2 <;> cases b3 <;> cases b4 <;> cases b5 <;> cases b6 <;> cases b7 <;> simp
theorem ris0_eq (l : Sl Op) : ∀ (xs : List Op) (i : Nat), rising_l0 l xs i = xs.all fun a => l.D.all (okR1 a)
  | [], _ => by unfold rising_l0; rfl
  | x :: xs, i => by
    unfold rising_l0
    rw [ris1_eq, ris0_eq l xs (i + 1), List.all_cons]
theorem mGet_setI (p q : Int) (b : Stand) : ∀ (D : List (Int × Stand)), mGet kI64 q (mSet kI64 p b D) = if q = p then some b else mGet kI64 q D
  | [] => by
    unfold mSet mGet mGet
    by_cases h : q = p
    · subst h; rw [if_pos (show kI64.eq q q = true from beq_self_eq_true q), if_pos rfl]
    · rw [if_neg (show ¬ kI64.eq q (p, b).1 = true from fun e => h (beq_iff_eq.1 e)), if_neg h]
  | e :: D => by
    unfold mSet
    by_cases h1 : p = e.1
    · rw [if_pos (show kI64.eq p e.1 = true from beq_iff_eq.2 h1)]
      unfold mGet
      by_cases h2 : q = p
      · rw [if_pos h2, if_pos (show kI64.eq q e.1 = true from beq_iff_eq.2 (h2.trans h1))]
      · have h3 : ¬ kI64.eq q e.1 = true := fun x => h2 ((beq_iff_eq.1 x).trans h1.symm)
        rw [if_neg h2, if_neg h3]
        exact (if_neg h3).symm
    · rw [if_neg (show ¬ kI64.eq p e.1 = true from fun x => h1 (beq_iff_eq.1 x))]
      unfold mGet
      by_cases h2 : q = e.1
      · rw [if_pos (show kI64.eq q e.1 = true from beq_iff_eq.2 h2), if_pos (show kI64.eq q e.1 = true from beq_iff_eq.2 h2), if_neg (fun x => h1 (x.symm.trans h2))]
      · rw [if_neg (show ¬ kI64.eq q e.1 = true from fun x => h2 (beq_iff_eq.1 x)), if_neg (show ¬ kI64.eq q e.1 = true from fun x => h2 (beq_iff_eq.1 x)), mGet_setI p q b D]
def isW (v : Int) (w : Op) : Bool := w.write && ((w.ver == v) && (w.ver != 0))
def fnd (P : List Op) (v : Int) : Option Stand := (P.find? (isW v)).map fun w => Stand.mk w.value w.began true
def chk (P : List Op) (x : Op) : Bool := (x.ended == 0) || (bif x.ver == 0 then !x.write && (x.value.toList == (⟨#[]⟩ : ByteArray).toList) else x.write || match fnd P x.ver with
  | none => false
  | some s => (s.value.toList == x.value.toList) && !decide (s.began ≥ x.ended))
theorem fnd_there {P : List Op} {v : Int} {s : Stand} (h : fnd P v = some s) : s.there = true := by
  unfold fnd at h
  cases hf : P.find? (isW v) with
  | none => rw [hf] at h; cases h
  | some w => rw [hf] at h; cases h; rfl
theorem v1_eq (l : Sl Op) (P : List Op) (vc : List (Int × Stand)) (hvc : ∀ v, mGet kI64 v vc = fnd P v) : ∀ (xs : List Op) (i : Nat), versions_l1 l vc xs i = (xs.all (chk P) && rising l)
  | [], _ => by unfold versions_l1; rfl
  | y :: ys, i => by
    unfold versions_l1
    rw [v1_eq l P vc hvc ys (i + 1), List.all_cons, hvc]
    generalize ys.all _ = r
    generalize rising l = q
    unfold chk
    cases (y.ended == 0)
    · rw [cond_false, Bool.false_or]
      by_cases hv : y.ver = 0
      · rw [show (y.ver == 0) = true from beq_iff_eq.2 hv, show (y.ver != 0) = false by simp [hv], cond_true, cond_true]
        cases y.write <;> cases (y.value.toList == (⟨#[]⟩ : ByteArray).toList) <;> simp
      · rw [show (y.ver == 0) = false by simpa using hv, show (y.ver != 0) = true by simpa using hv, cond_false, cond_false, cond_true]
        cases y.write
        · rw [Bool.not_false, cond_true, Bool.false_or]
          cases hf : fnd P y.ver with
          | none => simp
          | some s =>
            have ht := fnd_there hf
            simp only [Option.getD_some, ht]
            cases (s.value.toList == y.value.toList) <;> cases decide (s.began ≥ y.ended) <;> simp
        · simp
    · simp
/-- No write's version is that of one ahead of it. -/
def nd (P : List Op) : List Op → Bool
  | [] => true
  | x :: xs => !(x.write && ((x.ver != 0) && P.any fun w => w.write && (w.ver == x.ver))) && nd (P ++ [x]) xs
theorem fnd_isSome (P : List Op) (v : Int) (hv : v ≠ 0) : (fnd P v).isSome = P.any fun w => w.write && (w.ver == v) := by
  unfold fnd
  have e : isW v = fun w => w.write && (w.ver == v) := by
    funext w
    unfold isW
    by_cases h : w.ver = v
    · rw [show (w.ver == v) = true from beq_iff_eq.2 h, show (w.ver != 0) = true by simpa [h] using hv, Bool.and_true]
    · rw [show (w.ver == v) = false by simpa using h]; simp
  rw [Option.isSome_map, e, Bool.eq_iff_iff, List.find?_isSome, List.any_eq_true]
theorem fnd_append (P : List Op) (x : Op) (v : Int) : fnd (P ++ [x]) v = match fnd P v with
  | some s => some s
  | none => if isW v x then some (Stand.mk x.value x.began true) else none := by
  unfold fnd
  rw [List.find?_append]
  cases hf : P.find? (isW v) with
  | some w => rfl
  | none =>
    simp only [Option.none_or, Option.map_none]
    cases h : isW v x
    · rw [List.find?_cons_of_neg (by rw [h]; decide)]; rfl
    · rw [List.find?_cons_of_pos h]; rfl
theorem v0_eq (l : Sl Op) : ∀ (xs : List Op) (i : Nat) (vc : List (Int × Stand)) (P : List Op), (∀ v, mGet kI64 v vc = fnd P v) → versions_l0 l xs i vc = (nd P xs && (l.D.all (chk (P ++ xs)) && rising l))
  | [], _, vc, P, h => by
    unfold versions_l0 nd
    rw [v1_eq l P vc h, List.append_nil, Bool.true_and]
  | x :: xs, i, vc, P, h => by
    unfold versions_l0 nd
    have ea : P ++ x :: xs = (P ++ [x]) ++ xs := by rw [List.append_assoc]; rfl
    have skip : isW x.ver x = false → ∀ v, mGet kI64 v vc = fnd (P ++ [x]) v := fun hx v => by
      rw [h v, fnd_append]
      cases hf : fnd P v with
      | some s => rfl
      | none =>
        have : isW v x = false := by
          unfold isW at hx ⊢
          by_cases e : x.ver = v
          · rw [← e]; exact hx
          · rw [show (x.ver == v) = false by simpa using e]; simp
        rw [this]; rfl
    cases hw : x.write
    · rw [Bool.not_false, cond_true, Bool.false_and, Bool.not_false, Bool.true_and, v0_eq l xs (i + 1) vc (P ++ [x]) (skip (by unfold isW; rw [hw]; rfl)), ea]
    · rw [Bool.not_true, cond_false, Bool.true_and]
      by_cases hv : x.ver = 0
      · rw [show (x.ver == 0) = true from beq_iff_eq.2 hv, show (x.ver != 0) = false by simp [hv], cond_true, Bool.false_and, Bool.not_false, Bool.true_and, v0_eq l xs (i + 1) vc (P ++ [x]) (skip (by unfold isW; rw [hv]; simp)), ea]
      · rw [show (x.ver == 0) = false by simpa using hv, show (x.ver != 0) = true by simpa using hv, cond_false, Bool.true_and, h, ← fnd_isSome P x.ver hv]
        cases hf : fnd P x.ver with
        | some s => rw [Option.getD_some, fnd_there hf]; rfl
        | none =>
          show (bif false then false else _) = _
          rw [cond_false, Option.isSome_none, Bool.not_false, Bool.true_and, v0_eq l xs (i + 1) _ (P ++ [x]) (fun v => ?_), ea]
          rw [mGet_setI, fnd_append, h]
          by_cases e : v = x.ver
          · rw [if_pos e, e, hf, show isW x.ver x = true by unfold isW; rw [hw]; simpa using hv]; rfl
          · rw [if_neg e]
            cases fnd P v with
            | some s => rfl
            | none => rw [show isW v x = false by unfold isW; rw [show (x.ver == v) = false by simpa using fun q => e q.symm]; simp]; rfl
theorem nd_iff : ∀ (xs P : List Op), nd P xs = true ↔ ∀ j y, xs[j]? = some y → y.write = true → y.ver ≠ 0 → ∀ x ∈ P ++ xs.take j, x.write = true → x.ver ≠ y.ver
  | [], P => by unfold nd; simp
  | x :: xs, P => by
    unfold nd
    rw [Bool.and_eq_true, nd_iff xs (P ++ [x])]
    constructor
    · rintro ⟨h1, h2⟩ j y hj hy hv z hz hzw e
      cases j with
      | zero =>
        simp only [List.getElem?_cons_zero, Option.some.injEq] at hj
        subst hj
        rw [List.take_zero, List.append_nil] at hz
        rw [hy, show (x.ver != 0) = true by simpa using hv, List.any_eq_true.2 ⟨z, hz, by rw [hzw, e]; simp⟩] at h1
        cases h1
      | succ j =>
        rw [List.getElem?_cons_succ] at hj
        refine h2 j y hj hy hv z ?_ hzw e
        rw [List.take_succ_cons] at hz
        rw [List.append_assoc]; exact hz
    · intro h
      constructor
      · cases hx : x.write
        · rfl
        · by_cases hv : x.ver = 0
          · rw [show (x.ver != 0) = false by simp [hv]]; rfl
          · cases ha : P.any fun w => w.write && (w.ver == x.ver)
            · simp
            · obtain ⟨w, hw, e⟩ := List.any_eq_true.1 ha
              simp only [Bool.and_eq_true, beq_iff_eq] at e
              exact absurd e.2 (h 0 x rfl hx hv w (by rw [List.take_zero, List.append_nil]; exact hw) e.1)
      · intro j y hj hy hv z hz hzw
        refine h (j + 1) y (by rw [List.getElem?_cons_succ]; exact hj) hy hv z ?_ hzw
        rw [List.take_succ_cons]
        rw [List.append_assoc] at hz; exact hz
theorem versions_eq (l : Sl Op) : versions l = (nd [] l.D && (l.D.all (chk l.D) && rising l)) := by
  unfold versions
  rw [v0_eq l l.D 0 [] [] (fun v => rfl)]; rfl
theorem versions_iff (l : Sl Op) : versions l = true ↔ VP l.D := by
  rw [versions_eq, Bool.and_eq_true, Bool.and_eq_true, nd_iff]
  have hone : (∀ j y, l.D[j]? = some y → y.write = true → y.ver ≠ 0 → ∀ x ∈ [] ++ l.D.take j, x.write = true → x.ver ≠ y.ver) ↔ ∀ (i j : Nat) (x y : Op), l.D[i]? = some x → l.D[j]? = some y → i < j → x.write = true → y.write = true → x.ver = y.ver → x.ver = 0 := by
    constructor
    · intro h i j x y hi hj hij hx hy e
      by_cases hv : y.ver = 0
      · rw [e, hv]
      · exact absurd e (h j y hj hy hv x (by
          rw [List.nil_append]
          exact List.mem_of_getElem? (i := i) (by rw [List.getElem?_take_of_lt hij]; exact hi)) hx)
    · intro h j y hj hy hv x hx hxw e
      rw [List.nil_append] at hx
      obtain ⟨i, hi⟩ := List.getElem?_of_mem hx
      have hij : i < j := by
        rcases Nat.lt_or_ge i j with h' | h'
        · exact h'
        · rw [List.getElem?_eq_none (by rw [List.length_take]; omega)] at hi; cases hi
      rw [List.getElem?_take_of_lt hij] at hi
      exact hv (e ▸ h i j x y hi hj hij hxw hy e)
  rw [hone]
  have hfind : (∀ (i j : Nat) (x y : Op), l.D[i]? = some x → l.D[j]? = some y → i < j → x.write = true → y.write = true → x.ver = y.ver → x.ver = 0) → ∀ x ∈ l.D, x.write = false → x.ended ≠ 0 → chk l.D x = okB l.D x := by
    intro one x _ hw he
    unfold chk okB
    rw [show (x.ended == 0) = false by simpa using he, Bool.false_or, hw]
    by_cases hv : x.ver = 0
    · rw [show (x.ver == 0) = true from beq_iff_eq.2 hv, cond_true, Bool.not_false, Bool.true_and, show (x.ver != 0) = false by simp [hv]]
      have : (l.D.any fun b => b.write && ((b.ver == x.ver) && (false && ((b.value.toList == x.value.toList) && decide (b.began < x.ended))))) = false := by
        rw [List.any_eq_false]; intro b _; simp
      rw [this, Bool.or_false]
    · rw [show (x.ver == 0) = false by simpa using hv, cond_false, Bool.false_or, Bool.false_and, Bool.false_or, show (x.ver != 0) = true by simpa using hv]
      cases hf : l.D.find? (isW x.ver) with
      | none =>
        have hf' := List.find?_eq_none.1 hf
        have : fnd l.D x.ver = none := by unfold fnd; rw [hf]; rfl
        rw [this]
        symm
        show (l.D.any _) = false
        rw [List.any_eq_false]
        intro b hb e
        simp only [Bool.and_eq_true, beq_iff_eq] at e
        refine hf' b hb ?_
        unfold isW
        rw [e.1, e.2.1]; simpa using hv
      | some w =>
        have hw' := List.find?_some hf
        have hwm := List.mem_of_find?_eq_some hf
        have : fnd l.D x.ver = some (Stand.mk w.value w.began true) := by unfold fnd; rw [hf]; rfl
        rw [this]
        unfold isW at hw'
        simp only [Bool.and_eq_true, beq_iff_eq] at hw'
        show ((w.value.toList == x.value.toList) && !decide (w.began ≥ x.ended)) = _
        have en : (!decide (w.began ≥ x.ended)) = decide (w.began < x.ended) := by
          by_cases h : w.began < x.ended
          · rw [decide_eq_true h, decide_eq_false (by omega)]; rfl
          · rw [decide_eq_false h, decide_eq_true (by omega)]; rfl
        rw [en, Bool.eq_iff_iff, List.any_eq_true]
        constructor
        · intro h
          refine ⟨w, hwm, ?_⟩
          rw [hw'.1, h, hw'.2.1]; simp
        · rintro ⟨b, hb, e⟩
          simp only [Bool.and_eq_true, beq_iff_eq, decide_eq_true_eq] at e
          obtain ⟨i, hi⟩ := List.getElem?_of_mem hwm
          obtain ⟨j, hj⟩ := List.getElem?_of_mem hb
          have hij : i = j := by
            rcases Nat.lt_trichotomy i j with h | h | h
            · exact absurd (one i j w b hi hj h hw'.1 e.1 (hw'.2.1.trans e.2.1.symm)) (by rw [hw'.2.1]; exact hv)
            · exact h
            · exact absurd (one j i b w hj hi h e.1 hw'.1 (e.2.1.trans hw'.2.1.symm)) (by rw [e.2.1]; exact hv)
          subst hij
          rw [hi] at hj
          obtain rfl := Option.some.inj hj
          rw [e.2.2.2.1, decide_eq_true e.2.2.2.2]; simp
  have hR : (∀ x ∈ l.D, x.write = true → x.ended ≠ 0 → x.ver ≠ 0) → ∀ a ∈ l.D, ∀ b ∈ l.D, okR1 a b = okR a b := by
    intro w0 a _ b hb
    unfold okR1 okR
    have hb' := w0 b hb
    have e1 : (b.ended == 0) = !(b.ended != 0) := by rw [bne, Bool.not_not]
    have e2 : (b.ver == 0) = !(b.ver != 0) := by rw [bne, Bool.not_not]
    rw [e1, e2]
    cases h1 : b.write
    · cases (b.ended != 0) <;> cases (b.ver != 0) <;> cases (a.ended == 0) <;> cases decide (a.ended ≥ b.began) <;> cases decide (a.ver > b.ver) <;> cases (a.ver == b.ver) <;> rfl
    · cases h2 : (b.ended != 0)
      · cases (b.ver != 0) <;> cases (a.ended == 0) <;> cases decide (a.ended ≥ b.began) <;> cases decide (a.ver > b.ver) <;> cases (a.ver == b.ver) <;> rfl
      · have h3 : (b.ver != 0) = true := by simpa using hb' h1 (by simpa using h2)
        rw [h3]
        cases (a.ended == 0) <;> cases decide (a.ended ≥ b.began) <;> cases decide (a.ver > b.ver) <;> cases (a.ver == b.ver) <;> rfl
  unfold rising
  rw [ris0_eq, List.all_eq_true, List.all_eq_true]
  constructor
  · rintro ⟨one, h2, h3⟩
    have w0 : ∀ x ∈ l.D, x.write = true → x.ended ≠ 0 → x.ver ≠ 0 := fun x hx hw he hv => by
      have := h2 x hx
      unfold chk at this
      rw [show (x.ended == 0) = false by simpa using he, show (x.ver == 0) = true from beq_iff_eq.2 hv, hw] at this
      cases this
    exact { w0 := w0, one := one, rd := fun x hx hw he => by rw [← hfind one x hx hw he]; exact h2 x hx, ris := fun a ha b hb => by rw [← hR w0 a ha b hb]; exact List.all_eq_true.1 (h3 a ha) b hb }
  · intro h
    refine ⟨h.one, fun x hx => ?_, fun a ha => List.all_eq_true.2 fun b hb => by rw [hR h.w0 a ha b hb]; exact h.ris a ha b hb⟩
    cases hw : x.write
    · by_cases he : x.ended = 0
      · unfold chk; rw [show (x.ended == 0) = true from beq_iff_eq.2 he]; rfl
      · rw [hfind h.one x hx hw he]; exact h.rd x hx hw he
    · unfold chk
      by_cases he : x.ended = 0
      · rw [show (x.ended == 0) = true from beq_iff_eq.2 he]; rfl
      · rw [show (x.ver == 0) = false by simpa using h.w0 x hx hw he, hw]; simp
theorem versions_D {l m : Sl Op} (h : l.D = m.D) : versions l = versions m := by
  rw [Bool.eq_iff_iff, versions_iff, versions_iff, h]
end Go.Proofs.Ytoieegmebadfkaa
namespace Go.Proofs.Ytoieegmebadfkaa
open Go.Am
def jStrong_l0 (calls : (Sl Call)) (recs : (Sl Record)) : List (Nat → Int) → Nat → Bool
  | [], _ => true
  | x :: xs, i => (bif (!(versions (jOps x calls recs))) then false else jStrong_l0 calls recs xs (i + 1) )
def jStrong (calls : (Sl Call)) (recs : (Sl Record)) : Bool :=
  jStrong_l0 calls recs ((jKeys calls).D) 0
theorem jStrong_calls (calls : (Sl Call)) (recs : (Sl Record)) (hl1 : calls.D.length ≤ 1000000) (hl2 : recs.D.length ≤ 1000000) : PCalls Try.prog 15 [sS (some calls.nil) eCall calls.D, sS (some recs.nil) eRecord recs.D] (.pv (.lit (.bool (jStrong calls recs)))) := by
 generalize hR : jStrong calls recs = R
 refine PCalls.of_body tabOk Try.func15 rfl rfl rfl rfl rfl mixed fun E hP C hI => ?_
 refine Awp.consP C ?_
 refine rvP C (.pv (.lit (.bool false))) ?_
 refine rvc_nil ?_
 refine Awp.seq ?_
 refine Awp.consP C ?_
 refine rvP C (sS (some calls.nil) eCall calls.D) ?_
 refine rvc_un (rexec_call hP C rfl rfl rfl (jKeys_calls calls hl1) ?_)
 refine rvP C (.pv (.lit (.int .i64 (((jKeys calls).D).length : Int)))) ?_
 refine rvP C (.pv (.lit (.int .i64 0))) ?_
 refine rvc_nil ?_
 refine Awp.block ?_
 refine Awp.forR (σ := Unit) (((jKeys calls).D).length) (fun i _v => [(0, sS (some calls.nil) eCall calls.D), (1, sS (some recs.nil) eRecord recs.D), (8, sS (some (jKeys calls).nil) (eA8 .u8) ((jKeys calls).D)), (9, .pv (.lit (.int .i64 (((jKeys calls).D).length : Int)))), (10, .pv (.lit (.int .i64 (i : Int))))]) (fun i _v => []) [] (fun i _v => jStrong_l0 calls recs (((jKeys calls).D).drop i) i  = R) () ?_ ?_ (fun i _v h1 hR => ?_)
 · exact hR
 · exact ⟨fun b => b, WeakerR.ofL (Ks := []) hI ⟨⟨rfl, rfl⟩, ⟨rfl, rfl⟩, ⟨rfl, rfl⟩, ⟨rfl, rfl⟩, ⟨rfl, rfl⟩, trivial⟩ (okH_nil) rfl⟩
 have hk_ := jKeys_len (calls := calls) (by omega)
 refine Awp.consP C ?_
 refine rvP C (.pv (.lit (.bool (decide ((i : Int) < (((jKeys calls).D).length : Int)))))) ?_
 refine rvc_nil ?_
 refine Awp.seq ?_
 refine Awp.cond (b := (decide ((i : Int) < (((jKeys calls).D).length : Int)))) rfl (fun h2 => ?_) (fun h2 => ?_)
 ·
  have h3 : i < ((jKeys calls).D).length := by have := of_decide_eq_true h2; omega
  obtain ⟨x, h4⟩ := getX h3
  rw [drop_at h4] at hR
  refine Awp.skip ?_
  refine Awp.seq ?_
  refine Awp.block ?_
  refine Awp.consP C ?_
  refine rvc_un (rexec_idxS C rfl rfl rfl rfl rfl rfl x (Int.natCast_nonneg _) h4 ?_)
  refine rvP C (.agg [.pv (.lit (.int .u8 (x 0))), .pv (.lit (.int .u8 (x 1))), .pv (.lit (.int .u8 (x 2))), .pv (.lit (.int .u8 (x 3))), .pv (.lit (.int .u8 (x 4))), .pv (.lit (.int .u8 (x 5))), .pv (.lit (.int .u8 (x 6))), .pv (.lit (.int .u8 (x 7)))]) ?_
  refine rvc_un (rexec_prim C (δ := { v := .ptr 6 0, new := [(6, .cells [.pv (.lit (.int .u8 0)), .pv (.lit (.int .u8 0)), .pv (.lit (.int .u8 0)), .pv (.lit (.int .u8 0)), .pv (.lit (.int .u8 0)), .pv (.lit (.int .u8 0)), .pv (.lit (.int .u8 0)), .pv (.lit (.int .u8 0))])] }) rfl rfl rfl rfl trivial rfl ?_)
  refine rvc_un (rexec_prim C (δ := { v := .undef, wr := [(6, some (.cells [.pv (.lit (.int .u8 (x 0))), .pv (.lit (.int .u8 (x 1))), .pv (.lit (.int .u8 (x 2))), .pv (.lit (.int .u8 (x 3))), .pv (.lit (.int .u8 (x 4))), .pv (.lit (.int .u8 (x 5))), .pv (.lit (.int .u8 (x 6))), .pv (.lit (.int .u8 (x 7)))]))] }) rfl rfl rfl rfl trivial rfl ?_)
  refine rvc_nil ?_
  refine Awp.consP C ?_
  refine rvP C (.agg [.pv (.lit (.int .u8 (x 0))), .pv (.lit (.int .u8 (x 1))), .pv (.lit (.int .u8 (x 2))), .pv (.lit (.int .u8 (x 3))), .pv (.lit (.int .u8 (x 4))), .pv (.lit (.int .u8 (x 5))), .pv (.lit (.int .u8 (x 6))), .pv (.lit (.int .u8 (x 7)))]) ?_
  refine rvP C (sS (some calls.nil) eCall calls.D) ?_
  refine rvP C (sS (some recs.nil) eRecord recs.D) ?_
  refine rvc_un (rexec_call hP C rfl rfl rfl (jOps_calls x calls recs hl2 hl1) ?_)
  refine rvc_un (rexec_call hP C rfl rfl rfl (versions_calls (jOps x calls recs) (Nat.le_trans jOps_len (by omega))) ?_)
  refine rvP C (.pv (.lit (.bool (!(versions (jOps x calls recs)))))) ?_
  refine rvc_nil ?_
  refine Awp.cond (b := (!(versions (jOps x calls recs)))) rfl (fun h5 => ?_) (fun h5 => ?_)
  ·
   replace hR := of_true h5 hR
   refine Awp.consP C ?_
   refine rvP C (.pv (.lit (.bool false))) ?_
   refine rvc_nil ?_
   refine Awp.ret ?_
   subst hR
   exact ⟨.inl rfl, rfl⟩
  ·
   replace hR := of_false h5 hR
   refine Awp.skip ?_
   refine Awp.regionP C ?_
   refine rvP C (.pv (.lit (.int .i64 (IntKind.i64.wrap ((i : Int) + 1))))) ?_
   refine rvP C (.pv (.lit (.int .i64 (IntKind.i64.wrap ((i : Int) + 1))))) ?_
   refine rvc_nil ?_
   refine ⟨h3, (), ?_, ?_⟩
   · exact hR
   · exact ⟨fun b => b, WeakerR.ofL (Ks := []) hI ⟨⟨rfl, rfl⟩, ⟨rfl, rfl⟩, ⟨rfl, rfl⟩, ⟨rfl, rfl⟩, ⟨lit_cast (wrap_i64 (by omega) (by omega)), rfl⟩, trivial⟩ (okH_nil) rfl⟩
 ·
  have h3 : ¬ i < ((jKeys calls).D).length := by have := of_decide_eq_false h2; omega
  rw [drop_end h3] at hR
  refine Awp.exit ?_
  refine Awp.consP C ?_
  refine rvP C (.pv (.lit (.bool true))) ?_
  refine rvc_nil ?_
  refine Awp.ret ?_
  subst hR
  exact ⟨.inl rfl, rfl⟩
def jAll (calls : (Sl Call)) (recs : (Sl Record)) : Bool :=
  (bif ((jRight recs) == 0) then (bif (jStrong calls recs) then (bif (jValues calls recs) then (bif (jBounds calls) then (jSessions calls) else false) else false) else false) else false)
theorem jAll_calls (calls : (Sl Call)) (recs : (Sl Record)) (hl1 : recs.D.length ≤ 1000000) (hl2 : calls.D.length ≤ 1000000) : PCalls Try.prog 19 [sS (some calls.nil) eCall calls.D, sS (some recs.nil) eRecord recs.D] (.pv (.lit (.bool (jAll calls recs)))) := by
 generalize hR : jAll calls recs = R
 refine PCalls.of_body tabOk Try.func19 rfl rfl rfl rfl rfl mixed fun E hP C hI => ?_
 refine Awp.consP C ?_
 refine rvP C (.pv (.lit (.bool false))) ?_
 refine rvc_nil ?_
 refine Awp.consP C ?_
 refine rvP C (sS (some recs.nil) eRecord recs.D) ?_
 refine rvc_un (rexec_call hP C rfl rfl rfl (jRight_calls recs hl1) ?_)
 refine rvP C (.pv (.lit (.bool ((jRight recs) == 0)))) ?_
 refine rvP C (.pv (.lit (.bool ((jRight recs) == 0)))) ?_
 refine rvc_case 8 ((jRight recs) == 0) rfl (fun h1 => ?_) (fun h1 => ?_)
 ·
  replace hR := of_true h1 hR
  refine rvO C (sS (some calls.nil) eCall calls.D) ?_
  refine rvO C (sS (some recs.nil) eRecord recs.D) ?_
  refine rvc_open rfl rfl rfl (rexec_call hP C rfl rfl rfl (jStrong_calls calls recs hl2 hl1) ?_)
  refine rvP C (.pv (.lit (.bool (jStrong calls recs)))) ?_
  refine rvP C (.pv (.lit (.bool (jStrong calls recs)))) ?_
  refine rvc_case 13 (jStrong calls recs) rfl (fun h2 => ?_) (fun h2 => ?_)
  ·
   replace hR := of_true h2 hR
   refine rvO C (sS (some calls.nil) eCall calls.D) ?_
   refine rvO C (sS (some recs.nil) eRecord recs.D) ?_
   refine rvc_open rfl rfl rfl (rexec_call hP C rfl rfl rfl (jValues_calls calls recs hl1 hl2) ?_)
   refine rvP C (.pv (.lit (.bool (jValues calls recs)))) ?_
   refine rvP C (.pv (.lit (.bool (jValues calls recs)))) ?_
   refine rvc_case 18 (jValues calls recs) rfl (fun h3 => ?_) (fun h3 => ?_)
   ·
    replace hR := of_true h3 hR
    refine rvO C (sS (some calls.nil) eCall calls.D) ?_
    refine rvc_open rfl rfl rfl (rexec_call hP C rfl rfl rfl (jBounds_calls calls hl2) ?_)
    refine rvP C (.pv (.lit (.bool (jBounds calls)))) ?_
    refine rvP C (.pv (.lit (.bool (jBounds calls)))) ?_
    refine rvc_case 22 (jBounds calls) rfl (fun h4 => ?_) (fun h4 => ?_)
    ·
     replace hR := of_true h4 hR
     refine rvO C (sS (some calls.nil) eCall calls.D) ?_
     refine rvc_open rfl rfl rfl (rexec_call hP C rfl rfl rfl (jSessions_calls calls hl2) ?_)
     refine rvP C (.pv (.lit (.bool (jSessions calls)))) ?_
     refine rvP C (.pv (.lit (.bool (jSessions calls)))) ?_
     refine rvc_nil ?_
     refine Awp.ret ?_
     subst hR
     exact ⟨.inl rfl, rfl⟩
    ·
     replace hR := of_false h4 hR
     refine rvS ?_
     refine rvS ?_
     refine rvP C (.pv (.lit (.bool false))) ?_
     refine rvP C (.pv (.lit (.bool false))) ?_
     refine rvc_nil ?_
     refine Awp.ret ?_
     subst hR
     exact ⟨.inl rfl, rfl⟩
   ·
    replace hR := of_false h3 hR
    refine rvS ?_
    refine rvS ?_
    refine rvP C (.pv (.lit (.bool false))) ?_
    refine rvP C (.pv (.lit (.bool false))) ?_
    refine rvS ?_
    refine rvS ?_
    refine rvP C (.pv (.lit (.bool false))) ?_
    refine rvP C (.pv (.lit (.bool false))) ?_
    refine rvc_nil ?_
    refine Awp.ret ?_
    subst hR
    exact ⟨.inl rfl, rfl⟩
  ·
   replace hR := of_false h2 hR
   refine rvS ?_
   refine rvS ?_
   refine rvS ?_
   refine rvP C (.pv (.lit (.bool false))) ?_
   refine rvP C (.pv (.lit (.bool false))) ?_
   refine rvS ?_
   refine rvS ?_
   refine rvP C (.pv (.lit (.bool false))) ?_
   refine rvP C (.pv (.lit (.bool false))) ?_
   refine rvS ?_
   refine rvS ?_
   refine rvP C (.pv (.lit (.bool false))) ?_
   refine rvP C (.pv (.lit (.bool false))) ?_
   refine rvc_nil ?_
   refine Awp.ret ?_
   subst hR
   exact ⟨.inl rfl, rfl⟩
 ·
  replace hR := of_false h1 hR
  refine rvS ?_
  refine rvS ?_
  refine rvS ?_
  refine rvP C (.pv (.lit (.bool false))) ?_
  refine rvP C (.pv (.lit (.bool false))) ?_
  refine rvS ?_
  refine rvS ?_
  refine rvS ?_
  refine rvP C (.pv (.lit (.bool false))) ?_
  refine rvP C (.pv (.lit (.bool false))) ?_
  refine rvS ?_
  refine rvS ?_
  refine rvP C (.pv (.lit (.bool false))) ?_
  refine rvP C (.pv (.lit (.bool false))) ?_
  refine rvS ?_
  refine rvS ?_
  refine rvP C (.pv (.lit (.bool false))) ?_
  refine rvP C (.pv (.lit (.bool false))) ?_
  refine rvc_nil ?_
  refine Awp.ret ?_
  subst hR
  exact ⟨.inl rfl, rfl⟩
end Go.Proofs.Ytoieegmebadfkaa
namespace Go.Proofs.Ytoieegmebadfkaa
open Go.Am
theorem jStrong_l0_eq (calls : Sl Call) (recs : Sl Record) : ∀ (ks : List (Nat → Int)) (i : Nat), jStrong_l0 calls recs ks i = (ks.map kL).all fun k => versions (Sl.mk false (opsOf k recs calls.D))
  | [], _ => by unfold jStrong_l0; rfl
  | k :: ks, i => by
    unfold jStrong_l0
    rw [jStrong_l0_eq calls recs ks (i + 1), List.map_cons, List.all_cons, jOps_eq, versions_D (l := Sl.mk (opsOf (kL k) recs calls.D).isEmpty (opsOf (kL k) recs calls.D)) (m := Sl.mk false (opsOf (kL k) recs calls.D)) rfl]
    cases versions (Sl.mk false (opsOf (kL k) recs calls.D)) <;> rfl
theorem jStrong_iff {calls : Sl Call} (recs : Sl Record) (hL : calls.D.length ≤ 1000000) : jStrong calls recs = true ↔ ∀ x ∈ calls.D, VP (opsOf (kL x.key) recs calls.D) := by
  unfold jStrong
  rw [jStrong_l0_eq, List.all_eq_true]
  obtain ⟨_, p⟩ := jKeys_spec hL
  constructor
  · intro h x hx
    exact (versions_iff _).1 (h (kL x.key) ((p _).2 (List.mem_map_of_mem (f := fun x : Call => kL x.key) hx)))
  · intro h k hk
    obtain ⟨x, hx, rfl⟩ := List.mem_map.1 ((p k).1 hk)
    exact (versions_iff _).2 (h x hx)
def slotP (c : Call) (x : Record) : Bool := decide (kL c.key = kL x.key ∧ c.ver = x.ver)
def okV (recs : Sl Record) (c : Call) : Bool := !ans c || (bif c.write then (match lastC c recs with
    | none => false
    | some w => (w.ver == c.ver) && (decide (kL w.key = kL c.key) && (w.value.toList == c.value.toList)))
  else bif c.ver == 0 then c.value.toList == (⟨#[]⟩ : ByteArray).toList else (match lastP (slotP c) recs.D none with
    | none => false
    | some r => r.value.toList == c.value.toList))
theorem ofSlot (c : Call) (recs : Sl Record) : mGet kSlot (Slot.mk c.key c.ver) (openB recs).of_ = lastP (slotP c) recs.D none := openB_of _ _
theorem jValues_l0_eq (recs : Sl Record) : ∀ (xs : List Call) (i : Nat), jValues_l0 recs xs i = xs.all (okV recs)
  | [], _ => by unfold jValues_l0; rfl
  | x :: xs, i => by
    unfold jValues_l0
    rw [jValues_l0_eq recs xs (i + 1), List.all_cons, jAns_eq, reqOf, ofSlot]
    generalize xs.all (okV recs) = r
    unfold okV
    cases ans x
    · simp
    · rw [Bool.not_true, cond_false, Bool.false_or]
      cases x.write
      · rw [cond_false, cond_false]
        cases (x.ver == 0)
        · rw [cond_false, cond_false]
          cases lastP (slotP x) recs.D none with
          | none => rfl
          | some w =>
            simp only [Option.isSome_some, Bool.not_true, cond_false, Option.getD_some]
            cases (w.value.toList == x.value.toList) <;> rfl
        · rw [cond_true, cond_true]
          cases (x.value.toList == (⟨#[]⟩ : ByteArray).toList) <;> rfl
      · rw [cond_true, cond_true]
        cases lastC x recs with
        | none => rfl
        | some w =>
          simp only [Option.isSome_some, Bool.not_true, cond_false, Option.getD_some, eq8]
          rw [show (w.ver != x.ver) = !(w.ver == x.ver) from rfl]
          cases (w.ver == x.ver) <;> cases decide (kL w.key = kL x.key) <;> cases (w.value.toList == x.value.toList) <;> rfl
theorem jValues_eq (calls : Sl Call) (recs : Sl Record) : jValues calls recs = calls.D.all (okV recs) := jValues_l0_eq recs calls.D 0
def i64 (n : Int) : Prop := -9223372036854775808 ≤ n ∧ n ≤ 9223372036854775807
end Go.Proofs.Ytoieegmebadfkaa
namespace Go.Proofs.Ytoieegmebadfkaa
open Go.Am
theorem eqKeys_l0_of (s2 : Sl (Nat → Int)) : ∀ (xs : List (Nat → Int)) (i : Nat), xs.map kL = (s2.D.drop i).map kL → eqKeys_l0 s2 xs i = true
  | [], _, _ => by unfold eqKeys_l0; rfl
  | x :: xs, i, h => by
    have hi : i < s2.D.length := by
      rcases Nat.lt_or_ge i s2.D.length with h' | h'
      · exact h'
      · rw [List.drop_of_length_le h'] at h; cases h
    rw [List.drop_eq_getElem_cons hi, List.map_cons, List.map_cons] at h
    obtain ⟨h1, h2⟩ := List.cons.inj h
    unfold eqKeys_l0
    rw [Int.toNat_natCast, eq8, getElem!_pos s2.D i hi, decide_eq_true h1, Bool.not_true, cond_false]
    exact eqKeys_l0_of s2 xs (i + 1) h2
theorem eqKeys_of {a b : Sl (Nat → Int)} (h : a.D.map kL = b.D.map kL) : eqKeys a b = true := by
  unfold eqKeys
  have hl := congrArg List.length h
  rw [List.length_map, List.length_map] at hl
  rw [hl, show ((b.D.length : Int) != (b.D.length : Int)) = false by simp, cond_false]
  exact eqKeys_l0_of b a.D 0 (by rw [List.drop_zero]; exact h)
theorem eqOps_l0_of (s2 : Sl Op) : ∀ (xs : List Op) (i : Nat), xs = s2.D.drop i → eqOps_l0 s2 xs i = true
  | [], _, _ => by unfold eqOps_l0; rfl
  | x :: xs, i, h => by
    have hi : i < s2.D.length := by
      rcases Nat.lt_or_ge i s2.D.length with h' | h'
      · exact h'
      · rw [List.drop_of_length_le h'] at h; cases h
    rw [List.drop_eq_getElem_cons hi] at h
    obtain ⟨h1, h2⟩ := List.cons.inj h
    unfold eqOps_l0
    rw [Int.toNat_natCast, getElem!_pos s2.D i hi, ← h1]
    simp only [beq_self_eq_true, Bool.and_true, Bool.not_true, cond_false]
    exact eqOps_l0_of s2 xs (i + 1) h2
theorem eqOps_of {a b : Sl Op} (h : a.D = b.D) : eqOps a b = true := by
  unfold eqOps
  rw [h, show ((b.D.length : Int) != (b.D.length : Int)) = false by simp, cond_false]
  exact eqOps_l0_of b b.D 0 (by rw [List.drop_zero])
theorem eqCalls_l0_of (s2 : Sl Call) : ∀ (xs : List Call) (i : Nat), xs = s2.D.drop i → eqCalls_l0 s2 xs i = true
  | [], _, _ => by unfold eqCalls_l0; rfl
  | x :: xs, i, h => by
    have hi : i < s2.D.length := by
      rcases Nat.lt_or_ge i s2.D.length with h' | h'
      · exact h'
      · rw [List.drop_of_length_le h'] at h; cases h
    rw [List.drop_eq_getElem_cons hi] at h
    obtain ⟨h1, h2⟩ := List.cons.inj h
    unfold eqCalls_l0
    rw [Int.toNat_natCast, getElem!_pos s2.D i hi, ← h1]
    simp only [beq_self_eq_true, Bool.and_true, Bool.not_true, cond_false]
    exact eqCalls_l0_of s2 xs (i + 1) h2
theorem eqCalls_of {a b : Sl Call} (h : a.D = b.D) : eqCalls a b = true := by
  unfold eqCalls
  rw [h, show ((b.D.length : Int) != (b.D.length : Int)) = false by simp, cond_false]
  exact eqCalls_l0_of b b.D 0 (by rw [List.drop_zero])
end Go.Proofs.Ytoieegmebadfkaa
namespace Go.Proofs.Ytoieegmebadfkaa
open Go.Am
theorem enc_ne {recs : List Record} (h : recs ≠ []) : encL eRecord recs ≠ [] := by
  cases recs with
  | nil => exact absurd rfl h
  | cons x xs => exact List.cons_ne_nil _ _
theorem jStrongW_calls (calls : Sl Call) (recs : Sl Record) (n_ : Nat) (tt_ : Bool) (hn_ : n_ = calls.D.length) (hne : recs.D ≠ []) (hl1 : calls.D.length ≤ 1000000) (hl2 : recs.D.length ≤ 1000000) : MCalls Try.prog 15 [.sl 0 0 n_ 19 tt_, .tsl recs.D.length (encL eRecord recs.D)] (.cells (encC eCall calls.D)) (.pv (.lit (.bool (jStrong (Sl.mk false calls.D) (Sl.mk false recs.D))))) (.cells (encC eCall calls.D)) := by
  subst hn_
  exact MCalls.of_PCalls (ps := encL eCall calls.D) ((jStrong_calls (Sl.mk false calls.D) (Sl.mk false recs.D) hl1 hl2).tsl (avs' := [sS (some false) eCall calls.D, .tsl recs.D.length (encL eRecord recs.D)]) ⟨.inl rfl, .inr ⟨_, _, enc_ne hne, rfl, rfl⟩, trivial⟩ rfl) ⟨.inr ⟨_, _, _, rfl, rfl⟩, .inl rfl, trivial⟩ rfl rfl
theorem jAllT_calls (calls : Sl Call) (recs : Sl Record) (hne : recs.D ≠ []) (hl1 : calls.D.length ≤ 1000000) (hl2 : recs.D.length ≤ 1000000) : PCalls Try.prog 19 [sS (some calls.nil) eCall calls.D, .tsl recs.D.length (encL eRecord recs.D)] (.pv (.lit (.bool (jAll calls (Sl.mk false recs.D))))) :=
  (jAll_calls calls (Sl.mk false recs.D) hl2 hl1).tsl ⟨.inl rfl, .inr ⟨_, _, enc_ne hne, rfl, rfl⟩, trivial⟩ rfl
theorem jAllW_calls (calls : Sl Call) (recs : Sl Record) (n_ : Nat) (tt_ : Bool) (hn_ : n_ = calls.D.length) (hne : recs.D ≠ []) (hl1 : calls.D.length ≤ 1000000) (hl2 : recs.D.length ≤ 1000000) : MCalls Try.prog 19 [.sl 0 0 n_ 19 tt_, .tsl recs.D.length (encL eRecord recs.D)] (.cells (encC eCall calls.D)) (.pv (.lit (.bool (jAll (Sl.mk false calls.D) (Sl.mk false recs.D))))) (.cells (encC eCall calls.D)) := by
  subst hn_
  exact MCalls.of_PCalls (ps := encL eCall calls.D) (jAllT_calls (Sl.mk false calls.D) recs hne hl1 hl2) ⟨.inr ⟨_, _, _, rfl, rfl⟩, .inl rfl, trivial⟩ rfl rfl
theorem jValuesT_calls (calls : Sl Call) (recs : Sl Record) (hne : recs.D ≠ []) (hl1 : calls.D.length ≤ 1000000) (hl2 : recs.D.length ≤ 1000000) : PCalls Try.prog 16 [sS (some calls.nil) eCall calls.D, .tsl recs.D.length (encL eRecord recs.D)] (.pv (.lit (.bool (jValues calls (Sl.mk false recs.D))))) :=
  (jValues_calls calls (Sl.mk false recs.D) hl2 hl1).tsl ⟨.inl rfl, .inr ⟨_, _, enc_ne hne, rfl, rfl⟩, trivial⟩ rfl
theorem jRightW_calls (recs : Sl Record) (n_ : Nat) (tt_ : Bool) (hn_ : n_ = recs.D.length) (hl1 : recs.D.length ≤ 1000000) : MCalls Try.prog 8 [.sl 0 0 n_ 14 tt_] (.cells (encC eRecord recs.D)) (.pv (.lit (.int .i64 (jRight (Sl.mk false recs.D))))) (.cells (encC eRecord recs.D)) := by
  subst hn_
  exact MCalls.of_PCalls (ps := encL eRecord recs.D) (jRight_calls (Sl.mk false recs.D) hl1) ⟨.inr ⟨_, _, _, rfl, rfl⟩, trivial⟩ rfl rfl
end Go.Proofs.Ytoieegmebadfkaa
namespace Go.Proofs.Ytoieegmebadfkaa
open Go.Am
def awL : List Call := [(Call.mk 0 1 true (ofL [(97 : Int), 0, 0, 0, 0, 0, 0, 0]) ⟨#[120]⟩ 0 0 1 2 1 0 0), (Call.mk 1 1 false (ofL [(97 : Int), 0, 0, 0, 0, 0, 0, 0]) ⟨#[]⟩ 0 0 3 4 0 0 0)]
def awR : List Record := [(Record.mk 1 1 (ofL [(97 : Int), 0, 0, 0, 0, 0, 0, 0]) 1 ⟨#[120]⟩ (Req.mk 0 1))]
def awake  : Bool :=
  (bif (jStrong (Sl.mk false awL) (Sl.mk false awR)) then false else (bif (jAll (Sl.mk false awL) (Sl.mk false awR)) then false else (bif (jAll (Sl.mk false (awL.set 1 (Call.mk (awL[1]!.client) (awL[1]!.seq) (awL[1]!.write) (ofL [(awL[1]!.key 0), (awL[1]!.key 1), (awL[1]!.key 2), (awL[1]!.key 3), (awL[1]!.key 4), (awL[1]!.key 5), (awL[1]!.key 6), (awL[1]!.key 7)]) (awL[1]!.value) 2 (awL[1]!.bound) (awL[1]!.began) (awL[1]!.ended) (awL[1]!.ver) (awL[1]!.err) (awL[1]!.floor)))) (Sl.mk false awR)) then (bif (jValues (Sl.mk false (awL.set 1 (Call.mk (awL[1]!.client) (awL[1]!.seq) (awL[1]!.write) (ofL [(awL[1]!.key 0), (awL[1]!.key 1), (awL[1]!.key 2), (awL[1]!.key 3), (awL[1]!.key 4), (awL[1]!.key 5), (awL[1]!.key 6), (awL[1]!.key 7)]) (awL[1]!.value) 2 (awL[1]!.bound) (awL[1]!.began) (awL[1]!.ended) (awL[1]!.ver) (awL[1]!.err) (awL[1]!.floor)))) (Sl.mk false awR)) then (bif ((jRight (Sl.mk false (awR ++ awR))) == 200) then (eqKeys (jKeys (Sl.mk false (awL.set 1 (Call.mk (awL[1]!.client) (awL[1]!.seq) (awL[1]!.write) (ofL [(awL[1]!.key 0), (awL[1]!.key 1), (awL[1]!.key 2), (awL[1]!.key 3), (awL[1]!.key 4), (awL[1]!.key 5), (awL[1]!.key 6), (awL[1]!.key 7)]) (awL[1]!.value) 2 (awL[1]!.bound) (awL[1]!.began) (awL[1]!.ended) (awL[1]!.ver) (awL[1]!.err) (awL[1]!.floor))))) (Sl.mk false [(ofL [(97 : Int), 0, 0, 0, 0, 0, 0, 0])])) else false) else false) else false)))
theorem awake_calls   : PCalls Try.prog 10 [] (.pv (.lit (.bool (awake )))) := by
 generalize hR : awake  = R
 refine PCalls.of_body tabOk Try.func10 rfl rfl rfl rfl rfl mixed fun E hP C hI => ?_
 refine Awp.consP C ?_
 refine rvP C (.pv (.lit (.bool false))) ?_
 refine rvc_nil ?_
 refine Awp.consP C ?_
 refine rvP C (.agg [.pv (.lit (.int .u8 97)), .pv (.lit (.int .u8 0)), .pv (.lit (.int .u8 0)), .pv (.lit (.int .u8 0)), .pv (.lit (.int .u8 0)), .pv (.lit (.int .u8 0)), .pv (.lit (.int .u8 0)), .pv (.lit (.int .u8 0))]) ?_
 refine rvc_un (rexec_prim C (δ := { v := .ptr 1 0, new := [(1, .cells [.pv (.lit (.int .u8 0)), .pv (.lit (.int .u8 0)), .pv (.lit (.int .u8 0)), .pv (.lit (.int .u8 0)), .pv (.lit (.int .u8 0)), .pv (.lit (.int .u8 0)), .pv (.lit (.int .u8 0)), .pv (.lit (.int .u8 0))])] }) rfl rfl rfl rfl trivial rfl ?_)
 refine rvc_un (rexec_prim C (δ := { v := .undef, wr := [(1, some (.cells [.pv (.lit (.int .u8 97)), .pv (.lit (.int .u8 0)), .pv (.lit (.int .u8 0)), .pv (.lit (.int .u8 0)), .pv (.lit (.int .u8 0)), .pv (.lit (.int .u8 0)), .pv (.lit (.int .u8 0)), .pv (.lit (.int .u8 0))]))] }) rfl rfl rfl rfl trivial rfl ?_)
 refine rvc_nil ?_
 refine Awp.consP C ?_
 refine rvP C (.agg [.pv (.lit (.int .u8 97)), .pv (.lit (.int .u8 0)), .pv (.lit (.int .u8 0)), .pv (.lit (.int .u8 0)), .pv (.lit (.int .u8 0)), .pv (.lit (.int .u8 0)), .pv (.lit (.int .u8 0)), .pv (.lit (.int .u8 0))]) ?_
 refine rvP C (.agg [.pv (.lit (.int .i64 0)), .pv (.lit (.int .i64 1))]) ?_
 refine rvP C (.agg [.pv (.lit (.int .i64 1)), .pv (.lit (.int .i64 1)), .pv (.lit (.int .u8 97)), .pv (.lit (.int .u8 0)), .pv (.lit (.int .u8 0)), .pv (.lit (.int .u8 0)), .pv (.lit (.int .u8 0)), .pv (.lit (.int .u8 0)), .pv (.lit (.int .u8 0)), .pv (.lit (.int .u8 0)), .pv (.lit (.int .i64 1)), .pv (.lit (.string ⟨#[120]⟩)), .pv (.lit (.int .i64 0)), .pv (.lit (.int .i64 1))]) ?_
 refine rvc_un (rexec_prim C (δ := { v := .ptr 2 0, new := [(2, .cells [.pv (.lit (.int .i64 0)), .pv (.lit (.int .i64 0)), .pv (.lit (.int .u8 0)), .pv (.lit (.int .u8 0)), .pv (.lit (.int .u8 0)), .pv (.lit (.int .u8 0)), .pv (.lit (.int .u8 0)), .pv (.lit (.int .u8 0)), .pv (.lit (.int .u8 0)), .pv (.lit (.int .u8 0)), .pv (.lit (.int .i64 0)), .pv (.lit (.string ⟨#[]⟩)), .pv (.lit (.int .i64 0)), .pv (.lit (.int .i64 0))])] }) rfl rfl rfl rfl trivial rfl ?_)
 refine rvc_un (rexec_prim C (δ := { v := .undef, wr := [(2, some (.cells [.pv (.lit (.int .i64 1)), .pv (.lit (.int .i64 1)), .pv (.lit (.int .u8 97)), .pv (.lit (.int .u8 0)), .pv (.lit (.int .u8 0)), .pv (.lit (.int .u8 0)), .pv (.lit (.int .u8 0)), .pv (.lit (.int .u8 0)), .pv (.lit (.int .u8 0)), .pv (.lit (.int .u8 0)), .pv (.lit (.int .i64 1)), .pv (.lit (.string ⟨#[120]⟩)), .pv (.lit (.int .i64 0)), .pv (.lit (.int .i64 1))]))] }) rfl rfl rfl rfl trivial rfl ?_)
 refine rvc_nil ?_
 refine Awp.consP C ?_
 refine rvP C (.agg [.pv (.lit (.int .u8 97)), .pv (.lit (.int .u8 0)), .pv (.lit (.int .u8 0)), .pv (.lit (.int .u8 0)), .pv (.lit (.int .u8 0)), .pv (.lit (.int .u8 0)), .pv (.lit (.int .u8 0)), .pv (.lit (.int .u8 0))]) ?_
 refine rvP C (.agg [.pv (.lit (.int .i64 0)), .pv (.lit (.int .i64 1)), .pv (.lit (.bool true)), .pv (.lit (.int .u8 97)), .pv (.lit (.int .u8 0)), .pv (.lit (.int .u8 0)), .pv (.lit (.int .u8 0)), .pv (.lit (.int .u8 0)), .pv (.lit (.int .u8 0)), .pv (.lit (.int .u8 0)), .pv (.lit (.int .u8 0)), .pv (.lit (.string ⟨#[120]⟩)), .pv (.lit (.int .i64 0)), .pv (.lit (.int .i64 0)), .pv (.lit (.int .i64 1)), .pv (.lit (.int .i64 2)), .pv (.lit (.int .i64 1)), .pv (.lit (.int .i64 0)), .pv (.lit (.int .i64 0))]) ?_
 refine rvP C (.agg [.pv (.lit (.int .u8 97)), .pv (.lit (.int .u8 0)), .pv (.lit (.int .u8 0)), .pv (.lit (.int .u8 0)), .pv (.lit (.int .u8 0)), .pv (.lit (.int .u8 0)), .pv (.lit (.int .u8 0)), .pv (.lit (.int .u8 0))]) ?_
 refine rvP C (.agg [.pv (.lit (.int .i64 1)), .pv (.lit (.int .i64 1)), .pv (.lit (.bool false)), .pv (.lit (.int .u8 97)), .pv (.lit (.int .u8 0)), .pv (.lit (.int .u8 0)), .pv (.lit (.int .u8 0)), .pv (.lit (.int .u8 0)), .pv (.lit (.int .u8 0)), .pv (.lit (.int .u8 0)), .pv (.lit (.int .u8 0)), .pv (.lit (.string ⟨#[]⟩)), .pv (.lit (.int .i64 0)), .pv (.lit (.int .i64 0)), .pv (.lit (.int .i64 3)), .pv (.lit (.int .i64 4)), .pv (.lit (.int .i64 0)), .pv (.lit (.int .i64 0)), .pv (.lit (.int .i64 0))]) ?_
 refine rvc_un (rexec_prim C (δ := { v := .sl 13 0 (awL.length) 19 true, new := [(13, .cells (encC eCall awL))] }) rfl rfl rfl rfl trivial rfl ?_)
 refine rvP C (.sl 13 0 (awL.length) 19 true) ?_
 refine rvc_nil ?_
 refine Awp.consP C ?_
 refine rvP C (.agg [.pv (.lit (.int .i64 1)), .pv (.lit (.int .i64 1)), .pv (.lit (.int .u8 97)), .pv (.lit (.int .u8 0)), .pv (.lit (.int .u8 0)), .pv (.lit (.int .u8 0)), .pv (.lit (.int .u8 0)), .pv (.lit (.int .u8 0)), .pv (.lit (.int .u8 0)), .pv (.lit (.int .u8 0)), .pv (.lit (.int .i64 1)), .pv (.lit (.string ⟨#[120]⟩)), .pv (.lit (.int .i64 0)), .pv (.lit (.int .i64 1))]) ?_
 refine rvc_un (rexec_buildSliceT C eRecord awR rfl rfl rfl rfl rfl rfl rfl (by decide) rfl ?_)
 refine rvP C (.tsl awR.length (encL eRecord awR)) ?_
 refine rvc_nil ?_
 refine Awp.seq ?_
 refine Awp.cons C (fun _ => .writer) (by kernel_rfl) ?_
 refine rvP C (.sl 13 0 (awL.length) 19 true) ?_
 refine rvP C (.tsl awR.length (encL eRecord awR)) ?_
 refine rvc_un (rexec_callM hP C (b := 13) rfl rfl rfl (jStrongW_calls (Sl.mk false awL) (Sl.mk false awR) (awL.length) true rfl (List.cons_ne_nil _ _) (of_decide_eq_true (by kernel_rfl)) (of_decide_eq_true (by kernel_rfl))) rfl rfl ?_)
 refine rvP C (.pv (.lit (.bool (jStrong (Sl.mk false awL) (Sl.mk false awR))))) ?_
 refine rvc_case 19 (jStrong (Sl.mk false awL) (Sl.mk false awR)) rfl (fun h1 => ?_) (fun h1 => ?_)
 ·
  replace hR := of_true h1 hR
  refine rvS ?_
  refine rvS ?_
  refine rvS ?_
  refine rvP C (.pv (.lit (.bool true))) ?_
  refine rvc_nil ?_
  refine Awp.condT (b := true) rfl rfl ?_
  refine Awp.consP C ?_
  refine rvP C (.pv (.lit (.bool false))) ?_
  refine rvc_nil ?_
  refine Awp.ret ?_
  subst hR
  exact ⟨.inl rfl, rfl⟩
 ·
  replace hR := of_false h1 hR
  refine rvO C (.sl 13 0 (awL.length) 19 true) ?_
  refine rvO C (.tsl awR.length (encL eRecord awR)) ?_
  refine rvc_open rfl rfl rfl (rexec_callM hP C (b := 13) rfl rfl rfl (jAllW_calls (Sl.mk false awL) (Sl.mk false awR) (awL.length) true rfl (List.cons_ne_nil _ _) (of_decide_eq_true (by kernel_rfl)) (of_decide_eq_true (by kernel_rfl))) rfl rfl ?_)
  refine rvP C (.pv (.lit (.bool (jAll (Sl.mk false awL) (Sl.mk false awR))))) ?_
  refine rvc_nil ?_
  refine Awp.cond (b := (jAll (Sl.mk false awL) (Sl.mk false awR))) rfl (fun h2 => ?_) (fun h2 => ?_)
  ·
   replace hR := of_true h2 hR
   refine Awp.consP C ?_
   refine rvP C (.pv (.lit (.bool false))) ?_
   refine rvc_nil ?_
   refine Awp.ret ?_
   subst hR
   exact ⟨.inl rfl, rfl⟩
  ·
   replace hR := of_false h2 hR
   refine Awp.skip ?_
   refine Awp.consP C ?_
   refine rvP C (.sl 13 0 (awL.length) 19 true) ?_
   have h3 : awL[1]? = some awL[1]! := getE (by decide)
   refine rvc_un (rexec_prim C (δ := { v := .ptr 13 (0 + 1 * 19) }) rfl rfl rfl rfl ⟨by decide, by decide⟩ rfl ?_)
   refine rvP C (.ptr 13 (0 + 1 * 19 + 12)) ?_
   refine rvc_un (rexec_storeE C (e := eCall) 1 12 (awL[1]!) (Call.mk (awL[1]!.client) (awL[1]!.seq) (awL[1]!.write) (ofL [(awL[1]!.key 0), (awL[1]!.key 1), (awL[1]!.key 2), (awL[1]!.key 3), (awL[1]!.key 4), (awL[1]!.key 5), (awL[1]!.key 6), (awL[1]!.key 7)]) (awL[1]!.value) 2 (awL[1]!.bound) (awL[1]!.began) (awL[1]!.ended) (awL[1]!.ver) (awL[1]!.err) (awL[1]!.floor)) rfl rfl rfl rfl h3 (by simp [eCall]) rfl rfl rfl (of_decide_eq_true rfl) rfl ?_)
   refine rvc_nil ?_
   refine Awp.freezeW 13 (encL eCall (awL.set 1 (Call.mk (awL[1]!.client) (awL[1]!.seq) (awL[1]!.write) (ofL [(awL[1]!.key 0), (awL[1]!.key 1), (awL[1]!.key 2), (awL[1]!.key 3), (awL[1]!.key 4), (awL[1]!.key 5), (awL[1]!.key 6), (awL[1]!.key 7)]) (awL[1]!.value) 2 (awL[1]!.bound) (awL[1]!.began) (awL[1]!.ended) (awL[1]!.ver) (awL[1]!.err) (awL[1]!.floor)))) ?_ [(0, .pv (.lit (.bool false))), (1, .ptr 1 0), (2, .ptr 2 0), (3, sS (some false) eCall (awL.set 1 (Call.mk (awL[1]!.client) (awL[1]!.seq) (awL[1]!.write) (ofL [(awL[1]!.key 0), (awL[1]!.key 1), (awL[1]!.key 2), (awL[1]!.key 3), (awL[1]!.key 4), (awL[1]!.key 5), (awL[1]!.key 6), (awL[1]!.key 7)]) (awL[1]!.value) 2 (awL[1]!.bound) (awL[1]!.began) (awL[1]!.ended) (awL[1]!.ver) (awL[1]!.err) (awL[1]!.floor)))), (4, .tsl awR.length (encL eRecord awR))] [(1, .cells [.pv (.lit (.int .u8 97)), .pv (.lit (.int .u8 0)), .pv (.lit (.int .u8 0)), .pv (.lit (.int .u8 0)), .pv (.lit (.int .u8 0)), .pv (.lit (.int .u8 0)), .pv (.lit (.int .u8 0)), .pv (.lit (.int .u8 0))]), (2, .cells [.pv (.lit (.int .i64 1)), .pv (.lit (.int .i64 1)), .pv (.lit (.int .u8 97)), .pv (.lit (.int .u8 0)), .pv (.lit (.int .u8 0)), .pv (.lit (.int .u8 0)), .pv (.lit (.int .u8 0)), .pv (.lit (.int .u8 0)), .pv (.lit (.int .u8 0)), .pv (.lit (.int .u8 0)), .pv (.lit (.int .i64 1)), .pv (.lit (.string ⟨#[120]⟩)), .pv (.lit (.int .i64 0)), .pv (.lit (.int .i64 1))])] ?_ ?_ ?_
   · rfl
   · exact ⟨⟨_, rfl, .inl (.inl rfl)⟩, ⟨_, rfl, .inl (.inl rfl)⟩, ⟨_, rfl, .inl (.inl rfl)⟩, ⟨_, rfl, .inl (.inr ⟨_, _, _, rfl, by simp [sS] <;> omega⟩)⟩, ⟨_, rfl, .inl (.inl rfl)⟩, trivial⟩
   · exact ⟨⟨(by show (1 : Nat) ≠ 13; decide), .inl rfl⟩, ⟨(by show (2 : Nat) ≠ 13; decide), .inl rfl⟩, trivial⟩
   refine Awp.cons C (fun o => match o.dst with | some 37 => .reads [2] | some 46 => .reads [1] | some 38 => .writes [] | some 47 => .writes [] | some 39 => .writes [39] | some 40 => .writes [39] | _ => .pure) (by kernel_rfl) ?_
   refine rvP C (sS (some false) eCall (awL.set 1 (Call.mk (awL[1]!.client) (awL[1]!.seq) (awL[1]!.write) (ofL [(awL[1]!.key 0), (awL[1]!.key 1), (awL[1]!.key 2), (awL[1]!.key 3), (awL[1]!.key 4), (awL[1]!.key 5), (awL[1]!.key 6), (awL[1]!.key 7)]) (awL[1]!.value) 2 (awL[1]!.bound) (awL[1]!.began) (awL[1]!.ended) (awL[1]!.ver) (awL[1]!.err) (awL[1]!.floor)))) ?_
   refine rvP C (.tsl awR.length (encL eRecord awR)) ?_
   refine rvc_un (rexec_call hP C rfl rfl rfl (jAllT_calls (Sl.mk false (awL.set 1 (Call.mk (awL[1]!.client) (awL[1]!.seq) (awL[1]!.write) (ofL [(awL[1]!.key 0), (awL[1]!.key 1), (awL[1]!.key 2), (awL[1]!.key 3), (awL[1]!.key 4), (awL[1]!.key 5), (awL[1]!.key 6), (awL[1]!.key 7)]) (awL[1]!.value) 2 (awL[1]!.bound) (awL[1]!.began) (awL[1]!.ended) (awL[1]!.ver) (awL[1]!.err) (awL[1]!.floor)))) (Sl.mk false awR) (List.cons_ne_nil _ _) (of_decide_eq_true (by kernel_rfl)) (of_decide_eq_true (by kernel_rfl))) ?_)
   refine rvP C (.pv (.lit (.bool (jAll (Sl.mk false (awL.set 1 (Call.mk (awL[1]!.client) (awL[1]!.seq) (awL[1]!.write) (ofL [(awL[1]!.key 0), (awL[1]!.key 1), (awL[1]!.key 2), (awL[1]!.key 3), (awL[1]!.key 4), (awL[1]!.key 5), (awL[1]!.key 6), (awL[1]!.key 7)]) (awL[1]!.value) 2 (awL[1]!.bound) (awL[1]!.began) (awL[1]!.ended) (awL[1]!.ver) (awL[1]!.err) (awL[1]!.floor)))) (Sl.mk false awR))))) ?_
   refine rvc_case 30 (jAll (Sl.mk false (awL.set 1 (Call.mk (awL[1]!.client) (awL[1]!.seq) (awL[1]!.write) (ofL [(awL[1]!.key 0), (awL[1]!.key 1), (awL[1]!.key 2), (awL[1]!.key 3), (awL[1]!.key 4), (awL[1]!.key 5), (awL[1]!.key 6), (awL[1]!.key 7)]) (awL[1]!.value) 2 (awL[1]!.bound) (awL[1]!.began) (awL[1]!.ended) (awL[1]!.ver) (awL[1]!.err) (awL[1]!.floor)))) (Sl.mk false awR)) rfl (fun h4 => ?_) (fun h4 => ?_)
   ·
    replace hR := of_true h4 hR
    refine rvO C (sS (some false) eCall (awL.set 1 (Call.mk (awL[1]!.client) (awL[1]!.seq) (awL[1]!.write) (ofL [(awL[1]!.key 0), (awL[1]!.key 1), (awL[1]!.key 2), (awL[1]!.key 3), (awL[1]!.key 4), (awL[1]!.key 5), (awL[1]!.key 6), (awL[1]!.key 7)]) (awL[1]!.value) 2 (awL[1]!.bound) (awL[1]!.began) (awL[1]!.ended) (awL[1]!.ver) (awL[1]!.err) (awL[1]!.floor)))) ?_
    refine rvO C (.tsl awR.length (encL eRecord awR)) ?_
    refine rvc_open rfl rfl rfl (rexec_call hP C rfl rfl rfl (jValuesT_calls (Sl.mk false (awL.set 1 (Call.mk (awL[1]!.client) (awL[1]!.seq) (awL[1]!.write) (ofL [(awL[1]!.key 0), (awL[1]!.key 1), (awL[1]!.key 2), (awL[1]!.key 3), (awL[1]!.key 4), (awL[1]!.key 5), (awL[1]!.key 6), (awL[1]!.key 7)]) (awL[1]!.value) 2 (awL[1]!.bound) (awL[1]!.began) (awL[1]!.ended) (awL[1]!.ver) (awL[1]!.err) (awL[1]!.floor)))) (Sl.mk false awR) (List.cons_ne_nil _ _) (of_decide_eq_true (by kernel_rfl)) (of_decide_eq_true (by kernel_rfl))) ?_)
    refine rvP C (.pv (.lit (.bool (jValues (Sl.mk false (awL.set 1 (Call.mk (awL[1]!.client) (awL[1]!.seq) (awL[1]!.write) (ofL [(awL[1]!.key 0), (awL[1]!.key 1), (awL[1]!.key 2), (awL[1]!.key 3), (awL[1]!.key 4), (awL[1]!.key 5), (awL[1]!.key 6), (awL[1]!.key 7)]) (awL[1]!.value) 2 (awL[1]!.bound) (awL[1]!.began) (awL[1]!.ended) (awL[1]!.ver) (awL[1]!.err) (awL[1]!.floor)))) (Sl.mk false awR))))) ?_
    refine rvP C (.pv (.lit (.bool (jValues (Sl.mk false (awL.set 1 (Call.mk (awL[1]!.client) (awL[1]!.seq) (awL[1]!.write) (ofL [(awL[1]!.key 0), (awL[1]!.key 1), (awL[1]!.key 2), (awL[1]!.key 3), (awL[1]!.key 4), (awL[1]!.key 5), (awL[1]!.key 6), (awL[1]!.key 7)]) (awL[1]!.value) 2 (awL[1]!.bound) (awL[1]!.began) (awL[1]!.ended) (awL[1]!.ver) (awL[1]!.err) (awL[1]!.floor)))) (Sl.mk false awR))))) ?_
    refine rvc_case 35 (jValues (Sl.mk false (awL.set 1 (Call.mk (awL[1]!.client) (awL[1]!.seq) (awL[1]!.write) (ofL [(awL[1]!.key 0), (awL[1]!.key 1), (awL[1]!.key 2), (awL[1]!.key 3), (awL[1]!.key 4), (awL[1]!.key 5), (awL[1]!.key 6), (awL[1]!.key 7)]) (awL[1]!.value) 2 (awL[1]!.bound) (awL[1]!.began) (awL[1]!.ended) (awL[1]!.ver) (awL[1]!.err) (awL[1]!.floor)))) (Sl.mk false awR)) rfl (fun h5 => ?_) (fun h5 => ?_)
    ·
     replace hR := of_true h5 hR
     refine rvO C (.tsl awR.length (encL eRecord awR)) ?_
     refine rvO C (.agg [.pv (.lit (.int .i64 1)), .pv (.lit (.int .i64 1)), .pv (.lit (.int .u8 97)), .pv (.lit (.int .u8 0)), .pv (.lit (.int .u8 0)), .pv (.lit (.int .u8 0)), .pv (.lit (.int .u8 0)), .pv (.lit (.int .u8 0)), .pv (.lit (.int .u8 0)), .pv (.lit (.int .u8 0)), .pv (.lit (.int .i64 1)), .pv (.lit (.string ⟨#[120]⟩)), .pv (.lit (.int .i64 0)), .pv (.lit (.int .i64 1))]) ?_
     refine rvc_open rfl rfl rfl (rexec_buildSliceF C eRecord awR rfl rfl rfl rfl rfl rfl rfl (by decide) rfl ?_)
     refine rvc_open rfl rfl rfl (rexec_appendT C rfl rfl rfl rfl rfl rfl rfl rfl (fun _ h => by cases h) rfl (en := eRecord) (D0 := awR) (D := awR) rfl rfl (by decide) (by decide) (by decide) (nn := (awR ++ awR).length) (by decide) ?_)
     refine rvc_open rfl rfl rfl (rexec_callM hP C (b := 39) rfl rfl rfl (jRightW_calls (Sl.mk false (awR ++ awR)) ((awR ++ awR).length) false rfl (of_decide_eq_true (by kernel_rfl))) rfl rfl ?_)
     refine rvO C (.pv (.lit (.bool ((jRight (Sl.mk false (awR ++ awR))) == 200)))) ?_
     refine rvP C (.pv (.lit (.bool ((jRight (Sl.mk false (awR ++ awR))) == 200)))) ?_
     refine rvP C (.pv (.lit (.bool ((jRight (Sl.mk false (awR ++ awR))) == 200)))) ?_
     refine rvc_case 43 ((jRight (Sl.mk false (awR ++ awR))) == 200) rfl (fun h6 => ?_) (fun h6 => ?_)
     ·
      replace hR := of_true h6 hR
      refine rvO C (sS (some false) eCall (awL.set 1 (Call.mk (awL[1]!.client) (awL[1]!.seq) (awL[1]!.write) (ofL [(awL[1]!.key 0), (awL[1]!.key 1), (awL[1]!.key 2), (awL[1]!.key 3), (awL[1]!.key 4), (awL[1]!.key 5), (awL[1]!.key 6), (awL[1]!.key 7)]) (awL[1]!.value) 2 (awL[1]!.bound) (awL[1]!.began) (awL[1]!.ended) (awL[1]!.ver) (awL[1]!.err) (awL[1]!.floor)))) ?_
      refine rvc_open rfl rfl rfl (rexec_call hP C rfl rfl rfl (jKeys_calls (Sl.mk false (awL.set 1 (Call.mk (awL[1]!.client) (awL[1]!.seq) (awL[1]!.write) (ofL [(awL[1]!.key 0), (awL[1]!.key 1), (awL[1]!.key 2), (awL[1]!.key 3), (awL[1]!.key 4), (awL[1]!.key 5), (awL[1]!.key 6), (awL[1]!.key 7)]) (awL[1]!.value) 2 (awL[1]!.bound) (awL[1]!.began) (awL[1]!.ended) (awL[1]!.ver) (awL[1]!.err) (awL[1]!.floor)))) (of_decide_eq_true (by kernel_rfl))) ?_)
      refine rvO C (.agg [.pv (.lit (.int .u8 97)), .pv (.lit (.int .u8 0)), .pv (.lit (.int .u8 0)), .pv (.lit (.int .u8 0)), .pv (.lit (.int .u8 0)), .pv (.lit (.int .u8 0)), .pv (.lit (.int .u8 0)), .pv (.lit (.int .u8 0))]) ?_
      refine rvc_open rfl rfl rfl (rexec_buildSliceF C (eA8 .u8) [(ofL [(97 : Int), 0, 0, 0, 0, 0, 0, 0])] rfl rfl rfl rfl rfl rfl rfl (by decide) rfl ?_)
      refine rvc_open rfl rfl rfl (rexec_call hP C rfl rfl rfl (eqKeys_calls (jKeys (Sl.mk false (awL.set 1 (Call.mk (awL[1]!.client) (awL[1]!.seq) (awL[1]!.write) (ofL [(awL[1]!.key 0), (awL[1]!.key 1), (awL[1]!.key 2), (awL[1]!.key 3), (awL[1]!.key 4), (awL[1]!.key 5), (awL[1]!.key 6), (awL[1]!.key 7)]) (awL[1]!.value) 2 (awL[1]!.bound) (awL[1]!.began) (awL[1]!.ended) (awL[1]!.ver) (awL[1]!.err) (awL[1]!.floor))))) (Sl.mk false [(ofL [(97 : Int), 0, 0, 0, 0, 0, 0, 0])]) (of_decide_eq_true (by kernel_rfl))) ?_)
      refine rvP C (.pv (.lit (.bool (eqKeys (jKeys (Sl.mk false (awL.set 1 (Call.mk (awL[1]!.client) (awL[1]!.seq) (awL[1]!.write) (ofL [(awL[1]!.key 0), (awL[1]!.key 1), (awL[1]!.key 2), (awL[1]!.key 3), (awL[1]!.key 4), (awL[1]!.key 5), (awL[1]!.key 6), (awL[1]!.key 7)]) (awL[1]!.value) 2 (awL[1]!.bound) (awL[1]!.began) (awL[1]!.ended) (awL[1]!.ver) (awL[1]!.err) (awL[1]!.floor))))) (Sl.mk false [(ofL [(97 : Int), 0, 0, 0, 0, 0, 0, 0])]))))) ?_
      refine rvP C (.pv (.lit (.bool (eqKeys (jKeys (Sl.mk false (awL.set 1 (Call.mk (awL[1]!.client) (awL[1]!.seq) (awL[1]!.write) (ofL [(awL[1]!.key 0), (awL[1]!.key 1), (awL[1]!.key 2), (awL[1]!.key 3), (awL[1]!.key 4), (awL[1]!.key 5), (awL[1]!.key 6), (awL[1]!.key 7)]) (awL[1]!.value) 2 (awL[1]!.bound) (awL[1]!.began) (awL[1]!.ended) (awL[1]!.ver) (awL[1]!.err) (awL[1]!.floor))))) (Sl.mk false [(ofL [(97 : Int), 0, 0, 0, 0, 0, 0, 0])]))))) ?_
      refine rvc_nil ?_
      refine Awp.ret ?_
      subst hR
      exact ⟨.inl rfl, rfl⟩
     ·
      replace hR := of_false h6 hR
      refine rvS ?_
      refine rvS ?_
      refine rvS ?_
      refine rvS ?_
      refine rvS ?_
      refine rvP C (.pv (.lit (.bool false))) ?_
      refine rvP C (.pv (.lit (.bool false))) ?_
      refine rvc_nil ?_
      refine Awp.ret ?_
      subst hR
      exact ⟨.inl rfl, rfl⟩
    ·
     replace hR := of_false h5 hR
     refine rvS ?_
     refine rvS ?_
     refine rvS ?_
     refine rvS ?_
     refine rvS ?_
     refine rvS ?_
     refine rvP C (.pv (.lit (.bool false))) ?_
     refine rvP C (.pv (.lit (.bool false))) ?_
     refine rvS ?_
     refine rvS ?_
     refine rvS ?_
     refine rvS ?_
     refine rvS ?_
     refine rvP C (.pv (.lit (.bool false))) ?_
     refine rvP C (.pv (.lit (.bool false))) ?_
     refine rvc_nil ?_
     refine Awp.ret ?_
     subst hR
     exact ⟨.inl rfl, rfl⟩
   ·
    replace hR := of_false h4 hR
    refine rvS ?_
    refine rvS ?_
    refine rvS ?_
    refine rvP C (.pv (.lit (.bool false))) ?_
    refine rvP C (.pv (.lit (.bool false))) ?_
    refine rvS ?_
    refine rvS ?_
    refine rvS ?_
    refine rvS ?_
    refine rvS ?_
    refine rvS ?_
    refine rvP C (.pv (.lit (.bool false))) ?_
    refine rvP C (.pv (.lit (.bool false))) ?_
    refine rvS ?_
    refine rvS ?_
    refine rvS ?_
    refine rvS ?_
    refine rvS ?_
    refine rvP C (.pv (.lit (.bool false))) ?_
    refine rvP C (.pv (.lit (.bool false))) ?_
    refine rvc_nil ?_
    refine Awp.ret ?_
    subst hR
    exact ⟨.inl rfl, rfl⟩
end Go.Proofs.Ytoieegmebadfkaa
namespace Go.Proofs.Ytoieegmebadfkaa
open Go.Am
def kA : Nat → Int := ofL [(97 : Int), 0, 0, 0, 0, 0, 0, 0]
def cA : Call := Call.mk 0 1 true kA ⟨#[120]⟩ 0 0 1 2 1 0 0
def cB : Call := Call.mk 1 1 false kA ⟨#[]⟩ 0 0 3 4 0 0 0
def cC : Call := Call.mk 1 1 false (ofL [(cB.key 0), (cB.key 1), (cB.key 2), (cB.key 3), (cB.key 4), (cB.key 5), (cB.key 6), (cB.key 7)]) ⟨#[]⟩ 2 0 3 4 0 0 0
def rA : Record := Record.mk 1 1 kA 1 ⟨#[120]⟩ (Req.mk 0 1)
theorem awake_def : awake = (bif (jStrong (Sl.mk false [cA, cB]) (Sl.mk false [rA])) then false else (bif (jAll (Sl.mk false [cA, cB]) (Sl.mk false [rA])) then false else (bif (jAll (Sl.mk false [cA, cC]) (Sl.mk false [rA])) then (bif (jValues (Sl.mk false [cA, cC]) (Sl.mk false [rA])) then (bif ((jRight (Sl.mk false ([rA] ++ [rA]))) == 200) then (eqKeys (jKeys (Sl.mk false [cA, cC])) (Sl.mk false [kA])) else false) else false) else false))) := rfl
theorem ops1 : opsOf (kL kA) (Sl.mk false [rA]) [cA, cB] = [Op.mk true ⟨#[120]⟩ 1 1 2, Op.mk false ⟨#[]⟩ 0 3 4] := by
  have e1 : sel (kL kA) cA = true := by decide
  have e2 : sel (kL kA) cB = true := by decide
  unfold opsOf
  rw [List.filter_cons_of_pos e1, List.filter_cons_of_pos e2]; rfl
theorem ops2 : opsOf (kL kA) (Sl.mk false [rA]) [cA, cC] = [Op.mk true ⟨#[120]⟩ 1 1 2] := by
  have e1 : sel (kL kA) cA = true := by decide
  have e2 : ¬ sel (kL kA) cC = true := by decide
  unfold opsOf
  rw [List.filter_cons_of_pos e1, List.filter_cons_of_neg e2]; rfl
theorem strong1 : jStrong (Sl.mk false [cA, cB]) (Sl.mk false [rA]) = false := by
  rw [← Bool.not_eq_true, jStrong_iff _ (by decide)]
  intro h
  have := h cA List.mem_cons_self
  rw [show kL cA.key = kL kA from rfl] at this
  have hv := this.ris (Op.mk true ⟨#[120]⟩ 1 1 2) (by rw [ops1]; simp) (Op.mk false ⟨#[]⟩ 0 3 4) (by rw [ops1]; simp)
  exact absurd hv (by decide)
theorem vp2 : VP [Op.mk true ⟨#[120]⟩ 1 1 2] where
  w0 x hx _ _ := by rw [List.mem_singleton.1 hx]; decide
  one i j x y hi hj hij _ _ _ := by
    cases i with
    | zero => cases j with
      | zero => omega
      | succ j => simp at hj
    | succ i => simp at hi
  rd x hx hw _ := by rw [List.mem_singleton.1 hx] at hw; cases hw
  ris a ha b hb := by rw [List.mem_singleton.1 ha, List.mem_singleton.1 hb]; decide
theorem strong2 : jStrong (Sl.mk false [cA, cC]) (Sl.mk false [rA]) = true := by
  rw [jStrong_iff _ (by decide)]
  intro x hx
  have : kL x.key = kL kA := by
    simp only [List.mem_cons, List.not_mem_nil, or_false] at hx
    rcases hx with rfl | rfl <;> rfl
  rw [this, ops2]
  exact vp2
theorem right1 : jRight (Sl.mk false [rA]) = 0 := by decide
theorem right2 : (jRight (Sl.mk false ([rA] ++ [rA])) == 200) = true := by decide
theorem values2 : jValues (Sl.mk false [cA, cC]) (Sl.mk false [rA]) = true := by
  rw [jValues_eq]
  show (okV (Sl.mk false [rA]) cA && (okV (Sl.mk false [rA]) cC && true)) = true
  have e1 : okV (Sl.mk false [rA]) cA = true := by
    have hl : lastC cA (Sl.mk false [rA]) = some rA := by rfl
    unfold okV
    rw [hl]
    show (!ans cA || ((rA.ver == cA.ver) && (decide (kL rA.key = kL cA.key) && ((⟨#[120]⟩ : ByteArray).toList == (⟨#[120]⟩ : ByteArray).toList)))) = true
    rw [beq_self_eq_true]; decide
  have e2 : okV (Sl.mk false [rA]) cC = true := by
    show (!ans cC || ((⟨#[]⟩ : ByteArray).toList == (⟨#[]⟩ : ByteArray).toList)) = true
    rw [beq_self_eq_true, Bool.or_true]
  rw [e1, e2]; rfl
theorem bounds2 : jBounds (Sl.mk false [cA, cC]) = true := by decide
theorem sess2 : jSessions (Sl.mk false [cA, cC]) = true := by decide
theorem keys2 : eqKeys (jKeys (Sl.mk false [cA, cC])) (Sl.mk false [kA]) = true := by
  refine eqKeys_of ?_
  obtain ⟨p1, p2⟩ := jKeys_spec (calls := Sl.mk false [cA, cC]) (by decide)
  refine asc_ext _ _ p1 (List.pairwise_cons.2 ⟨fun _ h => (by cases h), .nil⟩) fun y => (p2 y).trans ?_
  show y ∈ [kL kA, kL kA] ↔ y ∈ [kL kA]
  simp
theorem awake_true : awake = true := by
  have a1 : jAll (Sl.mk false [cA, cB]) (Sl.mk false [rA]) = false := by
    unfold jAll; rw [strong1]; cases (jRight (Sl.mk false [rA]) == 0) <;> rfl
  have a2 : jAll (Sl.mk false [cA, cC]) (Sl.mk false [rA]) = true := by
    unfold jAll; rw [strong2, right1, values2, bounds2, sess2]; rfl
  rw [awake_def, strong1, a1, a2, values2, right2, keys2]; rfl
end Go.Proofs.Ytoieegmebadfkaa
namespace Go.Proofs.Ytoieegmebadfkaa
open Go.Am
end Go.Proofs.Ytoieegmebadfkaa
namespace Go.Proofs.Ytoieegmebadfkaa
open Go.Am
theorem cloneCalls_len (s : Sl Call) : (cloneCalls s).D.length ≤ s.D.length := by
  unfold cloneCalls
  cases s.nil
  · exact Nat.le_refl _
  · exact Nat.zero_le _
theorem cloneCalls_id {s : Sl Call} (h : s.nil = true → s.D = []) : (cloneCalls s).D = s.D := by
  unfold cloneCalls
  cases hn : s.nil
  · rfl
  · exact (h hn).symm
end Go.Proofs.Ytoieegmebadfkaa
namespace Go.Proofs.Ytoieegmebadfkaa
open Go.Am
set_option maxRecDepth 100000 in
theorem flat3 {m : Nat} {ps : List PV} (h : FlatA Try.prog (m + 1) 3 ps) : ∃ n, ps = [.lit (.int .i64 n)] ∧ (Lit.int .i64 n).wf = true := by
  unfold FlatA at h
  rw [Try.underlying3] at h
  exact h
set_option maxRecDepth 100000 in
theorem flat4 {m : Nat} {ps : List PV} (h : FlatA Try.prog (m + 1) 4 ps) : ∃ b, ps = [.lit (.bool b)] ∧ True := by
  unfold FlatA at h
  rw [Try.underlying4] at h
  obtain ⟨b, h⟩ := h
  exact ⟨b, h, trivial⟩
set_option maxRecDepth 100000 in
theorem flat5 {m : Nat} {ps : List PV} (h : FlatA Try.prog (m + 1) 5 ps) : ∃ n, ps = [.lit (.int .u8 n)] ∧ (Lit.int .u8 n).wf = true := by
  unfold FlatA at h
  rw [Try.underlying5] at h
  exact h
def WT31 (f : Nat → Int) : Prop := ∀ j, j < 8 → (Lit.int .u8 (f j)).wf = true
set_option maxRecDepth 100000 in
theorem flat31 {m : Nat} {ps : List PV} (h : FlatA Try.prog (m + 2) 31 ps) : ∃ f : Nat → Int, ps = [.lit (.int .u8 (f 0)), .lit (.int .u8 (f 1)), .lit (.int .u8 (f 2)), .lit (.int .u8 (f 3)), .lit (.int .u8 (f 4)), .lit (.int .u8 (f 5)), .lit (.int .u8 (f 6)), .lit (.int .u8 (f 7))] ∧ WT31 f := by
  unfold FlatA at h
  rw [Try.underlying31] at h
  obtain ⟨D, rfl, h1, h2⟩ := h
  obtain ⟨a0, a1, a2, a3, a4, a5, a6, a7, rfl⟩ := len8 h1
  obtain ⟨x0, rfl, w0⟩ := flat5 (m := m) (h2 a0 (by simp))
  obtain ⟨x1, rfl, w1⟩ := flat5 (m := m) (h2 a1 (by simp))
  obtain ⟨x2, rfl, w2⟩ := flat5 (m := m) (h2 a2 (by simp))
  obtain ⟨x3, rfl, w3⟩ := flat5 (m := m) (h2 a3 (by simp))
  obtain ⟨x4, rfl, w4⟩ := flat5 (m := m) (h2 a4 (by simp))
  obtain ⟨x5, rfl, w5⟩ := flat5 (m := m) (h2 a5 (by simp))
  obtain ⟨x6, rfl, w6⟩ := flat5 (m := m) (h2 a6 (by simp))
  obtain ⟨x7, rfl, w7⟩ := flat5 (m := m) (h2 a7 (by simp))
  refine ⟨ofL [x0, x1, x2, x3, x4, x5, x6, x7], rfl, fun j hj => ?_⟩
  rcases (by omega : j = 0 ∨ j = 1 ∨ j = 2 ∨ j = 3 ∨ j = 4 ∨ j = 5 ∨ j = 6 ∨ j = 7) with rfl | rfl | rfl | rfl | rfl | rfl | rfl | rfl
  · exact w0
  · exact w1
  · exact w2
  · exact w3
  · exact w4
  · exact w5
  · exact w6
  · exact w7
set_option maxRecDepth 100000 in
theorem flat9 {m : Nat} {ps : List PV} (h : FlatA Try.prog (m + 1) 9 ps) : ∃ s, ps = [.lit (.string s)] ∧ s.size ≤ maxLen := by
  unfold FlatA at h
  rw [Try.underlying9] at h
  exact h
set_option maxRecDepth 100000 in
theorem flat23 {m : Nat} {ps : List PV} (h : FlatA Try.prog (m + 1) 23 ps) : ∃ n, ps = [.lit (.int .i64 n)] ∧ (Lit.int .i64 n).wf = true := by
  unfold FlatA at h
  rw [Try.underlying23] at h
  exact h
def WT34 (x : Call) : Prop := (Lit.int .i64 x.client).wf = true ∧ (Lit.int .i64 x.seq).wf = true ∧ True ∧ WT31 x.key ∧ x.value.size ≤ maxLen ∧ (Lit.int .i64 x.mode).wf = true ∧ (Lit.int .i64 x.bound).wf = true ∧ (Lit.int .i64 x.began).wf = true ∧ (Lit.int .i64 x.ended).wf = true ∧ (Lit.int .i64 x.ver).wf = true ∧ (Lit.int .i64 x.err).wf = true ∧ (Lit.int .i64 x.floor).wf = true
set_option maxRecDepth 100000 in
theorem flat34 {m : Nat} {ps : List PV} (h : FlatA Try.prog (m + 3) 34 ps) : ∃ x : Call, ps = eCall.enc x ∧ WT34 x := by
  unfold FlatA at h
  rw [Try.underlying34] at h
  obtain ⟨a0, b0, e0, h0, a1, b1, e1, h1, a2, b2, e2, h2, a3, b3, e3, h3, a4, b4, e4, h4, a5, b5, e5, h5, a6, b6, e6, h6, a7, b7, e7, h7, a8, b8, e8, h8, a9, b9, e9, h9, a10, b10, e10, h10, a11, b11, e11, h11, el⟩ := h
  obtain ⟨x0, rfl, w0⟩ := flat3 (m := m + 1) h0
  obtain ⟨x1, rfl, w1⟩ := flat3 (m := m + 1) h1
  obtain ⟨x2, rfl, w2⟩ := flat4 (m := m + 1) h2
  obtain ⟨x3, rfl, w3⟩ := flat31 (m := m + 0) h3
  obtain ⟨x4, rfl, w4⟩ := flat9 (m := m + 1) h4
  obtain ⟨x5, rfl, w5⟩ := flat3 (m := m + 1) h5
  obtain ⟨x6, rfl, w6⟩ := flat3 (m := m + 1) h6
  obtain ⟨x7, rfl, w7⟩ := flat3 (m := m + 1) h7
  obtain ⟨x8, rfl, w8⟩ := flat3 (m := m + 1) h8
  obtain ⟨x9, rfl, w9⟩ := flat3 (m := m + 1) h9
  obtain ⟨x10, rfl, w10⟩ := flat23 (m := m + 1) h10
  obtain ⟨x11, rfl, w11⟩ := flat3 (m := m + 1) h11
  subst el
  subst e11
  subst e10
  subst e9
  subst e8
  subst e7
  subst e6
  subst e5
  subst e4
  subst e3
  subst e2
  subst e1
  subst e0
  exact ⟨⟨x0, x1, x2, x3, x4, x5, x6, x7, x8, x9, x10, x11⟩, rfl, w0, w1, w2, w3, w4, w5, w6, w7, w8, w9, w10, w11⟩
def WT27 (s : Sl Call) : Prop := s.D.length ≤ maxLen ∧ (s.nil = true → s.D = []) ∧ ∀ x ∈ s.D, WT34 x
set_option maxRecDepth 100000 in
theorem flat27 {m : Nat} {ps : List PV} (h : FlatA Try.prog (m + 4) 27 ps) : ∃ s : Sl Call, ps = [.sl (some s.nil) s.D.length (encL eCall s.D)] ∧ WT27 s := by
  unfold FlatA at h
  rw [Try.underlying27] at h
  obtain ⟨b, D, rfl, h1, h2, h3⟩ := h
  obtain ⟨D2, e1, e2, e3⟩ := enc_list (e := eCall) (W := fun x => WT34 x) D fun y hy => flat34 (h3 y hy)
  rw [e2, ← e1]
  exact ⟨⟨b, D2⟩, rfl, (by show D2.length ≤ _; rw [e1]; exact h1), (fun hb => by have := h2 hb; rw [this] at e1; exact List.eq_nil_of_length_eq_zero e1), e3⟩
def WT58 (x : Req) : Prop := (Lit.int .i64 x.client).wf = true ∧ (Lit.int .i64 x.seq).wf = true
set_option maxRecDepth 100000 in
theorem flat58 {m : Nat} {ps : List PV} (h : FlatA Try.prog (m + 2) 58 ps) : ∃ x : Req, ps = eReq.enc x ∧ WT58 x := by
  unfold FlatA at h
  rw [Try.underlying58] at h
  obtain ⟨a0, b0, e0, h0, a1, b1, e1, h1, el⟩ := h
  obtain ⟨x0, rfl, w0⟩ := flat3 (m := m + 0) h0
  obtain ⟨x1, rfl, w1⟩ := flat3 (m := m + 0) h1
  subst el
  subst e1
  subst e0
  exact ⟨⟨x0, x1⟩, rfl, w0, w1⟩
def WT60 (x : Record) : Prop := (Lit.int .i64 x.index).wf = true ∧ (Lit.int .i64 x.epoch).wf = true ∧ WT31 x.key ∧ (Lit.int .i64 x.ver).wf = true ∧ x.value.size ≤ maxLen ∧ WT58 x.req
set_option maxRecDepth 100000 in
theorem flat60 {m : Nat} {ps : List PV} (h : FlatA Try.prog (m + 3) 60 ps) : ∃ x : Record, ps = eRecord.enc x ∧ WT60 x := by
  unfold FlatA at h
  rw [Try.underlying60] at h
  obtain ⟨a0, b0, e0, h0, a1, b1, e1, h1, a2, b2, e2, h2, a3, b3, e3, h3, a4, b4, e4, h4, a5, b5, e5, h5, el⟩ := h
  obtain ⟨x0, rfl, w0⟩ := flat3 (m := m + 1) h0
  obtain ⟨x1, rfl, w1⟩ := flat3 (m := m + 1) h1
  obtain ⟨x2, rfl, w2⟩ := flat31 (m := m + 0) h2
  obtain ⟨x3, rfl, w3⟩ := flat3 (m := m + 1) h3
  obtain ⟨x4, rfl, w4⟩ := flat9 (m := m + 1) h4
  obtain ⟨x5, rfl, w5⟩ := flat58 (m := m + 0) h5
  subst el
  subst e5
  subst e4
  subst e3
  subst e2
  subst e1
  subst e0
  exact ⟨⟨x0, x1, x2, x3, x4, x5⟩, rfl, w0, w1, w2, w3, w4, w5⟩
def WT22 (s : Sl Record) : Prop := s.D.length ≤ maxLen ∧ (s.nil = true → s.D = []) ∧ ∀ x ∈ s.D, WT60 x
set_option maxRecDepth 100000 in
theorem flat22 {m : Nat} {ps : List PV} (h : FlatA Try.prog (m + 4) 22 ps) : ∃ s : Sl Record, ps = [.sl (some s.nil) s.D.length (encL eRecord s.D)] ∧ WT22 s := by
  unfold FlatA at h
  rw [Try.underlying22] at h
  obtain ⟨b, D, rfl, h1, h2, h3⟩ := h
  obtain ⟨D2, e1, e2, e3⟩ := enc_list (e := eRecord) (W := fun x => WT60 x) D fun y hy => flat60 (h3 y hy)
  rw [e2, ← e1]
  exact ⟨⟨b, D2⟩, rfl, (by show D2.length ≤ _; rw [e1]; exact h1), (fun hb => by have := h2 hb; rw [this] at e1; exact List.eq_nil_of_length_eq_zero e1), e3⟩
end Go.Proofs.Ytoieegmebadfkaa
namespace Go.Proofs.Ytoieegmebadfkaa
open Go.Am
def R8 (x : Int) : Prop := 0 ≤ x ∧ x < 256
theorem wf8 {n : Int} (h : (Lit.int .u8 n).wf = true) : 0 ≤ n ∧ n < 256 := by
  have h' : (decide (IntKind.u8.min ≤ n) && decide (n ≤ IntKind.u8.max)) = true := h
  simp only [Bool.and_eq_true, decide_eq_true_eq] at h'
  have e1 : IntKind.u8.min = 0 := rfl
  have e2 : IntKind.u8.max = 255 := rfl
  omega
theorem R8.arr {f : Nat → Int} {n : Nat} (h1 : ∀ i, i < n → (Lit.int .u8 (f i)).wf = true) (h2 : ∀ i, ¬ i < n → f i = 0) (t : Nat) : R8 (f t) := by
  by_cases h : t < n
  · exact wf8 (h1 t h)
  · rw [h2 t h]; exact ⟨by decide, by decide⟩
theorem key_b8 {k : Nat → Int} (h : WT31 k) : B8 (kL k) := fun x hx => by
  rw [kL_def] at hx
  simp only [List.mem_cons, List.not_mem_nil, or_false] at hx
  rcases hx with rfl | rfl | rfl | rfl | rfl | rfl | rfl | rfl <;> exact wf8 (h _ (by decide))
theorem calls_b8 {calls : Sl Call} (w : WT27 calls) : ∀ x ∈ calls.D, B8 (kL x.key) := fun x hx => key_b8 (w.2.2 x hx).2.2.2.1
theorem big_le {n : Nat} (h : n ≤ maxLen) : n ≤ 9223372036854775807 := Nat.le_trans h (by decide)
end Go.Proofs.Ytoieegmebadfkaa
namespace Go.Proofs.Ytoieegmebadfkaa
open Go.Am
def lawOps_l0 (calls : (Sl Call)) (recs : (Sl Record)) : List (Nat → Int) → Nat → Bool → Bool
  | [], _, ok => (bif ok then (bif (eqCalls (cloneCalls calls) calls) then (awake ) else false) else false)
  | x :: xs, i, ok => (bif ok then lawOps_l0 calls recs xs (i + 1) (eqOps (jOps x (cloneCalls calls) recs) (rOps x calls recs)) else lawOps_l0 calls recs xs (i + 1) false)
def lawOps_l0b : List (Nat → Int) → Nat → Bool
  | [], _ => false
  | _ :: x1s, i1 => lawOps_l0b x1s (i1 + 1)
def lawOps (k : (Nat → Int)) (calls : (Sl Call)) (recs : (Sl Record)) : Bool :=
  (bif (decide ((calls.D.length : Int) > 60)) then (awake ) else (bif (decide ((recs.D.length : Int) > 60)) then (awake ) else (bif (eqKeys (jKeys (cloneCalls calls)) (rKeys calls)) then lawOps_l0 calls recs ((jKeys (cloneCalls calls)).D) 0 (eqOps (jOps k (cloneCalls calls) recs) (rOps k calls recs)) else lawOps_l0b ((jKeys (cloneCalls calls)).D) 0 )))
theorem lawOps_calls (k : (Nat → Int)) (calls : (Sl Call)) (recs : (Sl Record)) (hl1 : calls.D.length ≤ 9223372036854775807) (hl2 : recs.D.length ≤ 9223372036854775807) : PCalls Try.prog 5 [.agg [.pv (.lit (.int .u8 (k 0))), .pv (.lit (.int .u8 (k 1))), .pv (.lit (.int .u8 (k 2))), .pv (.lit (.int .u8 (k 3))), .pv (.lit (.int .u8 (k 4))), .pv (.lit (.int .u8 (k 5))), .pv (.lit (.int .u8 (k 6))), .pv (.lit (.int .u8 (k 7)))], sS (some calls.nil) eCall calls.D, sS (some recs.nil) eRecord recs.D] (.pv (.lit (.bool (lawOps k calls recs)))) := by
 generalize hR : lawOps k calls recs = R
 refine PCalls.of_body tabOk Try.func5 rfl rfl rfl rfl rfl mixed fun E hP C hI => ?_
 refine Awp.consP C ?_
 refine rvc_un (rexec_prim C (δ := { v := .ptr 3 0, new := [(3, .cells [.pv (.lit (.int .u8 (k 0))), .pv (.lit (.int .u8 (k 1))), .pv (.lit (.int .u8 (k 2))), .pv (.lit (.int .u8 (k 3))), .pv (.lit (.int .u8 (k 4))), .pv (.lit (.int .u8 (k 5))), .pv (.lit (.int .u8 (k 6))), .pv (.lit (.int .u8 (k 7)))])] }) rfl rfl rfl rfl trivial rfl ?_)
 refine rvP C (.pv (.lit (.bool false))) ?_
 refine rvc_nil ?_
 refine Awp.seq ?_
 refine Awp.consP C ?_
 refine rvP C (sS (some calls.nil) eCall calls.D) ?_
 refine rvP C (.pv (.lit (.int .i64 (calls.D.length : Int)))) ?_
 refine rvP C (.pv (.lit (.bool (decide ((calls.D.length : Int) > 60))))) ?_
 refine rvP C (.pv (.lit (.bool (decide ((calls.D.length : Int) > 60))))) ?_
 refine rvc_case 14 (decide ((calls.D.length : Int) > 60)) rfl (fun h1 => ?_) (fun h1 => ?_)
 ·
  replace hR := of_true h1 hR
  refine rvS ?_
  refine rvS ?_
  refine rvS ?_
  refine rvP C (.pv (.lit (.bool true))) ?_
  refine rvc_nil ?_
  refine Awp.condT (b := true) rfl rfl ?_
  refine Awp.consP C ?_
  refine rvc_un (rexec_call hP C rfl rfl rfl (awake_calls ) ?_)
  refine rvP C (.pv (.lit (.bool (awake )))) ?_
  refine rvc_nil ?_
  refine Awp.ret ?_
  subst hR
  exact ⟨.inl rfl, rfl⟩
 ·
  replace hR := of_false h1 hR
  refine rvO C (sS (some recs.nil) eRecord recs.D) ?_
  refine rvO C (.pv (.lit (.int .i64 (recs.D.length : Int)))) ?_
  refine rvO C (.pv (.lit (.bool (decide ((recs.D.length : Int) > 60))))) ?_
  refine rvP C (.pv (.lit (.bool (decide ((recs.D.length : Int) > 60))))) ?_
  refine rvc_nil ?_
  refine Awp.cond (b := (decide ((recs.D.length : Int) > 60))) rfl (fun h2 => ?_) (fun h2 => ?_)
  ·
   replace hR := of_true h2 hR
   refine Awp.consP C ?_
   refine rvc_un (rexec_call hP C rfl rfl rfl (awake_calls ) ?_)
   refine rvP C (.pv (.lit (.bool (awake )))) ?_
   refine rvc_nil ?_
   refine Awp.ret ?_
   subst hR
   exact ⟨.inl rfl, rfl⟩
  ·
   replace hR := of_false h2 hR
   refine Awp.skip ?_
   refine Awp.consP C ?_
   refine rvP C (sS (some calls.nil) eCall calls.D) ?_
   refine rvc_un (rexec_call hP C rfl rfl rfl (cloneCalls_calls calls (by show calls.D.length ≤ 1000000; have := of_decide_eq_false h1; have := of_decide_eq_false h2; omega)) ?_)
   refine rvP C (sS (some (cloneCalls calls).nil) eCall ((cloneCalls calls).D)) ?_
   refine rvc_nil ?_
   refine Awp.consP C ?_
   refine rvP C (sS (some (cloneCalls calls).nil) eCall ((cloneCalls calls).D)) ?_
   refine rvc_un (rexec_call hP C rfl rfl rfl (jKeys_calls (cloneCalls calls) (Nat.le_trans (cloneCalls_len _) (by have c60_ := of_decide_eq_false ‹decide ((calls.D.length : Int) > 60) = false›; have r60_ := of_decide_eq_false ‹decide ((recs.D.length : Int) > 60) = false›; omega))) ?_)
   refine rvP C (sS (some calls.nil) eCall calls.D) ?_
   refine rvc_un (rexec_call hP C rfl rfl rfl (rKeys_calls calls (by show calls.D.length ≤ 1000000; have := of_decide_eq_false h1; have := of_decide_eq_false h2; omega)) ?_)
   refine rvc_un (rexec_call hP C rfl rfl rfl (eqKeys_calls (jKeys (cloneCalls calls)) (rKeys calls) (Nat.le_trans (jKeys_len (Nat.le_trans (cloneCalls_len _) (by have c60_ := of_decide_eq_false ‹decide ((calls.D.length : Int) > 60) = false›; have r60_ := of_decide_eq_false ‹decide ((recs.D.length : Int) > 60) = false›; omega))) (Nat.le_trans (cloneCalls_len _) (by have c60_ := of_decide_eq_false ‹decide ((calls.D.length : Int) > 60) = false›; have r60_ := of_decide_eq_false ‹decide ((recs.D.length : Int) > 60) = false›; omega)))) ?_)
   refine rvP C (.pv (.lit (.bool (eqKeys (jKeys (cloneCalls calls)) (rKeys calls))))) ?_
   refine rvc_case 27 (eqKeys (jKeys (cloneCalls calls)) (rKeys calls)) rfl (fun h3 => ?_) (fun h3 => ?_)
   ·
    replace hR := of_true h3 hR
    refine rvO C (.agg [.pv (.lit (.int .u8 (k 0))), .pv (.lit (.int .u8 (k 1))), .pv (.lit (.int .u8 (k 2))), .pv (.lit (.int .u8 (k 3))), .pv (.lit (.int .u8 (k 4))), .pv (.lit (.int .u8 (k 5))), .pv (.lit (.int .u8 (k 6))), .pv (.lit (.int .u8 (k 7)))]) ?_
    refine rvO C (sS (some (cloneCalls calls).nil) eCall ((cloneCalls calls).D)) ?_
    refine rvO C (sS (some recs.nil) eRecord recs.D) ?_
    refine rvc_open rfl rfl rfl (rexec_call hP C rfl rfl rfl (jOps_calls k (cloneCalls calls) recs (by have c60_ := of_decide_eq_false ‹decide ((calls.D.length : Int) > 60) = false›; have r60_ := of_decide_eq_false ‹decide ((recs.D.length : Int) > 60) = false›; omega) (Nat.le_trans (cloneCalls_len _) (by have c60_ := of_decide_eq_false ‹decide ((calls.D.length : Int) > 60) = false›; have r60_ := of_decide_eq_false ‹decide ((recs.D.length : Int) > 60) = false›; omega))) ?_)
    refine rvO C (.agg [.pv (.lit (.int .u8 (k 0))), .pv (.lit (.int .u8 (k 1))), .pv (.lit (.int .u8 (k 2))), .pv (.lit (.int .u8 (k 3))), .pv (.lit (.int .u8 (k 4))), .pv (.lit (.int .u8 (k 5))), .pv (.lit (.int .u8 (k 6))), .pv (.lit (.int .u8 (k 7)))]) ?_
    refine rvO C (sS (some calls.nil) eCall calls.D) ?_
    refine rvO C (sS (some recs.nil) eRecord recs.D) ?_
    refine rvc_open rfl rfl rfl (rexec_call hP C rfl rfl rfl (rOps_calls k calls recs (by have c60_ := of_decide_eq_false ‹decide ((calls.D.length : Int) > 60) = false›; have r60_ := of_decide_eq_false ‹decide ((recs.D.length : Int) > 60) = false›; omega) (by have c60_ := of_decide_eq_false ‹decide ((calls.D.length : Int) > 60) = false›; have r60_ := of_decide_eq_false ‹decide ((recs.D.length : Int) > 60) = false›; omega)) ?_)
    refine rvc_open rfl rfl rfl (rexec_call hP C rfl rfl rfl (eqOps_calls (jOps k (cloneCalls calls) recs) (rOps k calls recs) (Nat.le_trans jOps_len (Nat.le_trans (cloneCalls_len _) (by have c60_ := of_decide_eq_false ‹decide ((calls.D.length : Int) > 60) = false›; have r60_ := of_decide_eq_false ‹decide ((recs.D.length : Int) > 60) = false›; omega)))) ?_)
    refine rvP C (.pv (.lit (.bool (eqOps (jOps k (cloneCalls calls) recs) (rOps k calls recs))))) ?_
    refine rvP C (.pv (.lit (.bool (eqOps (jOps k (cloneCalls calls) recs) (rOps k calls recs))))) ?_
    refine rvc_nil ?_
    refine Awp.seq ?_
    refine Awp.consP C ?_
    refine rvP C (sS (some (cloneCalls calls).nil) eCall ((cloneCalls calls).D)) ?_
    refine rvc_un (rexec_call hP C rfl rfl rfl (jKeys_calls (cloneCalls calls) (Nat.le_trans (cloneCalls_len _) (by have c60_ := of_decide_eq_false ‹decide ((calls.D.length : Int) > 60) = false›; have r60_ := of_decide_eq_false ‹decide ((recs.D.length : Int) > 60) = false›; omega))) ?_)
    refine rvP C (.pv (.lit (.int .i64 (((jKeys (cloneCalls calls)).D).length : Int)))) ?_
    refine rvP C (.pv (.lit (.int .i64 0))) ?_
    refine rvc_nil ?_
    refine Awp.block ?_
    refine Awp.forR (σ := Bool) (((jKeys (cloneCalls calls)).D).length) (fun i v => [(1, sS (some calls.nil) eCall calls.D), (2, sS (some recs.nil) eRecord recs.D), (7, sS (some (cloneCalls calls).nil) eCall ((cloneCalls calls).D)), (8, .pv (.lit (.bool v))), (39, sS (some (jKeys (cloneCalls calls)).nil) (eA8 .u8) ((jKeys (cloneCalls calls)).D)), (40, .pv (.lit (.int .i64 (((jKeys (cloneCalls calls)).D).length : Int)))), (41, .pv (.lit (.int .i64 (i : Int))))]) (fun i v => []) [] (fun i v => lawOps_l0 calls recs (((jKeys (cloneCalls calls)).D).drop i) i v = R) (eqOps (jOps k (cloneCalls calls) recs) (rOps k calls recs)) ?_ ?_ (fun i ok h4 hR => ?_)
    · exact hR
    · exact ⟨fun b => b, WeakerR.ofL (Ks := []) hI ⟨⟨rfl, rfl⟩, ⟨rfl, rfl⟩, ⟨rfl, rfl⟩, ⟨rfl, rfl⟩, ⟨rfl, rfl⟩, ⟨rfl, rfl⟩, ⟨rfl, rfl⟩, trivial⟩ (okH_nil) rfl⟩
    have hk_ := jKeys_len (calls := cloneCalls calls) (Nat.le_trans (cloneCalls_len _) (by have c60_ := of_decide_eq_false ‹decide ((calls.D.length : Int) > 60) = false›; have r60_ := of_decide_eq_false ‹decide ((recs.D.length : Int) > 60) = false›; omega))
    have hc_ := cloneCalls_len calls
    have c60_ := of_decide_eq_false ‹decide ((calls.D.length : Int) > 60) = false›
    have r60_ := of_decide_eq_false ‹decide ((recs.D.length : Int) > 60) = false›
    refine Awp.consP C ?_
    refine rvP C (.pv (.lit (.bool (decide ((i : Int) < (((jKeys (cloneCalls calls)).D).length : Int)))))) ?_
    refine rvc_nil ?_
    refine Awp.seq ?_
    refine Awp.cond (b := (decide ((i : Int) < (((jKeys (cloneCalls calls)).D).length : Int)))) rfl (fun h5 => ?_) (fun h5 => ?_)
    ·
     have h6 : i < ((jKeys (cloneCalls calls)).D).length := by have := of_decide_eq_true h5; omega
     obtain ⟨x, h7⟩ := getX h6
     rw [drop_at h7] at hR
     refine Awp.skip ?_
     refine Awp.seq ?_
     refine Awp.block ?_
     refine Awp.consP C ?_
     refine rvc_un (rexec_idxS C rfl rfl rfl rfl rfl rfl x (Int.natCast_nonneg _) h7 ?_)
     refine rvP C (.agg [.pv (.lit (.int .u8 (x 0))), .pv (.lit (.int .u8 (x 1))), .pv (.lit (.int .u8 (x 2))), .pv (.lit (.int .u8 (x 3))), .pv (.lit (.int .u8 (x 4))), .pv (.lit (.int .u8 (x 5))), .pv (.lit (.int .u8 (x 6))), .pv (.lit (.int .u8 (x 7)))]) ?_
     refine rvc_un (rexec_prim C (δ := { v := .ptr 10 0, new := [(10, .cells [.pv (.lit (.int .u8 0)), .pv (.lit (.int .u8 0)), .pv (.lit (.int .u8 0)), .pv (.lit (.int .u8 0)), .pv (.lit (.int .u8 0)), .pv (.lit (.int .u8 0)), .pv (.lit (.int .u8 0)), .pv (.lit (.int .u8 0))])] }) rfl rfl rfl rfl trivial rfl ?_)
     refine rvc_un (rexec_prim C (δ := { v := .undef, wr := [(10, some (.cells [.pv (.lit (.int .u8 (x 0))), .pv (.lit (.int .u8 (x 1))), .pv (.lit (.int .u8 (x 2))), .pv (.lit (.int .u8 (x 3))), .pv (.lit (.int .u8 (x 4))), .pv (.lit (.int .u8 (x 5))), .pv (.lit (.int .u8 (x 6))), .pv (.lit (.int .u8 (x 7)))]))] }) rfl rfl rfl rfl trivial rfl ?_)
     refine rvc_nil ?_
     refine Awp.regionP C ?_
     refine rvP C (.pv (.lit (.bool ok))) ?_
     refine rvP C (.pv (.lit (.bool ok))) ?_
     refine rvc_case 46 ok rfl (fun h8 => ?_) (fun h8 => ?_)
     ·
      replace hR := of_true h8 hR
      refine rvO C (.agg [.pv (.lit (.int .u8 (x 0))), .pv (.lit (.int .u8 (x 1))), .pv (.lit (.int .u8 (x 2))), .pv (.lit (.int .u8 (x 3))), .pv (.lit (.int .u8 (x 4))), .pv (.lit (.int .u8 (x 5))), .pv (.lit (.int .u8 (x 6))), .pv (.lit (.int .u8 (x 7)))]) ?_
      refine rvO C (sS (some (cloneCalls calls).nil) eCall ((cloneCalls calls).D)) ?_
      refine rvO C (sS (some recs.nil) eRecord recs.D) ?_
      refine rvc_open rfl rfl rfl (rexec_call hP C rfl rfl rfl (jOps_calls x (cloneCalls calls) recs (by have c60_ := of_decide_eq_false ‹decide ((calls.D.length : Int) > 60) = false›; have r60_ := of_decide_eq_false ‹decide ((recs.D.length : Int) > 60) = false›; omega) (Nat.le_trans (cloneCalls_len _) (by have c60_ := of_decide_eq_false ‹decide ((calls.D.length : Int) > 60) = false›; have r60_ := of_decide_eq_false ‹decide ((recs.D.length : Int) > 60) = false›; omega))) ?_)
      refine rvO C (.agg [.pv (.lit (.int .u8 (x 0))), .pv (.lit (.int .u8 (x 1))), .pv (.lit (.int .u8 (x 2))), .pv (.lit (.int .u8 (x 3))), .pv (.lit (.int .u8 (x 4))), .pv (.lit (.int .u8 (x 5))), .pv (.lit (.int .u8 (x 6))), .pv (.lit (.int .u8 (x 7)))]) ?_
      refine rvO C (sS (some calls.nil) eCall calls.D) ?_
      refine rvO C (sS (some recs.nil) eRecord recs.D) ?_
      refine rvc_open rfl rfl rfl (rexec_call hP C rfl rfl rfl (rOps_calls x calls recs (by have c60_ := of_decide_eq_false ‹decide ((calls.D.length : Int) > 60) = false›; have r60_ := of_decide_eq_false ‹decide ((recs.D.length : Int) > 60) = false›; omega) (by have c60_ := of_decide_eq_false ‹decide ((calls.D.length : Int) > 60) = false›; have r60_ := of_decide_eq_false ‹decide ((recs.D.length : Int) > 60) = false›; omega)) ?_)
      refine rvc_open rfl rfl rfl (rexec_call hP C rfl rfl rfl (eqOps_calls (jOps x (cloneCalls calls) recs) (rOps x calls recs) (Nat.le_trans jOps_len (Nat.le_trans (cloneCalls_len _) (by have c60_ := of_decide_eq_false ‹decide ((calls.D.length : Int) > 60) = false›; have r60_ := of_decide_eq_false ‹decide ((recs.D.length : Int) > 60) = false›; omega)))) ?_)
      refine rvP C (.pv (.lit (.bool (eqOps (jOps x (cloneCalls calls) recs) (rOps x calls recs))))) ?_
      refine rvP C (.pv (.lit (.bool (eqOps (jOps x (cloneCalls calls) recs) (rOps x calls recs))))) ?_
      refine rvc_nil ?_
      refine Awp.regionP C ?_
      refine rvP C (.pv (.lit (.int .i64 (IntKind.i64.wrap ((i : Int) + 1))))) ?_
      refine rvP C (.pv (.lit (.int .i64 (IntKind.i64.wrap ((i : Int) + 1))))) ?_
      refine rvc_nil ?_
      refine ⟨h6, (eqOps (jOps x (cloneCalls calls) recs) (rOps x calls recs)), ?_, ?_⟩
      · exact hR
      · exact ⟨fun b => b, WeakerR.ofL (Ks := []) hI ⟨⟨rfl, rfl⟩, ⟨rfl, rfl⟩, ⟨rfl, rfl⟩, ⟨rfl, rfl⟩, ⟨rfl, rfl⟩, ⟨rfl, rfl⟩, ⟨lit_cast (wrap_i64 (by omega) (by omega)), rfl⟩, trivial⟩ (okH_nil) rfl⟩
     ·
      replace hR := of_false h8 hR
      refine rvS ?_
      refine rvS ?_
      refine rvS ?_
      refine rvS ?_
      refine rvS ?_
      refine rvS ?_
      refine rvS ?_
      refine rvS ?_
      refine rvS ?_
      refine rvP C (.pv (.lit (.bool false))) ?_
      refine rvP C (.pv (.lit (.bool false))) ?_
      refine rvc_nil ?_
      refine Awp.regionP C ?_
      refine rvP C (.pv (.lit (.int .i64 (IntKind.i64.wrap ((i : Int) + 1))))) ?_
      refine rvP C (.pv (.lit (.int .i64 (IntKind.i64.wrap ((i : Int) + 1))))) ?_
      refine rvc_nil ?_
      refine ⟨h6, false, ?_, ?_⟩
      · exact hR
      · exact ⟨fun b => b, WeakerR.ofL (Ks := []) hI ⟨⟨rfl, rfl⟩, ⟨rfl, rfl⟩, ⟨rfl, rfl⟩, ⟨rfl, rfl⟩, ⟨rfl, rfl⟩, ⟨rfl, rfl⟩, ⟨lit_cast (wrap_i64 (by omega) (by omega)), rfl⟩, trivial⟩ (okH_nil) rfl⟩
    ·
     have h6 : ¬ i < ((jKeys (cloneCalls calls)).D).length := by have := of_decide_eq_false h5; omega
     rw [drop_end h6] at hR
     refine Awp.exit ?_
     refine Awp.consP C ?_
     refine rvP C (.pv (.lit (.bool ok))) ?_
     refine rvP C (.pv (.lit (.bool ok))) ?_
     refine rvc_case 59 ok rfl (fun h9 => ?_) (fun h9 => ?_)
     ·
      replace hR := of_true h9 hR
      refine rvO C (sS (some (cloneCalls calls).nil) eCall ((cloneCalls calls).D)) ?_
      refine rvO C (sS (some calls.nil) eCall calls.D) ?_
      refine rvc_open rfl rfl rfl (rexec_call hP C rfl rfl rfl (eqCalls_calls (cloneCalls calls) calls (Nat.le_trans (cloneCalls_len _) (by have c60_ := of_decide_eq_false ‹decide ((calls.D.length : Int) > 60) = false›; have r60_ := of_decide_eq_false ‹decide ((recs.D.length : Int) > 60) = false›; omega))) ?_)
      refine rvP C (.pv (.lit (.bool (eqCalls (cloneCalls calls) calls)))) ?_
      refine rvP C (.pv (.lit (.bool (eqCalls (cloneCalls calls) calls)))) ?_
      refine rvc_case 64 (eqCalls (cloneCalls calls) calls) rfl (fun h10 => ?_) (fun h10 => ?_)
      ·
       replace hR := of_true h10 hR
       refine rvc_open rfl rfl rfl (rexec_call hP C rfl rfl rfl (awake_calls ) ?_)
       refine rvP C (.pv (.lit (.bool (awake )))) ?_
       refine rvP C (.pv (.lit (.bool (awake )))) ?_
       refine rvc_nil ?_
       refine Awp.ret ?_
       subst hR
       exact ⟨.inl rfl, rfl⟩
      ·
       replace hR := of_false h10 hR
       refine rvS ?_
       refine rvP C (.pv (.lit (.bool false))) ?_
       refine rvP C (.pv (.lit (.bool false))) ?_
       refine rvc_nil ?_
       refine Awp.ret ?_
       subst hR
       exact ⟨.inl rfl, rfl⟩
     ·
      replace hR := of_false h9 hR
      refine rvS ?_
      refine rvS ?_
      refine rvS ?_
      refine rvP C (.pv (.lit (.bool false))) ?_
      refine rvP C (.pv (.lit (.bool false))) ?_
      refine rvS ?_
      refine rvP C (.pv (.lit (.bool false))) ?_
      refine rvP C (.pv (.lit (.bool false))) ?_
      refine rvc_nil ?_
      refine Awp.ret ?_
      subst hR
      exact ⟨.inl rfl, rfl⟩
   ·
    replace hR := of_false h3 hR
    refine rvS ?_
    refine rvS ?_
    refine rvS ?_
    refine rvS ?_
    refine rvS ?_
    refine rvS ?_
    refine rvS ?_
    refine rvS ?_
    refine rvS ?_
    refine rvP C (.pv (.lit (.bool false))) ?_
    refine rvP C (.pv (.lit (.bool false))) ?_
    refine rvc_nil ?_
    refine Awp.seq ?_
    refine Awp.consP C ?_
    refine rvP C (sS (some (cloneCalls calls).nil) eCall ((cloneCalls calls).D)) ?_
    refine rvc_un (rexec_call hP C rfl rfl rfl (jKeys_calls (cloneCalls calls) (Nat.le_trans (cloneCalls_len _) (by have c60_ := of_decide_eq_false ‹decide ((calls.D.length : Int) > 60) = false›; have r60_ := of_decide_eq_false ‹decide ((recs.D.length : Int) > 60) = false›; omega))) ?_)
    refine rvP C (.pv (.lit (.int .i64 (((jKeys (cloneCalls calls)).D).length : Int)))) ?_
    refine rvP C (.pv (.lit (.int .i64 0))) ?_
    refine rvc_nil ?_
    refine Awp.block ?_
    refine Awp.forR (σ := Unit) (((jKeys (cloneCalls calls)).D).length) (fun i1 _v => [(1, sS (some calls.nil) eCall calls.D), (2, sS (some recs.nil) eRecord recs.D), (7, sS (some (cloneCalls calls).nil) eCall ((cloneCalls calls).D)), (8, .pv (.lit (.bool false))), (39, sS (some (jKeys (cloneCalls calls)).nil) (eA8 .u8) ((jKeys (cloneCalls calls)).D)), (40, .pv (.lit (.int .i64 (((jKeys (cloneCalls calls)).D).length : Int)))), (41, .pv (.lit (.int .i64 (i1 : Int))))]) (fun i1 _v => []) [] (fun i1 _v => lawOps_l0b (((jKeys (cloneCalls calls)).D).drop i1) i1  = R) () ?_ ?_ (fun i1 _v h11 hR => ?_)
    · exact hR
    · exact ⟨fun b => b, WeakerR.ofL (Ks := []) hI ⟨⟨rfl, rfl⟩, ⟨rfl, rfl⟩, ⟨rfl, rfl⟩, ⟨rfl, rfl⟩, ⟨rfl, rfl⟩, ⟨rfl, rfl⟩, ⟨rfl, rfl⟩, trivial⟩ (okH_nil) rfl⟩
    have hk_ := jKeys_len (calls := cloneCalls calls) (Nat.le_trans (cloneCalls_len _) (by have c60_ := of_decide_eq_false ‹decide ((calls.D.length : Int) > 60) = false›; have r60_ := of_decide_eq_false ‹decide ((recs.D.length : Int) > 60) = false›; omega))
    have hc_ := cloneCalls_len calls
    have c60_ := of_decide_eq_false ‹decide ((calls.D.length : Int) > 60) = false›
    have r60_ := of_decide_eq_false ‹decide ((recs.D.length : Int) > 60) = false›
    refine Awp.consP C ?_
    refine rvP C (.pv (.lit (.bool (decide ((i1 : Int) < (((jKeys (cloneCalls calls)).D).length : Int)))))) ?_
    refine rvc_nil ?_
    refine Awp.seq ?_
    refine Awp.cond (b := (decide ((i1 : Int) < (((jKeys (cloneCalls calls)).D).length : Int)))) rfl (fun h12 => ?_) (fun h12 => ?_)
    ·
     have h13 : i1 < ((jKeys (cloneCalls calls)).D).length := by have := of_decide_eq_true h12; omega
     obtain ⟨x1, h14⟩ := getX h13
     rw [drop_at h14] at hR
     refine Awp.skip ?_
     refine Awp.seq ?_
     refine Awp.block ?_
     refine Awp.consP C ?_
     refine rvc_un (rexec_idxS C rfl rfl rfl rfl rfl rfl x1 (Int.natCast_nonneg _) h14 ?_)
     refine rvP C (.agg [.pv (.lit (.int .u8 (x1 0))), .pv (.lit (.int .u8 (x1 1))), .pv (.lit (.int .u8 (x1 2))), .pv (.lit (.int .u8 (x1 3))), .pv (.lit (.int .u8 (x1 4))), .pv (.lit (.int .u8 (x1 5))), .pv (.lit (.int .u8 (x1 6))), .pv (.lit (.int .u8 (x1 7)))]) ?_
     refine rvc_un (rexec_prim C (δ := { v := .ptr 10 0, new := [(10, .cells [.pv (.lit (.int .u8 0)), .pv (.lit (.int .u8 0)), .pv (.lit (.int .u8 0)), .pv (.lit (.int .u8 0)), .pv (.lit (.int .u8 0)), .pv (.lit (.int .u8 0)), .pv (.lit (.int .u8 0)), .pv (.lit (.int .u8 0))])] }) rfl rfl rfl rfl trivial rfl ?_)
     refine rvc_un (rexec_prim C (δ := { v := .undef, wr := [(10, some (.cells [.pv (.lit (.int .u8 (x1 0))), .pv (.lit (.int .u8 (x1 1))), .pv (.lit (.int .u8 (x1 2))), .pv (.lit (.int .u8 (x1 3))), .pv (.lit (.int .u8 (x1 4))), .pv (.lit (.int .u8 (x1 5))), .pv (.lit (.int .u8 (x1 6))), .pv (.lit (.int .u8 (x1 7)))]))] }) rfl rfl rfl rfl trivial rfl ?_)
     refine rvc_nil ?_
     refine Awp.regionP C ?_
     refine rvP C (.pv (.lit (.bool false))) ?_
     refine rvP C (.pv (.lit (.bool false))) ?_
     refine rvS ?_
     refine rvS ?_
     refine rvS ?_
     refine rvS ?_
     refine rvS ?_
     refine rvS ?_
     refine rvS ?_
     refine rvS ?_
     refine rvS ?_
     refine rvP C (.pv (.lit (.bool false))) ?_
     refine rvP C (.pv (.lit (.bool false))) ?_
     refine rvc_nil ?_
     refine Awp.regionP C ?_
     refine rvP C (.pv (.lit (.int .i64 (IntKind.i64.wrap ((i1 : Int) + 1))))) ?_
     refine rvP C (.pv (.lit (.int .i64 (IntKind.i64.wrap ((i1 : Int) + 1))))) ?_
     refine rvc_nil ?_
     refine ⟨h13, (), ?_, ?_⟩
     · exact hR
     · exact ⟨fun b => b, WeakerR.ofL (Ks := []) hI ⟨⟨rfl, rfl⟩, ⟨rfl, rfl⟩, ⟨rfl, rfl⟩, ⟨rfl, rfl⟩, ⟨rfl, rfl⟩, ⟨rfl, rfl⟩, ⟨lit_cast (wrap_i64 (by omega) (by omega)), rfl⟩, trivial⟩ (okH_nil) rfl⟩
    ·
     have h13 : ¬ i1 < ((jKeys (cloneCalls calls)).D).length := by have := of_decide_eq_false h12; omega
     rw [drop_end h13] at hR
     refine Awp.exit ?_
     refine Awp.consP C ?_
     refine rvP C (.pv (.lit (.bool false))) ?_
     refine rvP C (.pv (.lit (.bool false))) ?_
     refine rvS ?_
     refine rvS ?_
     refine rvS ?_
     refine rvP C (.pv (.lit (.bool false))) ?_
     refine rvP C (.pv (.lit (.bool false))) ?_
     refine rvS ?_
     refine rvP C (.pv (.lit (.bool false))) ?_
     refine rvP C (.pv (.lit (.bool false))) ?_
     refine rvc_nil ?_
     refine Awp.ret ?_
     subst hR
     exact ⟨.inl rfl, rfl⟩
end Go.Proofs.Ytoieegmebadfkaa
namespace Go.Proofs.Ytoieegmebadfkaa
open Go.Am
theorem jOps_clone {calls : Sl Call} (w : WT27 calls) (k : Nat → Int) (recs : Sl Record) : eqOps (jOps k (cloneCalls calls) recs) (rOps k calls recs) = true := by
  refine eqOps_of ?_
  rw [jOps_eq, rOps_eq, cloneCalls_id w.2.1]
theorem lawOps_l0_true {calls : Sl Call} {recs : Sl Record} (w : WT27 calls) : ∀ (xs : List (Nat → Int)) (i : Nat), lawOps_l0 calls recs xs i true = true
  | [], _ => by
    unfold lawOps_l0
    rw [awake_true, eqCalls_of (cloneCalls_id w.2.1)]; rfl
  | x :: xs, i => by
    unfold lawOps_l0
    rw [jOps_clone w, cond_true]
    exact lawOps_l0_true w xs (i + 1)
theorem lawOps_true {k : Nat → Int} {calls : Sl Call} {recs : Sl Record} (w : WT27 calls) : lawOps k calls recs = true := by
  unfold lawOps
  rw [awake_true]
  cases h1 : decide ((calls.D.length : Int) > 60)
  · have h1 := of_decide_eq_false h1
    have hk : eqKeys (jKeys (cloneCalls calls)) (rKeys calls) = true := by
      refine eqKeys_of ?_
      have hc := cloneCalls_id w.2.1
      have : (jKeys (cloneCalls calls)).D = (jKeys calls).D := by
        rw [jKeys_D (by rw [hc]; omega), jKeys_D (by omega), hc]
      rw [this]
      exact keys_eq (by omega) (calls_b8 w)
    rw [hk, jOps_clone w, lawOps_l0_true w]
    cases decide ((recs.D.length : Int) > 60) <;> rfl
  · rfl
theorem judgeOps_calls (k : Nat → Int) (_hk : ∀ t, R8 (k t)) (calls : Sl Call) (w : WT27 calls) (recs : Sl Record) (w2 : WT22 recs) : PCalls Try.prog 5 [.agg (cI .u8 (tb 8 k)), sS (some calls.nil) eCall calls.D, sS (some recs.nil) eRecord recs.D] (.pv (.lit (.bool true))) := by
  have h := lawOps_calls k calls recs (big_le w.1) (big_le w2.1)
  rw [lawOps_true w] at h
  exact h
end Go.Proofs.Ytoieegmebadfkaa
namespace Go.Proofs.Ytoieegmebadfkaa
open Go.Am
theorem own : ownKnob Try.prog.godebug = none := by kernel_rfl
theorem laidOut : laidOutB Try.prog = true := by kernel_rfl
end Go.Proofs.Ytoieegmebadfkaa
