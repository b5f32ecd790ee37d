import Derived.Test.YtoieegmebadfkaaM1
import Derived.Test.YtoieegmebadfkaaM2
import Derived.Test.YtoieegmebadfkaaM3
import Derived.Test.YtoieegmebadfkaaM6
import Derived.Test.YtoieegmebadfkaaM5
/- Whether versions explain all; all of it. No conditions. -/
namespace Go.Proofs.Ytoieegmebadfkaa
open Go.Am
def jStrong_l0 (calls : (Sl Call)) (recs : (Sl Record)) : List (Nat → Int) → Nat → Bool
  | [], _ => true
  | x :: xs, i => (bif (!(versions (jOps x calls recs))) then false else jStrong_l0 calls recs xs (i + 1) )
def jStrong (calls : (Sl Call)) (recs : (Sl Record)) : Bool :=
  jStrong_l0 calls recs ((jKeys calls).D) 0
theorem jStrong_calls (calls : (Sl Call)) (recs : (Sl Record)) (hl1 : calls.D.length ≤ 1000000) (hl2 : recs.D.length ≤ 1000000) : PCalls Try.prog 15 [sS (some calls.nil) eCall calls.D, sS (some recs.nil) eRecord recs.D] (.pv (.lit (.bool (jStrong calls recs)))) := by
 generalize hR : jStrong calls recs = R
 refine PCalls.of_body tabOk Try.func15 rfl rfl rfl rfl rfl mixed fun E hP C hI => ?_
 refine Awp.consP C ?_
 refine rvP C (.pv (.lit (.bool false))) ?_
 refine rvc_nil ?_
 refine Awp.seq ?_
 refine Awp.consP C ?_
 refine rvP C (sS (some calls.nil) eCall calls.D) ?_
 refine rvc_un (rexec_call hP C rfl rfl rfl (jKeys_calls calls hl1) ?_)
 refine rvP C (.pv (.lit (.int .i64 (((jKeys calls).D).length : Int)))) ?_
 refine rvP C (.pv (.lit (.int .i64 0))) ?_
 refine rvc_nil ?_
 refine Awp.block ?_
 refine Awp.forR (σ := Unit) (((jKeys calls).D).length) (fun i _v => [(0, sS (some calls.nil) eCall calls.D), (1, sS (some recs.nil) eRecord recs.D), (8, sS (some (jKeys calls).nil) (eA8 .u8) ((jKeys calls).D)), (9, .pv (.lit (.int .i64 (((jKeys calls).D).length : Int)))), (10, .pv (.lit (.int .i64 (i : Int))))]) (fun i _v => []) [] (fun i _v => jStrong_l0 calls recs (((jKeys calls).D).drop i) i  = R) () ?_ ?_ (fun i _v h1 hR => ?_)
 · exact hR
 · exact ⟨fun b => b, WeakerR.ofL (Ks := []) hI ⟨⟨rfl, rfl⟩, ⟨rfl, rfl⟩, ⟨rfl, rfl⟩, ⟨rfl, rfl⟩, ⟨rfl, rfl⟩, trivial⟩ (okH_nil) rfl⟩
 have hk_ := jKeys_len (calls := calls) (by omega)
 refine Awp.consP C ?_
 refine rvP C (.pv (.lit (.bool (decide ((i : Int) < (((jKeys calls).D).length : Int)))))) ?_
 refine rvc_nil ?_
 refine Awp.seq ?_
 refine Awp.cond (b := (decide ((i : Int) < (((jKeys calls).D).length : Int)))) rfl (fun h2 => ?_) (fun h2 => ?_)
 ·
  have h3 : i < ((jKeys calls).D).length := by have := of_decide_eq_true h2; omega
  obtain ⟨x, h4⟩ := getX h3
  rw [drop_at h4] at hR
  refine Awp.skip ?_
  refine Awp.seq ?_
  refine Awp.block ?_
  refine Awp.consP C ?_
  refine rvc_un (rexec_idxS C rfl rfl rfl rfl rfl rfl x (Int.natCast_nonneg _) h4 ?_)
  refine rvP C (.agg [.pv (.lit (.int .u8 (x 0))), .pv (.lit (.int .u8 (x 1))), .pv (.lit (.int .u8 (x 2))), .pv (.lit (.int .u8 (x 3))), .pv (.lit (.int .u8 (x 4))), .pv (.lit (.int .u8 (x 5))), .pv (.lit (.int .u8 (x 6))), .pv (.lit (.int .u8 (x 7)))]) ?_
  refine rvc_un (rexec_prim C (δ := { v := .ptr 6 0, new := [(6, .cells [.pv (.lit (.int .u8 0)), .pv (.lit (.int .u8 0)), .pv (.lit (.int .u8 0)), .pv (.lit (.int .u8 0)), .pv (.lit (.int .u8 0)), .pv (.lit (.int .u8 0)), .pv (.lit (.int .u8 0)), .pv (.lit (.int .u8 0))])] }) rfl rfl rfl rfl trivial rfl ?_)
  refine rvc_un (rexec_prim C (δ := { v := .undef, wr := [(6, some (.cells [.pv (.lit (.int .u8 (x 0))), .pv (.lit (.int .u8 (x 1))), .pv (.lit (.int .u8 (x 2))), .pv (.lit (.int .u8 (x 3))), .pv (.lit (.int .u8 (x 4))), .pv (.lit (.int .u8 (x 5))), .pv (.lit (.int .u8 (x 6))), .pv (.lit (.int .u8 (x 7)))]))] }) rfl rfl rfl rfl trivial rfl ?_)
  refine rvc_nil ?_
  refine Awp.consP C ?_
  refine rvP C (.agg [.pv (.lit (.int .u8 (x 0))), .pv (.lit (.int .u8 (x 1))), .pv (.lit (.int .u8 (x 2))), .pv (.lit (.int .u8 (x 3))), .pv (.lit (.int .u8 (x 4))), .pv (.lit (.int .u8 (x 5))), .pv (.lit (.int .u8 (x 6))), .pv (.lit (.int .u8 (x 7)))]) ?_
  refine rvP C (sS (some calls.nil) eCall calls.D) ?_
  refine rvP C (sS (some recs.nil) eRecord recs.D) ?_
  refine rvc_un (rexec_call hP C rfl rfl rfl (jOps_calls x calls recs hl2 hl1) ?_)
  refine rvc_un (rexec_call hP C rfl rfl rfl (versions_calls (jOps x calls recs) (Nat.le_trans jOps_len (by omega))) ?_)
  refine rvP C (.pv (.lit (.bool (!(versions (jOps x calls recs)))))) ?_
  refine rvc_nil ?_
  refine Awp.cond (b := (!(versions (jOps x calls recs)))) rfl (fun h5 => ?_) (fun h5 => ?_)
  ·
   replace hR := of_true h5 hR
   refine Awp.consP C ?_
   refine rvP C (.pv (.lit (.bool false))) ?_
   refine rvc_nil ?_
   refine Awp.ret ?_
   subst hR
   exact ⟨.inl rfl, rfl⟩
  ·
   replace hR := of_false h5 hR
   refine Awp.skip ?_
   refine Awp.regionP C ?_
   refine rvP C (.pv (.lit (.int .i64 (IntKind.i64.wrap ((i : Int) + 1))))) ?_
   refine rvP C (.pv (.lit (.int .i64 (IntKind.i64.wrap ((i : Int) + 1))))) ?_
   refine rvc_nil ?_
   refine ⟨h3, (), ?_, ?_⟩
   · exact hR
   · exact ⟨fun b => b, WeakerR.ofL (Ks := []) hI ⟨⟨rfl, rfl⟩, ⟨rfl, rfl⟩, ⟨rfl, rfl⟩, ⟨rfl, rfl⟩, ⟨lit_cast (wrap_i64 (by omega) (by omega)), rfl⟩, trivial⟩ (okH_nil) rfl⟩
 ·
  have h3 : ¬ i < ((jKeys calls).D).length := by have := of_decide_eq_false h2; omega
  rw [drop_end h3] at hR
  refine Awp.exit ?_
  refine Awp.consP C ?_
  refine rvP C (.pv (.lit (.bool true))) ?_
  refine rvc_nil ?_
  refine Awp.ret ?_
  subst hR
  exact ⟨.inl rfl, rfl⟩
def rStrong_l0 (calls : (Sl Call)) (recs : (Sl Record)) : List (Nat → Int) → Nat → Bool
  | [], _ => true
  | x :: xs, i => (bif (!(rVersions (rOps x calls recs))) then false else rStrong_l0 calls recs xs (i + 1) )
def rStrong (calls : (Sl Call)) (recs : (Sl Record)) : Bool :=
  rStrong_l0 calls recs ((rKeys calls).D) 0
theorem rStrong_calls (calls : (Sl Call)) (recs : (Sl Record)) (hl1 : calls.D.length ≤ 1000000) (hl2 : recs.D.length ≤ 1000000) : PCalls Try.prog 11 [sS (some calls.nil) eCall calls.D, sS (some recs.nil) eRecord recs.D] (.pv (.lit (.bool (rStrong calls recs)))) := by
 generalize hR : rStrong calls recs = R
 refine PCalls.of_body tabOk Try.func11 rfl rfl rfl rfl rfl mixed fun E hP C hI => ?_
 refine Awp.consP C ?_
 refine rvP C (.pv (.lit (.bool false))) ?_
 refine rvc_nil ?_
 refine Awp.seq ?_
 refine Awp.consP C ?_
 refine rvP C (sS (some calls.nil) eCall calls.D) ?_
 refine rvc_un (rexec_call hP C rfl rfl rfl (rKeys_calls calls hl1) ?_)
 refine rvP C (.pv (.lit (.int .i64 (((rKeys calls).D).length : Int)))) ?_
 refine rvP C (.pv (.lit (.int .i64 0))) ?_
 refine rvc_nil ?_
 refine Awp.block ?_
 refine Awp.forR (σ := Unit) (((rKeys calls).D).length) (fun i _v => [(0, sS (some calls.nil) eCall calls.D), (1, sS (some recs.nil) eRecord recs.D), (8, sS (some (rKeys calls).nil) (eA8 .u8) ((rKeys calls).D)), (9, .pv (.lit (.int .i64 (((rKeys calls).D).length : Int)))), (10, .pv (.lit (.int .i64 (i : Int))))]) (fun i _v => []) [] (fun i _v => rStrong_l0 calls recs (((rKeys calls).D).drop i) i  = R) () ?_ ?_ (fun i _v h1 hR => ?_)
 · exact hR
 · exact ⟨fun b => b, WeakerR.ofL (Ks := []) hI ⟨⟨rfl, rfl⟩, ⟨rfl, rfl⟩, ⟨rfl, rfl⟩, ⟨rfl, rfl⟩, ⟨rfl, rfl⟩, trivial⟩ (okH_nil) rfl⟩
 have hk_ := rKeys_len (calls := calls)
 refine Awp.consP C ?_
 refine rvP C (.pv (.lit (.bool (decide ((i : Int) < (((rKeys calls).D).length : Int)))))) ?_
 refine rvc_nil ?_
 refine Awp.seq ?_
 refine Awp.cond (b := (decide ((i : Int) < (((rKeys calls).D).length : Int)))) rfl (fun h2 => ?_) (fun h2 => ?_)
 ·
  have h3 : i < ((rKeys calls).D).length := by have := of_decide_eq_true h2; omega
  obtain ⟨x, h4⟩ := getX h3
  rw [drop_at h4] at hR
  refine Awp.skip ?_
  refine Awp.seq ?_
  refine Awp.block ?_
  refine Awp.consP C ?_
  refine rvc_un (rexec_idxS C rfl rfl rfl rfl rfl rfl x (Int.natCast_nonneg _) h4 ?_)
  refine rvP C (.agg [.pv (.lit (.int .u8 (x 0))), .pv (.lit (.int .u8 (x 1))), .pv (.lit (.int .u8 (x 2))), .pv (.lit (.int .u8 (x 3))), .pv (.lit (.int .u8 (x 4))), .pv (.lit (.int .u8 (x 5))), .pv (.lit (.int .u8 (x 6))), .pv (.lit (.int .u8 (x 7)))]) ?_
  refine rvc_un (rexec_prim C (δ := { v := .ptr 6 0, new := [(6, .cells [.pv (.lit (.int .u8 0)), .pv (.lit (.int .u8 0)), .pv (.lit (.int .u8 0)), .pv (.lit (.int .u8 0)), .pv (.lit (.int .u8 0)), .pv (.lit (.int .u8 0)), .pv (.lit (.int .u8 0)), .pv (.lit (.int .u8 0))])] }) rfl rfl rfl rfl trivial rfl ?_)
  refine rvc_un (rexec_prim C (δ := { v := .undef, wr := [(6, some (.cells [.pv (.lit (.int .u8 (x 0))), .pv (.lit (.int .u8 (x 1))), .pv (.lit (.int .u8 (x 2))), .pv (.lit (.int .u8 (x 3))), .pv (.lit (.int .u8 (x 4))), .pv (.lit (.int .u8 (x 5))), .pv (.lit (.int .u8 (x 6))), .pv (.lit (.int .u8 (x 7)))]))] }) rfl rfl rfl rfl trivial rfl ?_)
  refine rvc_nil ?_
  refine Awp.consP C ?_
  refine rvP C (.agg [.pv (.lit (.int .u8 (x 0))), .pv (.lit (.int .u8 (x 1))), .pv (.lit (.int .u8 (x 2))), .pv (.lit (.int .u8 (x 3))), .pv (.lit (.int .u8 (x 4))), .pv (.lit (.int .u8 (x 5))), .pv (.lit (.int .u8 (x 6))), .pv (.lit (.int .u8 (x 7)))]) ?_
  refine rvP C (sS (some calls.nil) eCall calls.D) ?_
  refine rvP C (sS (some recs.nil) eRecord recs.D) ?_
  refine rvc_un (rexec_call hP C rfl rfl rfl (rOps_calls x calls recs hl1 hl2) ?_)
  refine rvc_un (rexec_call hP C rfl rfl rfl (rVersions_calls (rOps x calls recs) (Nat.le_trans rOps_len (by omega))) ?_)
  refine rvP C (.pv (.lit (.bool (!(rVersions (rOps x calls recs)))))) ?_
  refine rvc_nil ?_
  refine Awp.cond (b := (!(rVersions (rOps x calls recs)))) rfl (fun h5 => ?_) (fun h5 => ?_)
  ·
   replace hR := of_true h5 hR
   refine Awp.consP C ?_
   refine rvP C (.pv (.lit (.bool false))) ?_
   refine rvc_nil ?_
   refine Awp.ret ?_
   subst hR
   exact ⟨.inl rfl, rfl⟩
  ·
   replace hR := of_false h5 hR
   refine Awp.skip ?_
   refine Awp.regionP C ?_
   refine rvP C (.pv (.lit (.int .i64 (IntKind.i64.wrap ((i : Int) + 1))))) ?_
   refine rvP C (.pv (.lit (.int .i64 (IntKind.i64.wrap ((i : Int) + 1))))) ?_
   refine rvc_nil ?_
   refine ⟨h3, (), ?_, ?_⟩
   · exact hR
   · exact ⟨fun b => b, WeakerR.ofL (Ks := []) hI ⟨⟨rfl, rfl⟩, ⟨rfl, rfl⟩, ⟨rfl, rfl⟩, ⟨rfl, rfl⟩, ⟨lit_cast (wrap_i64 (by omega) (by omega)), rfl⟩, trivial⟩ (okH_nil) rfl⟩
 ·
  have h3 : ¬ i < ((rKeys calls).D).length := by have := of_decide_eq_false h2; omega
  rw [drop_end h3] at hR
  refine Awp.exit ?_
  refine Awp.consP C ?_
  refine rvP C (.pv (.lit (.bool true))) ?_
  refine rvc_nil ?_
  refine Awp.ret ?_
  subst hR
  exact ⟨.inl rfl, rfl⟩
def jAll (calls : (Sl Call)) (recs : (Sl Record)) : Bool :=
  (bif ((jRight recs) == 0) then (bif (jStrong calls recs) then (bif (jValues calls recs) then (bif (jBounds calls) then (jSessions calls) else false) else false) else false) else false)
theorem jAll_calls (calls : (Sl Call)) (recs : (Sl Record)) (hl1 : recs.D.length ≤ 1000000) (hl2 : calls.D.length ≤ 1000000) : PCalls Try.prog 19 [sS (some calls.nil) eCall calls.D, sS (some recs.nil) eRecord recs.D] (.pv (.lit (.bool (jAll calls recs)))) := by
 generalize hR : jAll calls recs = R
 refine PCalls.of_body tabOk Try.func19 rfl rfl rfl rfl rfl mixed fun E hP C hI => ?_
 refine Awp.consP C ?_
 refine rvP C (.pv (.lit (.bool false))) ?_
 refine rvc_nil ?_
 refine Awp.consP C ?_
 refine rvP C (sS (some recs.nil) eRecord recs.D) ?_
 refine rvc_un (rexec_call hP C rfl rfl rfl (jRight_calls recs hl1) ?_)
 refine rvP C (.pv (.lit (.bool ((jRight recs) == 0)))) ?_
 refine rvP C (.pv (.lit (.bool ((jRight recs) == 0)))) ?_
 refine rvc_case 8 ((jRight recs) == 0) rfl (fun h1 => ?_) (fun h1 => ?_)
 ·
  replace hR := of_true h1 hR
  refine rvO C (sS (some calls.nil) eCall calls.D) ?_
  refine rvO C (sS (some recs.nil) eRecord recs.D) ?_
  refine rvc_open rfl rfl rfl (rexec_call hP C rfl rfl rfl (jStrong_calls calls recs hl2 hl1) ?_)
  refine rvP C (.pv (.lit (.bool (jStrong calls recs)))) ?_
  refine rvP C (.pv (.lit (.bool (jStrong calls recs)))) ?_
  refine rvc_case 13 (jStrong calls recs) rfl (fun h2 => ?_) (fun h2 => ?_)
  ·
   replace hR := of_true h2 hR
   refine rvO C (sS (some calls.nil) eCall calls.D) ?_
   refine rvO C (sS (some recs.nil) eRecord recs.D) ?_
   refine rvc_open rfl rfl rfl (rexec_call hP C rfl rfl rfl (jValues_calls calls recs hl1 hl2) ?_)
   refine rvP C (.pv (.lit (.bool (jValues calls recs)))) ?_
   refine rvP C (.pv (.lit (.bool (jValues calls recs)))) ?_
   refine rvc_case 18 (jValues calls recs) rfl (fun h3 => ?_) (fun h3 => ?_)
   ·
    replace hR := of_true h3 hR
    refine rvO C (sS (some calls.nil) eCall calls.D) ?_
    refine rvc_open rfl rfl rfl (rexec_call hP C rfl rfl rfl (jBounds_calls calls hl2) ?_)
    refine rvP C (.pv (.lit (.bool (jBounds calls)))) ?_
    refine rvP C (.pv (.lit (.bool (jBounds calls)))) ?_
    refine rvc_case 22 (jBounds calls) rfl (fun h4 => ?_) (fun h4 => ?_)
    ·
     replace hR := of_true h4 hR
     refine rvO C (sS (some calls.nil) eCall calls.D) ?_
     refine rvc_open rfl rfl rfl (rexec_call hP C rfl rfl rfl (jSessions_calls calls hl2) ?_)
     refine rvP C (.pv (.lit (.bool (jSessions calls)))) ?_
     refine rvP C (.pv (.lit (.bool (jSessions calls)))) ?_
     refine rvc_nil ?_
     refine Awp.ret ?_
     subst hR
     exact ⟨.inl rfl, rfl⟩
    ·
     replace hR := of_false h4 hR
     refine rvS ?_
     refine rvS ?_
     refine rvP C (.pv (.lit (.bool false))) ?_
     refine rvP C (.pv (.lit (.bool false))) ?_
     refine rvc_nil ?_
     refine Awp.ret ?_
     subst hR
     exact ⟨.inl rfl, rfl⟩
   ·
    replace hR := of_false h3 hR
    refine rvS ?_
    refine rvS ?_
    refine rvP C (.pv (.lit (.bool false))) ?_
    refine rvP C (.pv (.lit (.bool false))) ?_
    refine rvS ?_
    refine rvS ?_
    refine rvP C (.pv (.lit (.bool false))) ?_
    refine rvP C (.pv (.lit (.bool false))) ?_
    refine rvc_nil ?_
    refine Awp.ret ?_
    subst hR
    exact ⟨.inl rfl, rfl⟩
  ·
   replace hR := of_false h2 hR
   refine rvS ?_
   refine rvS ?_
   refine rvS ?_
   refine rvP C (.pv (.lit (.bool false))) ?_
   refine rvP C (.pv (.lit (.bool false))) ?_
   refine rvS ?_
   refine rvS ?_
   refine rvP C (.pv (.lit (.bool false))) ?_
   refine rvP C (.pv (.lit (.bool false))) ?_
   refine rvS ?_
   refine rvS ?_
   refine rvP C (.pv (.lit (.bool false))) ?_
   refine rvP C (.pv (.lit (.bool false))) ?_
   refine rvc_nil ?_
   refine Awp.ret ?_
   subst hR
   exact ⟨.inl rfl, rfl⟩
 ·
  replace hR := of_false h1 hR
  refine rvS ?_
  refine rvS ?_
  refine rvS ?_
  refine rvP C (.pv (.lit (.bool false))) ?_
  refine rvP C (.pv (.lit (.bool false))) ?_
  refine rvS ?_
  refine rvS ?_
  refine rvS ?_
  refine rvP C (.pv (.lit (.bool false))) ?_
  refine rvP C (.pv (.lit (.bool false))) ?_
  refine rvS ?_
  refine rvS ?_
  refine rvP C (.pv (.lit (.bool false))) ?_
  refine rvP C (.pv (.lit (.bool false))) ?_
  refine rvS ?_
  refine rvS ?_
  refine rvP C (.pv (.lit (.bool false))) ?_
  refine rvP C (.pv (.lit (.bool false))) ?_
  refine rvc_nil ?_
  refine Awp.ret ?_
  subst hR
  exact ⟨.inl rfl, rfl⟩
theorem jStrong_l0_eq (calls : Sl Call) (recs : Sl Record) : ∀ (ks : List (Nat → Int)) (i : Nat), jStrong_l0 calls recs ks i = (ks.map kL).all fun k => versions (Sl.mk false (opsOf k recs calls.D))
  | [], _ => by unfold jStrong_l0; rfl
  | k :: ks, i => by
    unfold jStrong_l0
    rw [jStrong_l0_eq calls recs ks (i + 1), List.map_cons, List.all_cons, jOps_eq, versions_D (l := Sl.mk (opsOf (kL k) recs calls.D).isEmpty (opsOf (kL k) recs calls.D)) (m := Sl.mk false (opsOf (kL k) recs calls.D)) rfl]
    cases versions (Sl.mk false (opsOf (kL k) recs calls.D)) <;> rfl
theorem rStrong_l0_eq (calls : Sl Call) (recs : Sl Record) : ∀ (ks : List (Nat → Int)) (i : Nat), rStrong_l0 calls recs ks i = (ks.map kL).all fun k => versions (Sl.mk false (opsOf k recs calls.D))
  | [], _ => by unfold rStrong_l0; rfl
  | k :: ks, i => by
    unfold rStrong_l0
    rw [rStrong_l0_eq calls recs ks (i + 1), List.map_cons, List.all_cons, rOps_eq, ← versions_r, versions_D (l := Sl.mk (opsOf (kL k) recs calls.D).isEmpty (opsOf (kL k) recs calls.D)) (m := Sl.mk false (opsOf (kL k) recs calls.D)) rfl]
    cases versions (Sl.mk false (opsOf (kL k) recs calls.D)) <;> rfl
theorem strong_eq {calls : Sl Call} (recs : Sl Record) (hL : calls.D.length ≤ 1000000) (hb : ∀ x ∈ calls.D, B8 (kL x.key)) : jStrong calls recs = rStrong calls recs := by
  unfold jStrong rStrong
  rw [jStrong_l0_eq, rStrong_l0_eq, keys_eq hL hb]
theorem jStrong_iff {calls : Sl Call} (recs : Sl Record) (hL : calls.D.length ≤ 1000000) : jStrong calls recs = true ↔ ∀ x ∈ calls.D, VP (opsOf (kL x.key) recs calls.D) := by
  unfold jStrong
  rw [jStrong_l0_eq, List.all_eq_true]
  obtain ⟨_, p⟩ := jKeys_spec hL
  constructor
  · intro h x hx
    exact (versions_iff _).1 (h (kL x.key) ((p _).2 (List.mem_map_of_mem (f := fun x : Call => kL x.key) hx)))
  · intro h k hk
    obtain ⟨x, hx, rfl⟩ := List.mem_map.1 ((p k).1 hk)
    exact (versions_iff _).2 (h x hx)
def slotP (c : Call) (x : Record) : Bool := decide (kL c.key = kL x.key ∧ c.ver = x.ver)
def okV (recs : Sl Record) (c : Call) : Bool := !ans c || (bif c.write then (match lastC c recs with
    | none => false
    | some w => (w.ver == c.ver) && (decide (kL w.key = kL c.key) && (w.value.toList == c.value.toList)))
  else bif c.ver == 0 then c.value.toList == (⟨#[]⟩ : ByteArray).toList else (match lastP (slotP c) recs.D none with
    | none => false
    | some r => r.value.toList == c.value.toList))
theorem ofSlot (c : Call) (recs : Sl Record) : mGet kSlot (Slot.mk c.key c.ver) (openB recs).of_ = lastP (slotP c) recs.D none := openB_of _ _
theorem jValues_l0_eq (recs : Sl Record) : ∀ (xs : List Call) (i : Nat), jValues_l0 recs xs i = xs.all (okV recs)
  | [], _ => by unfold jValues_l0; rfl
  | x :: xs, i => by
    unfold jValues_l0
    rw [jValues_l0_eq recs xs (i + 1), List.all_cons, jAns_eq, reqOf, ofSlot]
    generalize xs.all (okV recs) = r
    unfold okV
    cases ans x
    · simp
    · rw [Bool.not_true, cond_false, Bool.false_or]
      cases x.write
      · rw [cond_false, cond_false]
        cases (x.ver == 0)
        · rw [cond_false, cond_false]
          cases lastP (slotP x) recs.D none with
          | none => rfl
          | some w =>
            simp only [Option.isSome_some, Bool.not_true, cond_false, Option.getD_some]
            cases (w.value.toList == x.value.toList) <;> rfl
        · rw [cond_true, cond_true]
          cases (x.value.toList == (⟨#[]⟩ : ByteArray).toList) <;> rfl
      · rw [cond_true, cond_true]
        cases lastC x recs with
        | none => rfl
        | some w =>
          simp only [Option.isSome_some, Bool.not_true, cond_false, Option.getD_some, eq8]
          rw [show (w.ver != x.ver) = !(w.ver == x.ver) from rfl]
          cases (w.ver == x.ver) <;> cases decide (kL w.key = kL x.key) <;> cases (w.value.toList == x.value.toList) <;> rfl
theorem rValues_l1_eq (x : Call) (kk : Bool → Bool) : ∀ (xs : List Record) (i : Nat) (there : Bool), rValues_l1 x kk xs i there = kk (there || xs.any fun r => decide (x.client = r.req.client ∧ x.seq = r.req.seq))
  | [], _, there => by unfold rValues_l1; simp
  | r :: rs, i, there => by
    unfold rValues_l1
    rw [rValues_l1_eq x kk rs (i + 1), rValues_l1_eq x kk rs (i + 1), rValues_l1_eq x kk rs (i + 1), List.any_cons]
    have e : decide (x.client = r.req.client ∧ x.seq = r.req.seq) = ((r.req.client == x.client) && (r.req.seq == x.seq)) := by
      rw [Bool.eq_iff_iff]; simp only [decide_eq_true_eq, Bool.and_eq_true, beq_iff_eq]
      exact ⟨fun h => ⟨h.1.symm, h.2.symm⟩, fun h => ⟨h.1.symm, h.2.symm⟩⟩
    rw [e]
    cases there <;> cases (r.req.client == x.client) <;> cases (r.req.seq == x.seq) <;> simp
theorem rValues_l2_eq (x : Call) (kk : Bool → Bool) (b : Bool) : ∀ (xs : List Record) (i : Nat) (o : Option Record), rValues_l2 x kk xs i (match o with | none => b | some r => r.value.toList == x.value.toList) = kk (match lastP (slotP x) xs o with | none => b | some r => r.value.toList == x.value.toList)
  | [], _, o => by unfold rValues_l2 lastP; rfl
  | r :: rs, i, o => by
    unfold rValues_l2 lastP
    rw [eq8]
    by_cases h1 : kL r.key = kL x.key
    · rw [decide_eq_true h1, cond_true]
      by_cases h2 : r.ver = x.ver
      · rw [show (r.ver == x.ver) = true from beq_iff_eq.2 h2, cond_true, if_pos (by unfold slotP; exact decide_eq_true ⟨h1.symm, h2.symm⟩)]
        exact rValues_l2_eq x kk b rs (i + 1) (some r)
      · rw [show (r.ver == x.ver) = false by simpa using h2, cond_false, if_neg (by unfold slotP; simp only [decide_eq_true_eq]; exact fun h => h2 h.2.symm)]
        exact rValues_l2_eq x kk b rs (i + 1) o
    · rw [decide_eq_false h1, cond_false, if_neg (by unfold slotP; simp only [decide_eq_true_eq]; exact fun h => h1 h.1.symm)]
      exact rValues_l2_eq x kk b rs (i + 1) o
theorem kL_norm (r : Record) : kL (normR r).key = kL r.key := rfl
theorem rValues_l0_eq (recs : Sl Record) : ∀ (xs : List Call) (i : Nat), rValues_l0 recs xs i = xs.all (okV recs)
  | [], _ => by unfold rValues_l0; rfl
  | x :: xs, i => by
    unfold rValues_l0
    rw [List.all_cons, rAns_eq]
    have ih := rValues_l0_eq recs xs (i + 1)
    rw [ih]
    generalize xs.all (okV recs) = r
    unfold okV
    cases ans x
    · simp
    · rw [Bool.not_true, cond_false, Bool.false_or]
      cases x.write
      · rw [cond_false, cond_false]
        by_cases hv : x.ver = 0
        · rw [show (x.ver == 0) = true from beq_iff_eq.2 hv, show (x.ver != 0) = false by simp [hv], cond_true, cond_true, cond_false]
          cases (x.value.toList == (⟨#[]⟩ : ByteArray).toList) <;> rfl
        · rw [show (x.ver == 0) = false by simpa using hv, show (x.ver != 0) = true by simpa using hv, cond_false, cond_false, cond_true]
          have := rValues_l2_eq x (fun ok1 => bif !ok1 then false else r) false recs.D 0 none
          rw [show (match (none : Option Record) with | none => false | some r => r.value.toList == x.value.toList) = false from rfl] at this
          rw [this]
          cases lastP (slotP x) recs.D none with
          | none => rfl
          | some w => dsimp only; cases (w.value.toList == x.value.toList) <;> rfl
      · rw [cond_true, cond_true, rValues_l1_eq, Bool.false_or]
        have hs := lastP_some (fun r : Record => decide (x.client = r.req.client ∧ x.seq = r.req.seq)) recs.D none
        rw [show (none : Option Record).isSome = false from rfl, Bool.false_or] at hs
        rw [← hs, rOfC_eq, eq8, kL_norm]
        change (bif !(lastC x recs).isSome then _ else _) = _
        cases lastC x recs with
        | none => rfl
        | some w =>
          simp only [Option.isSome_some, Bool.not_true, cond_false, Option.getD_some]
          rw [show ((normR w).ver != x.ver) = !(w.ver == x.ver) from rfl, show (normR w).value = w.value from rfl]
          cases (w.ver == x.ver) <;> cases decide (kL w.key = kL x.key) <;> cases (w.value.toList == x.value.toList) <;> rfl
theorem jValues_eq (calls : Sl Call) (recs : Sl Record) : jValues calls recs = calls.D.all (okV recs) := jValues_l0_eq recs calls.D 0
theorem values_eq (calls : Sl Call) (recs : Sl Record) : jValues calls recs = rValues calls recs := by
  rw [jValues_eq]; exact (rValues_l0_eq recs calls.D 0).symm
theorem indexF_any (f : Call → Bool) : ∀ (xs : List Call) (i : Nat), decide (indexF_l0 f xs i ≥ 0) = xs.any f
  | [], _ => by unfold indexF_l0; rfl
  | x :: xs, i => by
    unfold indexF_l0
    rw [List.any_cons]
    cases f x
    · rw [cond_false, Bool.false_or]; exact indexF_any f xs (i + 1)
    · rw [cond_true, Bool.true_or]; exact decide_eq_true (Int.natCast_nonneg i)
theorem containsF_eq (s : Sl Call) (f : Call → Bool) : containsF s f = s.D.any f := indexF_any f s.D 0
theorem ahead_r (x : Call) (kk : Int → Bool) : ∀ (xs : List Call) (i j : Nat) (most : Int), rBounds_l1 x kk xs i most = kk (jAhead_l0 x.key x.began xs j most)
  | [], _, _, most => by unfold rBounds_l1 jAhead_l0; rfl
  | y :: ys, i, j, most => by
    unfold rBounds_l1 jAhead_l0
    rw [ahead_r x kk ys (i + 1) (j + 1), ahead_r x kk ys (i + 1) (j + 1), rAns_eq, jAns_eq, eq8]
    cases y.write
    · rfl
    · cases ans y
      · rfl
      · cases decide (kL y.key = kL x.key)
        · rfl
        · cases decide (y.ended < x.began) <;> rfl
def i64 (n : Int) : Prop := -9223372036854775808 ≤ n ∧ n ≤ 9223372036854775807
theorem ahead_range (k : Nat → Int) (time : Int) : ∀ (xs : List Call) (i : Nat) (most : Int), (∀ x ∈ xs, i64 x.ver) → 0 ≤ most → most ≤ 9223372036854775807 → 0 ≤ jAhead_l0 k time xs i most ∧ jAhead_l0 k time xs i most ≤ 9223372036854775807
  | [], _, most, _, h1, h2 => by unfold jAhead_l0; exact ⟨h1, h2⟩
  | y :: ys, i, most, hx, h1, h2 => by
    unfold jAhead_l0
    have hy := hx y List.mem_cons_self
    have ih := fun m a b => ahead_range k time ys (i + 1) m (fun x h => hx x (List.mem_cons_of_mem _ h)) a b
    rw [eq8]
    cases y.write
    · exact ih _ h1 h2
    · cases jAnswered y
      · exact ih _ h1 h2
      · cases decide (kL y.key = kL k)
        · exact ih _ h1 h2
        · cases decide (y.ended < time)
          · exact ih _ h1 h2
          · rw [cond_true, cond_true, cond_true, cond_true]
            by_cases hm : most < y.ver
            · rw [decide_eq_true hm, cond_true]; exact ih _ (by omega) hy.2
            · rw [decide_eq_false hm, cond_false]; exact ih _ h1 h2
theorem wrap64' (n : Int) : IntKind.u64.wrap n = n % 18446744073709551616 := by
  simp [IntKind.wrap, IntKind.bits, IntKind.signed]
theorem bounds_one {n v b : Int} (hn : 0 ≤ n ∧ n ≤ 9223372036854775807) (hv : i64 v) (hb : i64 b) (hnv : n > v) (hb0 : ¬ b < 0) (r : Bool) :
    (bif decide (v < 0) then (bif decide (n > IntKind.i64.wrap (v + b)) then false else (bif decide (v ≥ 0) then (bif decide (IntKind.i64.wrap (n - v) > b) then false else r) else r)) else (bif decide (v ≥ 0) then (bif decide (IntKind.i64.wrap (n - v) > b) then false else r) else r)) = (!decide (IntKind.u64.wrap (IntKind.u64.wrap n - IntKind.u64.wrap v) > IntKind.u64.wrap b) && r) := by
  obtain ⟨v1, v2⟩ := hv
  obtain ⟨b1, b2⟩ := hb
  have e : IntKind.u64.wrap (IntKind.u64.wrap n - IntKind.u64.wrap v) = n - v := by rw [wrap64', wrap64', wrap64']; omega
  rw [e, show IntKind.u64.wrap b = b by rw [wrap64']; omega]
  by_cases h : v < 0
  · rw [decide_eq_true h, cond_true, wrapI (v + b) (by omega), decide_eq_false (show ¬ v ≥ 0 by omega), cond_false]
    by_cases h2 : n > v + b
    · rw [decide_eq_true h2, decide_eq_true (show n - v > b by omega)]; rfl
    · rw [decide_eq_false h2, decide_eq_false (show ¬ n - v > b by omega)]; rfl
  · rw [decide_eq_false h, cond_false, decide_eq_true (show v ≥ 0 by omega), cond_true, wrap_i64 (by omega) (by omega)]
    by_cases h2 : n - v > b
    · rw [decide_eq_true h2]; rfl
    · rw [decide_eq_false h2]; rfl
theorem rBounds_l0_eq (calls : Sl Call) (hw : ∀ x ∈ calls.D, i64 x.ver ∧ i64 x.bound) : ∀ (xs : List Call) (i : Nat), (∀ x ∈ xs, x ∈ calls.D) → rBounds_l0 calls xs i = xs.all fun x => !boundsF x calls
  | [], _, _ => by unfold rBounds_l0; rfl
  | x :: xs, i, h => by
    unfold rBounds_l0
    rw [List.all_cons, rBounds_l0_eq calls hw xs (i + 1) fun y hy => h y (List.mem_cons_of_mem _ hy), ahead_r x _ calls.D 0 0 0, rAns_eq]
    obtain ⟨hv, hb⟩ := hw x (h x List.mem_cons_self)
    have hn := ahead_range x.key x.began calls.D 0 0 (fun y hy => (hw y hy).1) (Int.le_refl 0) (by decide)
    generalize (xs.all fun x => !boundsF x calls) = r
    unfold boundsF
    rw [jAns_eq]
    change _ = ((!(bif !x.write then (bif x.mode == 1 then (bif ans x then (bif decide (jAhead_l0 x.key x.began calls.D 0 0 > x.ver) then (bif decide (x.bound < 0) then true else decide (IntKind.u64.wrap (IntKind.u64.wrap (jAhead_l0 x.key x.began calls.D 0 0) - IntKind.u64.wrap x.ver) > IntKind.u64.wrap x.bound)) else false) else false) else false) else false)) && _)
    generalize jAhead_l0 x.key x.began calls.D 0 0 = n at hn ⊢
    rw [show (x.mode != 1) = !(x.mode == 1) from rfl]
    cases x.write
    · cases (x.mode == 1)
      · simp
      · cases ans x
        · simp
        · by_cases h1 : n > x.ver
          · rw [decide_eq_true h1]
            by_cases h2 : x.bound < 0
            · rw [decide_eq_true h2]; simp
            · rw [decide_eq_false h2]
              simp only [Bool.not_true, Bool.not_false, cond_true, cond_false]
              exact bounds_one hn hv hb h1 h2 r
          · rw [decide_eq_false h1]; simp
    · simp
theorem bounds_eq {calls : Sl Call} (hw : ∀ x ∈ calls.D, i64 x.ver ∧ i64 x.bound) : jBounds calls = rBounds calls := by
  unfold jBounds rBounds
  rw [containsF_eq, rBounds_l0_eq calls hw calls.D 0 fun _ h => h]
  exact List.not_any_eq_all_not
theorem rSessions_l0_eq : ∀ (xs : List Call) (i : Nat), rSessions_l0 xs i = xs.all fun x => !sessF x
  | [], _ => by unfold rSessions_l0; rfl
  | x :: xs, i => by
    unfold rSessions_l0 
    rw [rSessions_l0_eq xs (i + 1), List.all_cons, rAns_eq]
    unfold sessF
    rw [jAns_eq]
    cases x.write <;> cases (x.mode == 2) <;> cases ans x <;> cases decide (x.ver < x.floor) <;> simp
theorem sessions_eq (calls : Sl Call) : jSessions calls = rSessions calls := by
  unfold jSessions rSessions
  rw [containsF_eq, rSessions_l0_eq]
  exact List.not_any_eq_all_not
def pw (same : Record → Record → Bool) (P : List Record) : List Record → Bool
  | [] => true
  | x :: xs => !(P.any (same x)) && pw same (P ++ [x]) xs
theorem pw_iff (same : Record → Record → Bool) : ∀ (xs P : List Record), pw same P xs = true ↔ ∀ j y, xs[j]? = some y → ∀ x ∈ P ++ xs.take j, same y x = false
  | [], P => by unfold pw; simp
  | x :: xs, P => by
    unfold pw
    rw [Bool.and_eq_true, pw_iff same xs (P ++ [x]), Bool.not_eq_true', List.any_eq_false]
    constructor
    · rintro ⟨h1, h2⟩ j y hj z hz
      cases j with
      | zero =>
        simp only [List.getElem?_cons_zero, Option.some.injEq] at hj
        subst hj
        rw [List.take_zero, List.append_nil] at hz
        simpa using h1 z hz
      | succ j =>
        rw [List.getElem?_cons_succ] at hj
        refine h2 j y hj z ?_
        rw [List.take_succ_cons] at hz
        rw [List.append_assoc]; exact hz
    · intro h
      refine ⟨fun z hz => ?_, fun j y hj z hz => ?_⟩
      · have := h 0 x rfl z (by rw [List.take_zero, List.append_nil]; exact hz)
        simp [this]
      · refine h (j + 1) y (by rw [List.getElem?_cons_succ]; exact hj) z ?_
        rw [List.take_succ_cons]
        rw [List.append_assoc] at hz; exact hz
def sameS (a b : Record) : Bool := decide (kL a.key = kL b.key ∧ a.ver = b.ver)
def sameQ (a b : Record) : Bool := decide (a.req.client = b.req.client ∧ a.req.seq = b.req.seq)
theorem len_of : ∀ (xs : List Record) (i : Nat) (m1 : List (Slot × Record)) (m2 : List (Req × Record)) (P : List Record), (∀ q, (mGet kSlot q m1).isSome = P.any fun x => kSlot.eq q (Slot.mk x.key x.ver)) → (openB_l0 xs i m1 m2).of_.length ≤ m1.length + xs.length ∧ ((openB_l0 xs i m1 m2).of_.length = m1.length + xs.length ↔ pw sameS P xs = true)
  | [], _, m1, _, P, _ => by unfold openB_l0 pw; exact ⟨Nat.le_refl _, ⟨fun _ => rfl, fun _ => rfl⟩⟩
  | x :: xs, i, m1, m2, P, h => by
    unfold openB_l0 pw
    have h' : ∀ q, (mGet kSlot q (mSet kSlot (Slot.mk x.key x.ver) x m1)).isSome = (P ++ [x]).any fun x => kSlot.eq q (Slot.mk x.key x.ver) := fun q => by
      rw [mGet_set kSlot_sym kSlot_tr, List.any_append, ← h q]
      cases hq : kSlot.eq q (Slot.mk x.key x.ver)
      · rw [if_neg (by simp)]; simp [hq]
      · rw [if_pos rfl]; simp [hq]
    obtain ⟨i1, i2⟩ := len_of xs (i + 1) _ (mSet kReq x.req x m2) (P ++ [x]) h'
    have hl := mSet_len (KE := kSlot) (Slot.mk x.key x.ver) x m1
    have hP : (P.any (sameS x)) = (mGet kSlot (Slot.mk x.key x.ver) m1).isSome := by
      rw [h]; congr 1; funext z; rw [kSlot_eq]; rfl
    rw [hP, List.length_cons]
    cases hs : (mGet kSlot (Slot.mk x.key x.ver) m1).isSome
    · rw [hs, if_neg (by decide)] at hl
      rw [hl] at i1 i2
      rw [Bool.not_false, Bool.true_and, ← i2]
      exact ⟨by omega, by omega⟩
    · rw [hs, if_pos rfl] at hl
      rw [hl] at i1
      rw [Bool.not_true, Bool.false_and]
      exact ⟨by omega, ⟨fun e => by omega, fun e => (by cases e)⟩⟩
theorem len_req : ∀ (xs : List Record) (i : Nat) (m1 : List (Slot × Record)) (m2 : List (Req × Record)) (P : List Record), (∀ q, (mGet kReq q m2).isSome = P.any fun x => kReq.eq q x.req) → (openB_l0 xs i m1 m2).req.length ≤ m2.length + xs.length ∧ ((openB_l0 xs i m1 m2).req.length = m2.length + xs.length ↔ pw sameQ P xs = true)
  | [], _, _, m2, P, _ => by unfold openB_l0 pw; exact ⟨Nat.le_refl _, ⟨fun _ => rfl, fun _ => rfl⟩⟩
  | x :: xs, i, m1, m2, P, h => by
    unfold openB_l0 pw
    have h' : ∀ q, (mGet kReq q (mSet kReq x.req x m2)).isSome = (P ++ [x]).any fun x => kReq.eq q x.req := fun q => by
      rw [mGet_set kReq_sym kReq_tr, List.any_append, ← h q]
      cases hq : kReq.eq q x.req
      · rw [if_neg (by simp)]; simp [hq]
      · rw [if_pos rfl]; simp [hq]
    obtain ⟨i1, i2⟩ := len_req xs (i + 1) (mSet kSlot (Slot.mk x.key x.ver) x m1) _ (P ++ [x]) h'
    have hl := mSet_len (KE := kReq) x.req x m2
    have hP : (P.any (sameQ x)) = (mGet kReq x.req m2).isSome := by
      rw [h]; congr 1; funext z; rw [kReq_eq]; rfl
    rw [hP, List.length_cons]
    cases hs : (mGet kReq x.req m2).isSome
    · rw [hs, if_neg (by decide)] at hl
      rw [hl] at i1 i2
      rw [Bool.not_false, Bool.true_and, ← i2]
      exact ⟨by omega, by omega⟩
    · rw [hs, if_pos rfl] at hl
      rw [hl] at i1
      rw [Bool.not_true, Bool.false_and]
      exact ⟨by omega, ⟨fun e => by omega, fun e => (by cases e)⟩⟩
def below (recs : List Record) (x : Record) : Bool := (x.ver == 1) || recs.any fun q => decide (kL x.key = kL q.key) && (decide (x.ver > 1) && (q.ver == IntKind.i64.wrap (x.ver - 1)))
theorem jRight_l0_eq (recs : Sl Record) : ∀ (xs : List Record) (i : Nat), jRight_l0 recs xs i = bif xs.all (below recs.D) then 0 else 200
  | [], _ => by unfold jRight_l0; rfl
  | x :: xs, i => by
    unfold jRight_l0
    rw [jRight_l0_eq recs xs (i + 1), List.all_cons, openB_of, lastP_some]
    generalize xs.all (below recs.D) = r
    unfold below
    by_cases h1 : x.ver < 1
    · rw [decide_eq_true h1, cond_true, show (x.ver == 1) = false by simp; omega, decide_eq_false (show ¬ x.ver > 1 by omega)]
      have : (recs.D.any fun q => decide (kL x.key = kL q.key) && (false && (q.ver == IntKind.i64.wrap (x.ver - 1)))) = false := by
        rw [List.any_eq_false]; intro q _; simp
      rw [this]; rfl
    · rw [decide_eq_false h1, cond_false]
      by_cases h2 : x.ver > 1
      · rw [decide_eq_true h2, cond_true, show (x.ver == 1) = false by simp; omega]
        have : (recs.D.any fun y => decide (kL x.key = kL y.key ∧ IntKind.i64.wrap (x.ver - 1) = y.ver)) = recs.D.any fun q => decide (kL x.key = kL q.key) && (true && (q.ver == IntKind.i64.wrap (x.ver - 1))) := by
          congr 1; funext q
          rw [Bool.eq_iff_iff]; simp only [decide_eq_true_eq, Bool.and_eq_true, Bool.true_and, beq_iff_eq]
          exact ⟨fun h => ⟨h.1, h.2.symm⟩, fun h => ⟨h.1, h.2.symm⟩⟩
        show (bif !((none : Option Record).isSome || recs.D.any fun y => decide (kL x.key = kL y.key ∧ IntKind.i64.wrap (x.ver - 1) = y.ver)) then _ else _) = _
        rw [this, show (none : Option Record).isSome = false from rfl, Bool.false_or]
        generalize (recs.D.any _) = q
        cases q <;> simp
      · rw [decide_eq_false h2, cond_false, show (x.ver == 1) = true by simp; omega]; rfl
theorem jRight_eq (recs : Sl Record) : jRight recs = bif pw sameS [] recs.D && (pw sameQ [] recs.D && recs.D.all (below recs.D)) then 0 else 200 := by
  unfold jRight
  rw [jRight_l0_eq]
  obtain ⟨_, a2⟩ := len_of recs.D 0 [] [] [] (fun q => rfl)
  obtain ⟨_, b2⟩ := len_req recs.D 0 [] [] [] (fun q => rfl)
  rw [List.length_nil, Nat.zero_add] at a2 b2
  have ea : ((((openB recs).of_.length : Int)) != (recs.D.length : Int)) = !pw sameS [] recs.D := by
    rw [Bool.eq_iff_iff, bne_iff_ne, Bool.not_eq_true', ← Bool.not_eq_true, ← a2]
    show ((((openB_l0 recs.D 0 [] []).of_.length : Int)) ≠ (recs.D.length : Int)) ↔ _
    omega
  have eb : ((((openB recs).req.length : Int)) != (recs.D.length : Int)) = !pw sameQ [] recs.D := by
    rw [Bool.eq_iff_iff, bne_iff_ne, Bool.not_eq_true', ← Bool.not_eq_true, ← b2]
    show ((((openB_l0 recs.D 0 [] []).req.length : Int)) ≠ (recs.D.length : Int)) ↔ _
    omega
  rw [ea, eb]
  cases pw sameS [] recs.D <;> cases pw sameQ [] recs.D <;> rfl
def clash (i : Nat) (x : Record) (xs : List Record) (j : Nat) : Bool := match xs with
  | [] => false
  | y :: ys => decide (i ≠ j) && (sameQ y x || sameS y x) || clash i x ys (j + 1)
theorem rRight_l1_eq (i : Nat) (x : Record) (kk : Bool → Int) : ∀ (xs : List Record) (j : Nat) (b : Bool), rRight_l1 i x kk xs j b = bif clash i x xs j then 200 else kk (b || xs.any fun q => decide (kL x.key = kL q.key) && (decide (x.ver > 1) && (q.ver == IntKind.i64.wrap (x.ver - 1))))
  | [], _, b => by unfold rRight_l1 clash; simp
  | y :: ys, j, b => by
    unfold rRight_l1 clash
    have ih := fun b => rRight_l1_eq i x kk ys (j + 1) b
    rw [ih, ih, ih, eq8, List.any_cons]
    have e : ((i : Int) != (j : Int)) = decide (i ≠ j) := by rw [Bool.eq_iff_iff, bne_iff_ne, decide_eq_true_eq]; omega
    have e1 : sameQ y x = ((y.req.client == x.req.client) && ((y.req.seq == x.req.seq) && true)) := by
      unfold sameQ; rw [Bool.eq_iff_iff]; simp
    have e2 : sameS y x = (decide (kL y.key = kL x.key) && (y.ver == x.ver)) := by
      unfold sameS; rw [Bool.eq_iff_iff]; simp
    have e3 : decide (kL x.key = kL y.key) = decide (kL y.key = kL x.key) := by rw [decide_eq_decide]; exact ⟨fun h => h.symm, fun h => h.symm⟩
    rw [e, e1, e2, e3]
    generalize (ys.any _) = r
    generalize clash i x ys (j + 1) = c
    generalize ((y.req.client == x.req.client) && ((y.req.seq == x.req.seq) && true)) = b1
    generalize decide (kL y.key = kL x.key) = b2
    generalize (y.ver == x.ver) = b3
    generalize decide (x.ver > 1) = b4
    generalize (y.ver == IntKind.i64.wrap (x.ver - 1)) = b5
    cases decide (i ≠ j) <;> cases b1 <;> cases b2 <;> cases b3 <;> cases b4 <;> cases b <;> simp
theorem rRight_l0_eq (recs : Sl Record) : ∀ (xs : List Record) (i : Nat), rRight_l0 recs xs i = 0 ∧ (∀ k x, xs[k]? = some x → clash (i + k) x recs.D 0 = false ∧ below recs.D x = true) ∨ rRight_l0 recs xs i = 200 ∧ ∃ k x, xs[k]? = some x ∧ (clash (i + k) x recs.D 0 = true ∨ below recs.D x = false)
  | [], _ => .inl ⟨by unfold rRight_l0; rfl, fun k x h => (by simp at h)⟩
  | x :: xs, i => by
    have e : rRight_l0 recs (x :: xs) i = bif clash i x recs.D 0 then 200 else bif !below recs.D x then 200 else rRight_l0 recs xs (i + 1) := by
      conv => lhs; unfold rRight_l0
      rw [rRight_l1_eq]; rfl
    rw [e]
    cases hc : clash i x recs.D 0
    · cases hb : below recs.D x
      · exact .inr ⟨rfl, 0, x, rfl, .inr hb⟩
      · rw [cond_false, Bool.not_true, cond_false]
        rcases rRight_l0_eq recs xs (i + 1) with ⟨h1, h2⟩ | ⟨h1, k, y, h2, h3⟩
        · refine .inl ⟨h1, fun k y hy => ?_⟩
          cases k with
          | zero => simp only [List.getElem?_cons_zero, Option.some.injEq] at hy; subst hy; exact ⟨hc, hb⟩
          | succ k => rw [List.getElem?_cons_succ] at hy; have := h2 k y hy; rwa [show i + 1 + k = i + (k + 1) by omega] at this
        · exact .inr ⟨h1, k + 1, y, by rw [List.getElem?_cons_succ]; exact h2, by rwa [show i + 1 + k = i + (k + 1) by omega] at h3⟩
    · exact .inr ⟨rfl, 0, x, rfl, .inl hc⟩
theorem clash_iff (i : Nat) (x : Record) : ∀ (xs : List Record) (j : Nat), clash i x xs j = true ↔ ∃ k y, xs[k]? = some y ∧ i ≠ j + k ∧ (sameQ y x || sameS y x) = true
  | [], j => by unfold clash; simp
  | y :: ys, j => by
    unfold clash
    rw [Bool.or_eq_true, clash_iff i x ys (j + 1), Bool.and_eq_true, decide_eq_true_eq]
    constructor
    · rintro (h | ⟨k, z, h1, h2, h3⟩)
      · exact ⟨0, y, rfl, by omega, h.2⟩
      · exact ⟨k + 1, z, by rw [List.getElem?_cons_succ]; exact h1, by omega, h3⟩
    · rintro ⟨k, z, h1, h2, h3⟩
      cases k with
      | zero => simp only [List.getElem?_cons_zero, Option.some.injEq] at h1; subst h1; exact .inl ⟨by omega, h3⟩
      | succ k => rw [List.getElem?_cons_succ] at h1; exact .inr ⟨k, z, h1, by omega, h3⟩
theorem sameS_sym (a b : Record) : sameS a b = sameS b a := by
  unfold sameS; rw [decide_eq_decide]; exact ⟨fun h => ⟨h.1.symm, h.2.symm⟩, fun h => ⟨h.1.symm, h.2.symm⟩⟩
theorem sameQ_sym (a b : Record) : sameQ a b = sameQ b a := by
  unfold sameQ; rw [decide_eq_decide]; exact ⟨fun h => ⟨h.1.symm, h.2.symm⟩, fun h => ⟨h.1.symm, h.2.symm⟩⟩
theorem pw_pairs {same : Record → Record → Bool} (hs : ∀ a b, same a b = same b a) {L : List Record} (h : pw same [] L = true) {i j : Nat} {x y : Record} (hi : L[i]? = some x) (hj : L[j]? = some y) (hij : i ≠ j) : same y x = false := by
  rw [pw_iff] at h
  rcases Nat.lt_or_gt_of_ne hij with h' | h'
  · refine h j y hj x ?_
    rw [List.nil_append]
    exact List.mem_of_getElem? (i := i) (by rw [List.getElem?_take_of_lt h']; exact hi)
  · rw [hs]
    refine h i x hi y ?_
    rw [List.nil_append]
    exact List.mem_of_getElem? (i := j) (by rw [List.getElem?_take_of_lt h']; exact hj)
theorem pw_of {same : Record → Record → Bool} {L : List Record} (h : ∀ (i j : Nat) (x y : Record), L[i]? = some x → L[j]? = some y → i ≠ j → same y x = false) : pw same [] L = true := by
  rw [pw_iff]
  intro j y hj x hx
  rw [List.nil_append] at hx
  obtain ⟨i, hi⟩ := List.getElem?_of_mem hx
  have hij : i < j := by
    rcases Nat.lt_or_ge i j with h' | h'
    · exact h'
    · rw [List.getElem?_eq_none (by rw [List.length_take]; omega)] at hi; cases hi
  rw [List.getElem?_take_of_lt hij] at hi
  exact h i j x y hi hj (by omega)
theorem right_eq (recs : Sl Record) : jRight recs = rRight recs := by
  rw [jRight_eq]
  unfold rRight
  rcases rRight_l0_eq recs recs.D 0 with ⟨h1, h2⟩ | ⟨h1, k, x, h2, h3⟩
  · rw [h1]
    simp only [Nat.zero_add] at h2
    have hno : ∀ (i j : Nat) (x y : Record), recs.D[i]? = some x → recs.D[j]? = some y → i ≠ j → (sameQ y x || sameS y x) = false := fun i j x y hi hj hij => by
      cases hq : (sameQ y x || sameS y x)
      · rfl
      · have := (clash_iff i x recs.D 0).2 ⟨j, y, hj, by omega, hq⟩
        rw [(h2 i x hi).1] at this; cases this
    rw [pw_of (same := sameS) fun i j x y hi hj hij => (Bool.or_eq_false_iff.1 (hno i j x y hi hj hij)).2, pw_of (same := sameQ) fun i j x y hi hj hij => (Bool.or_eq_false_iff.1 (hno i j x y hi hj hij)).1, List.all_eq_true.2 fun x hx => by
      obtain ⟨i, hi⟩ := List.getElem?_of_mem hx
      exact (h2 i x hi).2]; rfl
  · rw [h1]
    simp only [Nat.zero_add] at h3
    rcases h3 with h3 | h3
    · obtain ⟨j, y, hj, hij, hs⟩ := (clash_iff k x recs.D 0).1 h3
      rcases Bool.or_eq_true_iff.1 hs with hs | hs
      · cases hp : pw sameQ [] recs.D
        · cases pw sameS [] recs.D <;> rfl
        · rw [pw_pairs sameQ_sym hp h2 hj (by omega)] at hs; cases hs
      · cases hp : pw sameS [] recs.D
        · rfl
        · rw [pw_pairs sameS_sym hp h2 hj (by omega)] at hs; cases hs
    · have : recs.D.all (below recs.D) = false := by
        cases ha : recs.D.all (below recs.D)
        · rfl
        · rw [List.all_eq_true.1 ha x (List.mem_of_getElem? h2)] at h3; cases h3
      rw [this]
      cases pw sameS [] recs.D <;> cases pw sameQ [] recs.D <;> rfl
theorem eqKeys_l0_of (s2 : Sl (Nat → Int)) : ∀ (xs : List (Nat → Int)) (i : Nat), xs.map kL = (s2.D.drop i).map kL → eqKeys_l0 s2 xs i = true
  | [], _, _ => by unfold eqKeys_l0; rfl
  | x :: xs, i, h => by
    have hi : i < s2.D.length := by
      rcases Nat.lt_or_ge i s2.D.length with h' | h'
      · exact h'
      · rw [List.drop_of_length_le h'] at h; cases h
    rw [List.drop_eq_getElem_cons hi, List.map_cons, List.map_cons] at h
    obtain ⟨h1, h2⟩ := List.cons.inj h
    unfold eqKeys_l0
    rw [Int.toNat_natCast, eq8, getElem!_pos s2.D i hi, decide_eq_true h1, Bool.not_true, cond_false]
    exact eqKeys_l0_of s2 xs (i + 1) h2
theorem eqKeys_of {a b : Sl (Nat → Int)} (h : a.D.map kL = b.D.map kL) : eqKeys a b = true := by
  unfold eqKeys
  have hl := congrArg List.length h
  rw [List.length_map, List.length_map] at hl
  rw [hl, show ((b.D.length : Int) != (b.D.length : Int)) = false by simp, cond_false]
  exact eqKeys_l0_of b a.D 0 (by rw [List.drop_zero]; exact h)
theorem enc_ne {recs : List Record} (h : recs ≠ []) : encL eRecord recs ≠ [] := by
  cases recs with
  | nil => exact absurd rfl h
  | cons x xs => exact List.cons_ne_nil _ _
theorem jStrongW_calls (calls : Sl Call) (recs : Sl Record) (n_ : Nat) (tt_ : Bool) (hn_ : n_ = calls.D.length) (hne : recs.D ≠ []) (hl1 : calls.D.length ≤ 1000000) (hl2 : recs.D.length ≤ 1000000) : MCalls Try.prog 15 [.sl 0 0 n_ 19 tt_, .tsl recs.D.length (encL eRecord recs.D)] (.cells (encC eCall calls.D)) (.pv (.lit (.bool (jStrong (Sl.mk false calls.D) (Sl.mk false recs.D))))) (.cells (encC eCall calls.D)) := by
  subst hn_
  exact MCalls.of_PCalls (ps := encL eCall calls.D) ((jStrong_calls (Sl.mk false calls.D) (Sl.mk false recs.D) hl1 hl2).tsl (avs' := [sS (some false) eCall calls.D, .tsl recs.D.length (encL eRecord recs.D)]) ⟨.inl rfl, .inr ⟨_, _, enc_ne hne, rfl, rfl⟩, trivial⟩ rfl) ⟨.inr ⟨_, _, _, rfl, rfl⟩, .inl rfl, trivial⟩ rfl rfl
theorem jAllT_calls (calls : Sl Call) (recs : Sl Record) (hne : recs.D ≠ []) (hl1 : calls.D.length ≤ 1000000) (hl2 : recs.D.length ≤ 1000000) : PCalls Try.prog 19 [sS (some calls.nil) eCall calls.D, .tsl recs.D.length (encL eRecord recs.D)] (.pv (.lit (.bool (jAll calls (Sl.mk false recs.D))))) :=
  (jAll_calls calls (Sl.mk false recs.D) hl2 hl1).tsl ⟨.inl rfl, .inr ⟨_, _, enc_ne hne, rfl, rfl⟩, trivial⟩ rfl
theorem jAllW_calls (calls : Sl Call) (recs : Sl Record) (n_ : Nat) (tt_ : Bool) (hn_ : n_ = calls.D.length) (hne : recs.D ≠ []) (hl1 : calls.D.length ≤ 1000000) (hl2 : recs.D.length ≤ 1000000) : MCalls Try.prog 19 [.sl 0 0 n_ 19 tt_, .tsl recs.D.length (encL eRecord recs.D)] (.cells (encC eCall calls.D)) (.pv (.lit (.bool (jAll (Sl.mk false calls.D) (Sl.mk false recs.D))))) (.cells (encC eCall calls.D)) := by
  subst hn_
  exact MCalls.of_PCalls (ps := encL eCall calls.D) (jAllT_calls (Sl.mk false calls.D) recs hne hl1 hl2) ⟨.inr ⟨_, _, _, rfl, rfl⟩, .inl rfl, trivial⟩ rfl rfl
theorem jValuesT_calls (calls : Sl Call) (recs : Sl Record) (hne : recs.D ≠ []) (hl1 : calls.D.length ≤ 1000000) (hl2 : recs.D.length ≤ 1000000) : PCalls Try.prog 16 [sS (some calls.nil) eCall calls.D, .tsl recs.D.length (encL eRecord recs.D)] (.pv (.lit (.bool (jValues calls (Sl.mk false recs.D))))) :=
  (jValues_calls calls (Sl.mk false recs.D) hl2 hl1).tsl ⟨.inl rfl, .inr ⟨_, _, enc_ne hne, rfl, rfl⟩, trivial⟩ rfl
theorem jRightW_calls (recs : Sl Record) (n_ : Nat) (tt_ : Bool) (hn_ : n_ = recs.D.length) (hl1 : recs.D.length ≤ 1000000) : MCalls Try.prog 8 [.sl 0 0 n_ 14 tt_] (.cells (encC eRecord recs.D)) (.pv (.lit (.int .i64 (jRight (Sl.mk false recs.D))))) (.cells (encC eRecord recs.D)) := by
  subst hn_
  exact MCalls.of_PCalls (ps := encL eRecord recs.D) (jRight_calls (Sl.mk false recs.D) hl1) ⟨.inr ⟨_, _, _, rfl, rfl⟩, trivial⟩ rfl rfl
def awL : List Call := [(Call.mk 0 1 true (ofL [(97 : Int), 0, 0, 0, 0, 0, 0, 0]) ⟨#[120]⟩ 0 0 1 2 1 0 0), (Call.mk 1 1 false (ofL [(97 : Int), 0, 0, 0, 0, 0, 0, 0]) ⟨#[]⟩ 0 0 3 4 0 0 0)]
def awR : List Record := [(Record.mk 1 1 (ofL [(97 : Int), 0, 0, 0, 0, 0, 0, 0]) 1 ⟨#[120]⟩ (Req.mk 0 1))]
def awake  : Bool :=
  (bif (jStrong (Sl.mk false awL) (Sl.mk false awR)) then false else (bif (jAll (Sl.mk false awL) (Sl.mk false awR)) then false else (bif (jAll (Sl.mk false (awL.set 1 (Call.mk (awL[1]!.client) (awL[1]!.seq) (awL[1]!.write) (ofL [(awL[1]!.key 0), (awL[1]!.key 1), (awL[1]!.key 2), (awL[1]!.key 3), (awL[1]!.key 4), (awL[1]!.key 5), (awL[1]!.key 6), (awL[1]!.key 7)]) (awL[1]!.value) 2 (awL[1]!.bound) (awL[1]!.began) (awL[1]!.ended) (awL[1]!.ver) (awL[1]!.err) (awL[1]!.floor)))) (Sl.mk false awR)) then (bif (jValues (Sl.mk false (awL.set 1 (Call.mk (awL[1]!.client) (awL[1]!.seq) (awL[1]!.write) (ofL [(awL[1]!.key 0), (awL[1]!.key 1), (awL[1]!.key 2), (awL[1]!.key 3), (awL[1]!.key 4), (awL[1]!.key 5), (awL[1]!.key 6), (awL[1]!.key 7)]) (awL[1]!.value) 2 (awL[1]!.bound) (awL[1]!.began) (awL[1]!.ended) (awL[1]!.ver) (awL[1]!.err) (awL[1]!.floor)))) (Sl.mk false awR)) then (bif ((jRight (Sl.mk false (awR ++ awR))) == 200) then (eqKeys (jKeys (Sl.mk false (awL.set 1 (Call.mk (awL[1]!.client) (awL[1]!.seq) (awL[1]!.write) (ofL [(awL[1]!.key 0), (awL[1]!.key 1), (awL[1]!.key 2), (awL[1]!.key 3), (awL[1]!.key 4), (awL[1]!.key 5), (awL[1]!.key 6), (awL[1]!.key 7)]) (awL[1]!.value) 2 (awL[1]!.bound) (awL[1]!.began) (awL[1]!.ended) (awL[1]!.ver) (awL[1]!.err) (awL[1]!.floor))))) (Sl.mk false [(ofL [(97 : Int), 0, 0, 0, 0, 0, 0, 0])])) else false) else false) else false)))
theorem awake_calls   : PCalls Try.prog 10 [] (.pv (.lit (.bool (awake )))) := by
 generalize hR : awake  = R
 refine PCalls.of_body tabOk Try.func10 rfl rfl rfl rfl rfl mixed fun E hP C hI => ?_
 refine Awp.consP C ?_
 refine rvP C (.pv (.lit (.bool false))) ?_
 refine rvc_nil ?_
 refine Awp.consP C ?_
 refine rvP C (.agg [.pv (.lit (.int .u8 97)), .pv (.lit (.int .u8 0)), .pv (.lit (.int .u8 0)), .pv (.lit (.int .u8 0)), .pv (.lit (.int .u8 0)), .pv (.lit (.int .u8 0)), .pv (.lit (.int .u8 0)), .pv (.lit (.int .u8 0))]) ?_
 refine rvc_un (rexec_prim C (δ := { v := .ptr 1 0, new := [(1, .cells [.pv (.lit (.int .u8 0)), .pv (.lit (.int .u8 0)), .pv (.lit (.int .u8 0)), .pv (.lit (.int .u8 0)), .pv (.lit (.int .u8 0)), .pv (.lit (.int .u8 0)), .pv (.lit (.int .u8 0)), .pv (.lit (.int .u8 0))])] }) rfl rfl rfl rfl trivial rfl ?_)
 refine rvc_un (rexec_prim C (δ := { v := .undef, wr := [(1, some (.cells [.pv (.lit (.int .u8 97)), .pv (.lit (.int .u8 0)), .pv (.lit (.int .u8 0)), .pv (.lit (.int .u8 0)), .pv (.lit (.int .u8 0)), .pv (.lit (.int .u8 0)), .pv (.lit (.int .u8 0)), .pv (.lit (.int .u8 0))]))] }) rfl rfl rfl rfl trivial rfl ?_)
 refine rvc_nil ?_
 refine Awp.consP C ?_
 refine rvP C (.agg [.pv (.lit (.int .u8 97)), .pv (.lit (.int .u8 0)), .pv (.lit (.int .u8 0)), .pv (.lit (.int .u8 0)), .pv (.lit (.int .u8 0)), .pv (.lit (.int .u8 0)), .pv (.lit (.int .u8 0)), .pv (.lit (.int .u8 0))]) ?_
 refine rvP C (.agg [.pv (.lit (.int .i64 0)), .pv (.lit (.int .i64 1))]) ?_
 refine rvP C (.agg [.pv (.lit (.int .i64 1)), .pv (.lit (.int .i64 1)), .pv (.lit (.int .u8 97)), .pv (.lit (.int .u8 0)), .pv (.lit (.int .u8 0)), .pv (.lit (.int .u8 0)), .pv (.lit (.int .u8 0)), .pv (.lit (.int .u8 0)), .pv (.lit (.int .u8 0)), .pv (.lit (.int .u8 0)), .pv (.lit (.int .i64 1)), .pv (.lit (.string ⟨#[120]⟩)), .pv (.lit (.int .i64 0)), .pv (.lit (.int .i64 1))]) ?_
 refine rvc_un (rexec_prim C (δ := { v := .ptr 2 0, new := [(2, .cells [.pv (.lit (.int .i64 0)), .pv (.lit (.int .i64 0)), .pv (.lit (.int .u8 0)), .pv (.lit (.int .u8 0)), .pv (.lit (.int .u8 0)), .pv (.lit (.int .u8 0)), .pv (.lit (.int .u8 0)), .pv (.lit (.int .u8 0)), .pv (.lit (.int .u8 0)), .pv (.lit (.int .u8 0)), .pv (.lit (.int .i64 0)), .pv (.lit (.string ⟨#[]⟩)), .pv (.lit (.int .i64 0)), .pv (.lit (.int .i64 0))])] }) rfl rfl rfl rfl trivial rfl ?_)
 refine rvc_un (rexec_prim C (δ := { v := .undef, wr := [(2, some (.cells [.pv (.lit (.int .i64 1)), .pv (.lit (.int .i64 1)), .pv (.lit (.int .u8 97)), .pv (.lit (.int .u8 0)), .pv (.lit (.int .u8 0)), .pv (.lit (.int .u8 0)), .pv (.lit (.int .u8 0)), .pv (.lit (.int .u8 0)), .pv (.lit (.int .u8 0)), .pv (.lit (.int .u8 0)), .pv (.lit (.int .i64 1)), .pv (.lit (.string ⟨#[120]⟩)), .pv (.lit (.int .i64 0)), .pv (.lit (.int .i64 1))]))] }) rfl rfl rfl rfl trivial rfl ?_)
 refine rvc_nil ?_
 refine Awp.consP C ?_
 refine rvP C (.agg [.pv (.lit (.int .u8 97)), .pv (.lit (.int .u8 0)), .pv (.lit (.int .u8 0)), .pv (.lit (.int .u8 0)), .pv (.lit (.int .u8 0)), .pv (.lit (.int .u8 0)), .pv (.lit (.int .u8 0)), .pv (.lit (.int .u8 0))]) ?_
 refine rvP C (.agg [.pv (.lit (.int .i64 0)), .pv (.lit (.int .i64 1)), .pv (.lit (.bool true)), .pv (.lit (.int .u8 97)), .pv (.lit (.int .u8 0)), .pv (.lit (.int .u8 0)), .pv (.lit (.int .u8 0)), .pv (.lit (.int .u8 0)), .pv (.lit (.int .u8 0)), .pv (.lit (.int .u8 0)), .pv (.lit (.int .u8 0)), .pv (.lit (.string ⟨#[120]⟩)), .pv (.lit (.int .i64 0)), .pv (.lit (.int .i64 0)), .pv (.lit (.int .i64 1)), .pv (.lit (.int .i64 2)), .pv (.lit (.int .i64 1)), .pv (.lit (.int .i64 0)), .pv (.lit (.int .i64 0))]) ?_
 refine rvP C (.agg [.pv (.lit (.int .u8 97)), .pv (.lit (.int .u8 0)), .pv (.lit (.int .u8 0)), .pv (.lit (.int .u8 0)), .pv (.lit (.int .u8 0)), .pv (.lit (.int .u8 0)), .pv (.lit (.int .u8 0)), .pv (.lit (.int .u8 0))]) ?_
 refine rvP C (.agg [.pv (.lit (.int .i64 1)), .pv (.lit (.int .i64 1)), .pv (.lit (.bool false)), .pv (.lit (.int .u8 97)), .pv (.lit (.int .u8 0)), .pv (.lit (.int .u8 0)), .pv (.lit (.int .u8 0)), .pv (.lit (.int .u8 0)), .pv (.lit (.int .u8 0)), .pv (.lit (.int .u8 0)), .pv (.lit (.int .u8 0)), .pv (.lit (.string ⟨#[]⟩)), .pv (.lit (.int .i64 0)), .pv (.lit (.int .i64 0)), .pv (.lit (.int .i64 3)), .pv (.lit (.int .i64 4)), .pv (.lit (.int .i64 0)), .pv (.lit (.int .i64 0)), .pv (.lit (.int .i64 0))]) ?_
 refine rvc_un (rexec_prim C (δ := { v := .sl 13 0 (awL.length) 19 true, new := [(13, .cells (encC eCall awL))] }) rfl rfl rfl rfl trivial rfl ?_)
 refine rvP C (.sl 13 0 (awL.length) 19 true) ?_
 refine rvc_nil ?_
 refine Awp.consP C ?_
 refine rvP C (.agg [.pv (.lit (.int .i64 1)), .pv (.lit (.int .i64 1)), .pv (.lit (.int .u8 97)), .pv (.lit (.int .u8 0)), .pv (.lit (.int .u8 0)), .pv (.lit (.int .u8 0)), .pv (.lit (.int .u8 0)), .pv (.lit (.int .u8 0)), .pv (.lit (.int .u8 0)), .pv (.lit (.int .u8 0)), .pv (.lit (.int .i64 1)), .pv (.lit (.string ⟨#[120]⟩)), .pv (.lit (.int .i64 0)), .pv (.lit (.int .i64 1))]) ?_
 refine rvc_un (rexec_buildSliceT C eRecord awR rfl rfl rfl rfl rfl rfl rfl (by decide) rfl ?_)
 refine rvP C (.tsl awR.length (encL eRecord awR)) ?_
 refine rvc_nil ?_
 refine Awp.seq ?_
 refine Awp.cons C (fun _ => .writer) (by kernel_rfl) ?_
 refine rvP C (.sl 13 0 (awL.length) 19 true) ?_
 refine rvP C (.tsl awR.length (encL eRecord awR)) ?_
 refine rvc_un (rexec_callM hP C (b := 13) rfl rfl rfl (jStrongW_calls (Sl.mk false awL) (Sl.mk false awR) (awL.length) true rfl (List.cons_ne_nil _ _) (of_decide_eq_true (by kernel_rfl)) (of_decide_eq_true (by kernel_rfl))) rfl rfl ?_)
 refine rvP C (.pv (.lit (.bool (jStrong (Sl.mk false awL) (Sl.mk false awR))))) ?_
 refine rvc_case 19 (jStrong (Sl.mk false awL) (Sl.mk false awR)) rfl (fun h1 => ?_) (fun h1 => ?_)
 ·
  replace hR := of_true h1 hR
  refine rvS ?_
  refine rvS ?_
  refine rvS ?_
  refine rvP C (.pv (.lit (.bool true))) ?_
  refine rvc_nil ?_
  refine Awp.condT (b := true) rfl rfl ?_
  refine Awp.consP C ?_
  refine rvP C (.pv (.lit (.bool false))) ?_
  refine rvc_nil ?_
  refine Awp.ret ?_
  subst hR
  exact ⟨.inl rfl, rfl⟩
 ·
  replace hR := of_false h1 hR
  refine rvO C (.sl 13 0 (awL.length) 19 true) ?_
  refine rvO C (.tsl awR.length (encL eRecord awR)) ?_
  refine rvc_open rfl rfl rfl (rexec_callM hP C (b := 13) rfl rfl rfl (jAllW_calls (Sl.mk false awL) (Sl.mk false awR) (awL.length) true rfl (List.cons_ne_nil _ _) (of_decide_eq_true (by kernel_rfl)) (of_decide_eq_true (by kernel_rfl))) rfl rfl ?_)
  refine rvP C (.pv (.lit (.bool (jAll (Sl.mk false awL) (Sl.mk false awR))))) ?_
  refine rvc_nil ?_
  refine Awp.cond (b := (jAll (Sl.mk false awL) (Sl.mk false awR))) rfl (fun h2 => ?_) (fun h2 => ?_)
  ·
   replace hR := of_true h2 hR
   refine Awp.consP C ?_
   refine rvP C (.pv (.lit (.bool false))) ?_
   refine rvc_nil ?_
   refine Awp.ret ?_
   subst hR
   exact ⟨.inl rfl, rfl⟩
  ·
   replace hR := of_false h2 hR
   refine Awp.skip ?_
   refine Awp.consP C ?_
   refine rvP C (.sl 13 0 (awL.length) 19 true) ?_
   have h3 : awL[1]? = some awL[1]! := getE (by decide)
   refine rvc_un (rexec_prim C (δ := { v := .ptr 13 (0 + 1 * 19) }) rfl rfl rfl rfl ⟨by decide, by decide⟩ rfl ?_)
   refine rvP C (.ptr 13 (0 + 1 * 19 + 12)) ?_
   refine rvc_un (rexec_storeE C (e := eCall) 1 12 (awL[1]!) (Call.mk (awL[1]!.client) (awL[1]!.seq) (awL[1]!.write) (ofL [(awL[1]!.key 0), (awL[1]!.key 1), (awL[1]!.key 2), (awL[1]!.key 3), (awL[1]!.key 4), (awL[1]!.key 5), (awL[1]!.key 6), (awL[1]!.key 7)]) (awL[1]!.value) 2 (awL[1]!.bound) (awL[1]!.began) (awL[1]!.ended) (awL[1]!.ver) (awL[1]!.err) (awL[1]!.floor)) rfl rfl rfl rfl h3 (by simp [eCall]) rfl rfl rfl (of_decide_eq_true rfl) rfl ?_)
   refine rvc_nil ?_
   refine Awp.freezeW 13 (encL eCall (awL.set 1 (Call.mk (awL[1]!.client) (awL[1]!.seq) (awL[1]!.write) (ofL [(awL[1]!.key 0), (awL[1]!.key 1), (awL[1]!.key 2), (awL[1]!.key 3), (awL[1]!.key 4), (awL[1]!.key 5), (awL[1]!.key 6), (awL[1]!.key 7)]) (awL[1]!.value) 2 (awL[1]!.bound) (awL[1]!.began) (awL[1]!.ended) (awL[1]!.ver) (awL[1]!.err) (awL[1]!.floor)))) ?_ [(0, .pv (.lit (.bool false))), (1, .ptr 1 0), (2, .ptr 2 0), (3, sS (some false) eCall (awL.set 1 (Call.mk (awL[1]!.client) (awL[1]!.seq) (awL[1]!.write) (ofL [(awL[1]!.key 0), (awL[1]!.key 1), (awL[1]!.key 2), (awL[1]!.key 3), (awL[1]!.key 4), (awL[1]!.key 5), (awL[1]!.key 6), (awL[1]!.key 7)]) (awL[1]!.value) 2 (awL[1]!.bound) (awL[1]!.began) (awL[1]!.ended) (awL[1]!.ver) (awL[1]!.err) (awL[1]!.floor)))), (4, .tsl awR.length (encL eRecord awR))] [(1, .cells [.pv (.lit (.int .u8 97)), .pv (.lit (.int .u8 0)), .pv (.lit (.int .u8 0)), .pv (.lit (.int .u8 0)), .pv (.lit (.int .u8 0)), .pv (.lit (.int .u8 0)), .pv (.lit (.int .u8 0)), .pv (.lit (.int .u8 0))]), (2, .cells [.pv (.lit (.int .i64 1)), .pv (.lit (.int .i64 1)), .pv (.lit (.int .u8 97)), .pv (.lit (.int .u8 0)), .pv (.lit (.int .u8 0)), .pv (.lit (.int .u8 0)), .pv (.lit (.int .u8 0)), .pv (.lit (.int .u8 0)), .pv (.lit (.int .u8 0)), .pv (.lit (.int .u8 0)), .pv (.lit (.int .i64 1)), .pv (.lit (.string ⟨#[120]⟩)), .pv (.lit (.int .i64 0)), .pv (.lit (.int .i64 1))])] ?_ ?_ ?_
   · rfl
   · exact ⟨⟨_, rfl, .inl (.inl rfl)⟩, ⟨_, rfl, .inl (.inl rfl)⟩, ⟨_, rfl, .inl (.inl rfl)⟩, ⟨_, rfl, .inl (.inr ⟨_, _, _, rfl, by simp [sS] <;> omega⟩)⟩, ⟨_, rfl, .inl (.inl rfl)⟩, trivial⟩
   · exact ⟨⟨(by show (1 : Nat) ≠ 13; decide), .inl rfl⟩, ⟨(by show (2 : Nat) ≠ 13; decide), .inl rfl⟩, trivial⟩
   refine Awp.cons C (fun o => match o.dst with | some 37 => .reads [2] | some 46 => .reads [1] | some 38 => .writes [] | some 47 => .writes [] | some 39 => .writes [39] | some 40 => .writes [39] | _ => .pure) (by kernel_rfl) ?_
   refine rvP C (sS (some false) eCall (awL.set 1 (Call.mk (awL[1]!.client) (awL[1]!.seq) (awL[1]!.write) (ofL [(awL[1]!.key 0), (awL[1]!.key 1), (awL[1]!.key 2), (awL[1]!.key 3), (awL[1]!.key 4), (awL[1]!.key 5), (awL[1]!.key 6), (awL[1]!.key 7)]) (awL[1]!.value) 2 (awL[1]!.bound) (awL[1]!.began) (awL[1]!.ended) (awL[1]!.ver) (awL[1]!.err) (awL[1]!.floor)))) ?_
   refine rvP C (.tsl awR.length (encL eRecord awR)) ?_
   refine rvc_un (rexec_call hP C rfl rfl rfl (jAllT_calls (Sl.mk false (awL.set 1 (Call.mk (awL[1]!.client) (awL[1]!.seq) (awL[1]!.write) (ofL [(awL[1]!.key 0), (awL[1]!.key 1), (awL[1]!.key 2), (awL[1]!.key 3), (awL[1]!.key 4), (awL[1]!.key 5), (awL[1]!.key 6), (awL[1]!.key 7)]) (awL[1]!.value) 2 (awL[1]!.bound) (awL[1]!.began) (awL[1]!.ended) (awL[1]!.ver) (awL[1]!.err) (awL[1]!.floor)))) (Sl.mk false awR) (List.cons_ne_nil _ _) (of_decide_eq_true (by kernel_rfl)) (of_decide_eq_true (by kernel_rfl))) ?_)
   refine rvP C (.pv (.lit (.bool (jAll (Sl.mk false (awL.set 1 (Call.mk (awL[1]!.client) (awL[1]!.seq) (awL[1]!.write) (ofL [(awL[1]!.key 0), (awL[1]!.key 1), (awL[1]!.key 2), (awL[1]!.key 3), (awL[1]!.key 4), (awL[1]!.key 5), (awL[1]!.key 6), (awL[1]!.key 7)]) (awL[1]!.value) 2 (awL[1]!.bound) (awL[1]!.began) (awL[1]!.ended) (awL[1]!.ver) (awL[1]!.err) (awL[1]!.floor)))) (Sl.mk false awR))))) ?_
   refine rvc_case 30 (jAll (Sl.mk false (awL.set 1 (Call.mk (awL[1]!.client) (awL[1]!.seq) (awL[1]!.write) (ofL [(awL[1]!.key 0), (awL[1]!.key 1), (awL[1]!.key 2), (awL[1]!.key 3), (awL[1]!.key 4), (awL[1]!.key 5), (awL[1]!.key 6), (awL[1]!.key 7)]) (awL[1]!.value) 2 (awL[1]!.bound) (awL[1]!.began) (awL[1]!.ended) (awL[1]!.ver) (awL[1]!.err) (awL[1]!.floor)))) (Sl.mk false awR)) rfl (fun h4 => ?_) (fun h4 => ?_)
   ·
    replace hR := of_true h4 hR
    refine rvO C (sS (some false) eCall (awL.set 1 (Call.mk (awL[1]!.client) (awL[1]!.seq) (awL[1]!.write) (ofL [(awL[1]!.key 0), (awL[1]!.key 1), (awL[1]!.key 2), (awL[1]!.key 3), (awL[1]!.key 4), (awL[1]!.key 5), (awL[1]!.key 6), (awL[1]!.key 7)]) (awL[1]!.value) 2 (awL[1]!.bound) (awL[1]!.began) (awL[1]!.ended) (awL[1]!.ver) (awL[1]!.err) (awL[1]!.floor)))) ?_
    refine rvO C (.tsl awR.length (encL eRecord awR)) ?_
    refine rvc_open rfl rfl rfl (rexec_call hP C rfl rfl rfl (jValuesT_calls (Sl.mk false (awL.set 1 (Call.mk (awL[1]!.client) (awL[1]!.seq) (awL[1]!.write) (ofL [(awL[1]!.key 0), (awL[1]!.key 1), (awL[1]!.key 2), (awL[1]!.key 3), (awL[1]!.key 4), (awL[1]!.key 5), (awL[1]!.key 6), (awL[1]!.key 7)]) (awL[1]!.value) 2 (awL[1]!.bound) (awL[1]!.began) (awL[1]!.ended) (awL[1]!.ver) (awL[1]!.err) (awL[1]!.floor)))) (Sl.mk false awR) (List.cons_ne_nil _ _) (of_decide_eq_true (by kernel_rfl)) (of_decide_eq_true (by kernel_rfl))) ?_)
    refine rvP C (.pv (.lit (.bool (jValues (Sl.mk false (awL.set 1 (Call.mk (awL[1]!.client) (awL[1]!.seq) (awL[1]!.write) (ofL [(awL[1]!.key 0), (awL[1]!.key 1), (awL[1]!.key 2), (awL[1]!.key 3), (awL[1]!.key 4), (awL[1]!.key 5), (awL[1]!.key 6), (awL[1]!.key 7)]) (awL[1]!.value) 2 (awL[1]!.bound) (awL[1]!.began) (awL[1]!.ended) (awL[1]!.ver) (awL[1]!.err) (awL[1]!.floor)))) (Sl.mk false awR))))) ?_
    refine rvP C (.pv (.lit (.bool (jValues (Sl.mk false (awL.set 1 (Call.mk (awL[1]!.client) (awL[1]!.seq) (awL[1]!.write) (ofL [(awL[1]!.key 0), (awL[1]!.key 1), (awL[1]!.key 2), (awL[1]!.key 3), (awL[1]!.key 4), (awL[1]!.key 5), (awL[1]!.key 6), (awL[1]!.key 7)]) (awL[1]!.value) 2 (awL[1]!.bound) (awL[1]!.began) (awL[1]!.ended) (awL[1]!.ver) (awL[1]!.err) (awL[1]!.floor)))) (Sl.mk false awR))))) ?_
    refine rvc_case 35 (jValues (Sl.mk false (awL.set 1 (Call.mk (awL[1]!.client) (awL[1]!.seq) (awL[1]!.write) (ofL [(awL[1]!.key 0), (awL[1]!.key 1), (awL[1]!.key 2), (awL[1]!.key 3), (awL[1]!.key 4), (awL[1]!.key 5), (awL[1]!.key 6), (awL[1]!.key 7)]) (awL[1]!.value) 2 (awL[1]!.bound) (awL[1]!.began) (awL[1]!.ended) (awL[1]!.ver) (awL[1]!.err) (awL[1]!.floor)))) (Sl.mk false awR)) rfl (fun h5 => ?_) (fun h5 => ?_)
    ·
     replace hR := of_true h5 hR
     refine rvO C (.tsl awR.length (encL eRecord awR)) ?_
     refine rvO C (.agg [.pv (.lit (.int .i64 1)), .pv (.lit (.int .i64 1)), .pv (.lit (.int .u8 97)), .pv (.lit (.int .u8 0)), .pv (.lit (.int .u8 0)), .pv (.lit (.int .u8 0)), .pv (.lit (.int .u8 0)), .pv (.lit (.int .u8 0)), .pv (.lit (.int .u8 0)), .pv (.lit (.int .u8 0)), .pv (.lit (.int .i64 1)), .pv (.lit (.string ⟨#[120]⟩)), .pv (.lit (.int .i64 0)), .pv (.lit (.int .i64 1))]) ?_
     refine rvc_open rfl rfl rfl (rexec_buildSliceF C eRecord awR rfl rfl rfl rfl rfl rfl rfl (by decide) rfl ?_)
     refine rvc_open rfl rfl rfl (rexec_appendT C rfl rfl rfl rfl rfl rfl rfl rfl (fun _ h => by cases h) rfl (en := eRecord) (D0 := awR) (D := awR) rfl rfl (by decide) (by decide) (by decide) (nn := (awR ++ awR).length) (by decide) ?_)
     refine rvc_open rfl rfl rfl (rexec_callM hP C (b := 39) rfl rfl rfl (jRightW_calls (Sl.mk false (awR ++ awR)) ((awR ++ awR).length) false rfl (of_decide_eq_true (by kernel_rfl))) rfl rfl ?_)
     refine rvO C (.pv (.lit (.bool ((jRight (Sl.mk false (awR ++ awR))) == 200)))) ?_
     refine rvP C (.pv (.lit (.bool ((jRight (Sl.mk false (awR ++ awR))) == 200)))) ?_
     refine rvP C (.pv (.lit (.bool ((jRight (Sl.mk false (awR ++ awR))) == 200)))) ?_
     refine rvc_case 43 ((jRight (Sl.mk false (awR ++ awR))) == 200) rfl (fun h6 => ?_) (fun h6 => ?_)
     ·
      replace hR := of_true h6 hR
      refine rvO C (sS (some false) eCall (awL.set 1 (Call.mk (awL[1]!.client) (awL[1]!.seq) (awL[1]!.write) (ofL [(awL[1]!.key 0), (awL[1]!.key 1), (awL[1]!.key 2), (awL[1]!.key 3), (awL[1]!.key 4), (awL[1]!.key 5), (awL[1]!.key 6), (awL[1]!.key 7)]) (awL[1]!.value) 2 (awL[1]!.bound) (awL[1]!.began) (awL[1]!.ended) (awL[1]!.ver) (awL[1]!.err) (awL[1]!.floor)))) ?_
      refine rvc_open rfl rfl rfl (rexec_call hP C rfl rfl rfl (jKeys_calls (Sl.mk false (awL.set 1 (Call.mk (awL[1]!.client) (awL[1]!.seq) (awL[1]!.write) (ofL [(awL[1]!.key 0), (awL[1]!.key 1), (awL[1]!.key 2), (awL[1]!.key 3), (awL[1]!.key 4), (awL[1]!.key 5), (awL[1]!.key 6), (awL[1]!.key 7)]) (awL[1]!.value) 2 (awL[1]!.bound) (awL[1]!.began) (awL[1]!.ended) (awL[1]!.ver) (awL[1]!.err) (awL[1]!.floor)))) (of_decide_eq_true (by kernel_rfl))) ?_)
      refine rvO C (.agg [.pv (.lit (.int .u8 97)), .pv (.lit (.int .u8 0)), .pv (.lit (.int .u8 0)), .pv (.lit (.int .u8 0)), .pv (.lit (.int .u8 0)), .pv (.lit (.int .u8 0)), .pv (.lit (.int .u8 0)), .pv (.lit (.int .u8 0))]) ?_
      refine rvc_open rfl rfl rfl (rexec_buildSliceF C (eA8 .u8) [(ofL [(97 : Int), 0, 0, 0, 0, 0, 0, 0])] rfl rfl rfl rfl rfl rfl rfl (by decide) rfl ?_)
      refine rvc_open rfl rfl rfl (rexec_call hP C rfl rfl rfl (eqKeys_calls (jKeys (Sl.mk false (awL.set 1 (Call.mk (awL[1]!.client) (awL[1]!.seq) (awL[1]!.write) (ofL [(awL[1]!.key 0), (awL[1]!.key 1), (awL[1]!.key 2), (awL[1]!.key 3), (awL[1]!.key 4), (awL[1]!.key 5), (awL[1]!.key 6), (awL[1]!.key 7)]) (awL[1]!.value) 2 (awL[1]!.bound) (awL[1]!.began) (awL[1]!.ended) (awL[1]!.ver) (awL[1]!.err) (awL[1]!.floor))))) (Sl.mk false [(ofL [(97 : Int), 0, 0, 0, 0, 0, 0, 0])]) (of_decide_eq_true (by kernel_rfl))) ?_)
      refine rvP C (.pv (.lit (.bool (eqKeys (jKeys (Sl.mk false (awL.set 1 (Call.mk (awL[1]!.client) (awL[1]!.seq) (awL[1]!.write) (ofL [(awL[1]!.key 0), (awL[1]!.key 1), (awL[1]!.key 2), (awL[1]!.key 3), (awL[1]!.key 4), (awL[1]!.key 5), (awL[1]!.key 6), (awL[1]!.key 7)]) (awL[1]!.value) 2 (awL[1]!.bound) (awL[1]!.began) (awL[1]!.ended) (awL[1]!.ver) (awL[1]!.err) (awL[1]!.floor))))) (Sl.mk false [(ofL [(97 : Int), 0, 0, 0, 0, 0, 0, 0])]))))) ?_
      refine rvP C (.pv (.lit (.bool (eqKeys (jKeys (Sl.mk false (awL.set 1 (Call.mk (awL[1]!.client) (awL[1]!.seq) (awL[1]!.write) (ofL [(awL[1]!.key 0), (awL[1]!.key 1), (awL[1]!.key 2), (awL[1]!.key 3), (awL[1]!.key 4), (awL[1]!.key 5), (awL[1]!.key 6), (awL[1]!.key 7)]) (awL[1]!.value) 2 (awL[1]!.bound) (awL[1]!.began) (awL[1]!.ended) (awL[1]!.ver) (awL[1]!.err) (awL[1]!.floor))))) (Sl.mk false [(ofL [(97 : Int), 0, 0, 0, 0, 0, 0, 0])]))))) ?_
      refine rvc_nil ?_
      refine Awp.ret ?_
      subst hR
      exact ⟨.inl rfl, rfl⟩
     ·
      replace hR := of_false h6 hR
      refine rvS ?_
      refine rvS ?_
      refine rvS ?_
      refine rvS ?_
      refine rvS ?_
      refine rvP C (.pv (.lit (.bool false))) ?_
      refine rvP C (.pv (.lit (.bool false))) ?_
      refine rvc_nil ?_
      refine Awp.ret ?_
      subst hR
      exact ⟨.inl rfl, rfl⟩
    ·
     replace hR := of_false h5 hR
     refine rvS ?_
     refine rvS ?_
     refine rvS ?_
     refine rvS ?_
     refine rvS ?_
     refine rvS ?_
     refine rvP C (.pv (.lit (.bool false))) ?_
     refine rvP C (.pv (.lit (.bool false))) ?_
     refine rvS ?_
     refine rvS ?_
     refine rvS ?_
     refine rvS ?_
     refine rvS ?_
     refine rvP C (.pv (.lit (.bool false))) ?_
     refine rvP C (.pv (.lit (.bool false))) ?_
     refine rvc_nil ?_
     refine Awp.ret ?_
     subst hR
     exact ⟨.inl rfl, rfl⟩
   ·
    replace hR := of_false h4 hR
    refine rvS ?_
    refine rvS ?_
    refine rvS ?_
    refine rvP C (.pv (.lit (.bool false))) ?_
    refine rvP C (.pv (.lit (.bool false))) ?_
    refine rvS ?_
    refine rvS ?_
    refine rvS ?_
    refine rvS ?_
    refine rvS ?_
    refine rvS ?_
    refine rvP C (.pv (.lit (.bool false))) ?_
    refine rvP C (.pv (.lit (.bool false))) ?_
    refine rvS ?_
    refine rvS ?_
    refine rvS ?_
    refine rvS ?_
    refine rvS ?_
    refine rvP C (.pv (.lit (.bool false))) ?_
    refine rvP C (.pv (.lit (.bool false))) ?_
    refine rvc_nil ?_
    refine Awp.ret ?_
    subst hR
    exact ⟨.inl rfl, rfl⟩
def kA : Nat → Int := ofL [(97 : Int), 0, 0, 0, 0, 0, 0, 0]
def cA : Call := Call.mk 0 1 true kA ⟨#[120]⟩ 0 0 1 2 1 0 0
def cB : Call := Call.mk 1 1 false kA ⟨#[]⟩ 0 0 3 4 0 0 0
def cC : Call := Call.mk 1 1 false (ofL [(cB.key 0), (cB.key 1), (cB.key 2), (cB.key 3), (cB.key 4), (cB.key 5), (cB.key 6), (cB.key 7)]) ⟨#[]⟩ 2 0 3 4 0 0 0
def rA : Record := Record.mk 1 1 kA 1 ⟨#[120]⟩ (Req.mk 0 1)
theorem awake_def : awake = (bif (jStrong (Sl.mk false [cA, cB]) (Sl.mk false [rA])) then false else (bif (jAll (Sl.mk false [cA, cB]) (Sl.mk false [rA])) then false else (bif (jAll (Sl.mk false [cA, cC]) (Sl.mk false [rA])) then (bif (jValues (Sl.mk false [cA, cC]) (Sl.mk false [rA])) then (bif ((jRight (Sl.mk false ([rA] ++ [rA]))) == 200) then (eqKeys (jKeys (Sl.mk false [cA, cC])) (Sl.mk false [kA])) else false) else false) else false))) := rfl
theorem ops1 : opsOf (kL kA) (Sl.mk false [rA]) [cA, cB] = [Op.mk true ⟨#[120]⟩ 1 1 2, Op.mk false ⟨#[]⟩ 0 3 4] := by
  have e1 : sel (kL kA) cA = true := by decide
  have e2 : sel (kL kA) cB = true := by decide
  unfold opsOf
  rw [List.filter_cons_of_pos e1, List.filter_cons_of_pos e2]; rfl
theorem ops2 : opsOf (kL kA) (Sl.mk false [rA]) [cA, cC] = [Op.mk true ⟨#[120]⟩ 1 1 2] := by
  have e1 : sel (kL kA) cA = true := by decide
  have e2 : ¬ sel (kL kA) cC = true := by decide
  unfold opsOf
  rw [List.filter_cons_of_pos e1, List.filter_cons_of_neg e2]; rfl
theorem strong1 : jStrong (Sl.mk false [cA, cB]) (Sl.mk false [rA]) = false := by
  rw [← Bool.not_eq_true, jStrong_iff _ (by decide)]
  intro h
  have := h cA List.mem_cons_self
  rw [show kL cA.key = kL kA from rfl] at this
  have hv := this.ris (Op.mk true ⟨#[120]⟩ 1 1 2) (by rw [ops1]; simp) (Op.mk false ⟨#[]⟩ 0 3 4) (by rw [ops1]; simp)
  exact absurd hv (by decide)
theorem vp2 : VP [Op.mk true ⟨#[120]⟩ 1 1 2] where
  w0 x hx _ _ := by rw [List.mem_singleton.1 hx]; decide
  one i j x y hi hj hij _ _ _ := by
    cases i with
    | zero => cases j with
      | zero => omega
      | succ j => simp at hj
    | succ i => simp at hi
  rd x hx hw _ := by rw [List.mem_singleton.1 hx] at hw; cases hw
  ris a ha b hb := by rw [List.mem_singleton.1 ha, List.mem_singleton.1 hb]; decide
theorem strong2 : jStrong (Sl.mk false [cA, cC]) (Sl.mk false [rA]) = true := by
  rw [jStrong_iff _ (by decide)]
  intro x hx
  have : kL x.key = kL kA := by
    simp only [List.mem_cons, List.not_mem_nil, or_false] at hx
    rcases hx with rfl | rfl <;> rfl
  rw [this, ops2]
  exact vp2
theorem right1 : jRight (Sl.mk false [rA]) = 0 := by decide
theorem right2 : (jRight (Sl.mk false ([rA] ++ [rA])) == 200) = true := by decide
theorem values2 : jValues (Sl.mk false [cA, cC]) (Sl.mk false [rA]) = true := by
  rw [jValues_eq]
  show (okV (Sl.mk false [rA]) cA && (okV (Sl.mk false [rA]) cC && true)) = true
  have e1 : okV (Sl.mk false [rA]) cA = true := by
    have hl : lastC cA (Sl.mk false [rA]) = some rA := by rfl
    unfold okV
    rw [hl]
    show (!ans cA || ((rA.ver == cA.ver) && (decide (kL rA.key = kL cA.key) && ((⟨#[120]⟩ : ByteArray).toList == (⟨#[120]⟩ : ByteArray).toList)))) = true
    rw [beq_self_eq_true]; decide
  have e2 : okV (Sl.mk false [rA]) cC = true := by
    show (!ans cC || ((⟨#[]⟩ : ByteArray).toList == (⟨#[]⟩ : ByteArray).toList)) = true
    rw [beq_self_eq_true, Bool.or_true]
  rw [e1, e2]; rfl
theorem bounds2 : jBounds (Sl.mk false [cA, cC]) = true := by decide
theorem sess2 : jSessions (Sl.mk false [cA, cC]) = true := by decide
theorem keys2 : eqKeys (jKeys (Sl.mk false [cA, cC])) (Sl.mk false [kA]) = true := by
  refine eqKeys_of ?_
  obtain ⟨p1, p2⟩ := jKeys_spec (calls := Sl.mk false [cA, cC]) (by decide)
  refine asc_ext _ _ p1 (List.pairwise_cons.2 ⟨fun _ h => (by cases h), .nil⟩) fun y => (p2 y).trans ?_
  show y ∈ [kL kA, kL kA] ↔ y ∈ [kL kA]
  simp
theorem awake_true : awake = true := by
  have a1 : jAll (Sl.mk false [cA, cB]) (Sl.mk false [rA]) = false := by
    unfold jAll; rw [strong1]; cases (jRight (Sl.mk false [rA]) == 0) <;> rfl
  have a2 : jAll (Sl.mk false [cA, cC]) (Sl.mk false [rA]) = true := by
    unfold jAll; rw [strong2, right1, values2, bounds2, sess2]; rfl
  rw [awake_def, strong1, a1, a2, values2, right2, keys2]; rfl
set_option maxRecDepth 100000 in
theorem flat3 {m : Nat} {ps : List PV} (h : FlatA Try.prog (m + 1) 3 ps) : ∃ n, ps = [.lit (.int .i64 n)] ∧ (Lit.int .i64 n).wf = true := by
  unfold FlatA at h
  rw [Try.underlying3] at h
  exact h
set_option maxRecDepth 100000 in
theorem flat4 {m : Nat} {ps : List PV} (h : FlatA Try.prog (m + 1) 4 ps) : ∃ b, ps = [.lit (.bool b)] ∧ True := by
  unfold FlatA at h
  rw [Try.underlying4] at h
  obtain ⟨b, h⟩ := h
  exact ⟨b, h, trivial⟩
set_option maxRecDepth 100000 in
theorem flat5 {m : Nat} {ps : List PV} (h : FlatA Try.prog (m + 1) 5 ps) : ∃ n, ps = [.lit (.int .u8 n)] ∧ (Lit.int .u8 n).wf = true := by
  unfold FlatA at h
  rw [Try.underlying5] at h
  exact h
def WT31 (f : Nat → Int) : Prop := ∀ j, j < 8 → (Lit.int .u8 (f j)).wf = true
set_option maxRecDepth 100000 in
theorem flat31 {m : Nat} {ps : List PV} (h : FlatA Try.prog (m + 2) 31 ps) : ∃ f : Nat → Int, ps = [.lit (.int .u8 (f 0)), .lit (.int .u8 (f 1)), .lit (.int .u8 (f 2)), .lit (.int .u8 (f 3)), .lit (.int .u8 (f 4)), .lit (.int .u8 (f 5)), .lit (.int .u8 (f 6)), .lit (.int .u8 (f 7))] ∧ WT31 f := by
  unfold FlatA at h
  rw [Try.underlying31] at h
  obtain ⟨D, rfl, h1, h2⟩ := h
  obtain ⟨a0, a1, a2, a3, a4, a5, a6, a7, rfl⟩ := len8 h1
  obtain ⟨x0, rfl, w0⟩ := flat5 (m := m) (h2 a0 (by simp))
  obtain ⟨x1, rfl, w1⟩ := flat5 (m := m) (h2 a1 (by simp))
  obtain ⟨x2, rfl, w2⟩ := flat5 (m := m) (h2 a2 (by simp))
  obtain ⟨x3, rfl, w3⟩ := flat5 (m := m) (h2 a3 (by simp))
  obtain ⟨x4, rfl, w4⟩ := flat5 (m := m) (h2 a4 (by simp))
  obtain ⟨x5, rfl, w5⟩ := flat5 (m := m) (h2 a5 (by simp))
  obtain ⟨x6, rfl, w6⟩ := flat5 (m := m) (h2 a6 (by simp))
  obtain ⟨x7, rfl, w7⟩ := flat5 (m := m) (h2 a7 (by simp))
  refine ⟨ofL [x0, x1, x2, x3, x4, x5, x6, x7], rfl, fun j hj => ?_⟩
  rcases (by omega : j = 0 ∨ j = 1 ∨ j = 2 ∨ j = 3 ∨ j = 4 ∨ j = 5 ∨ j = 6 ∨ j = 7) with rfl | rfl | rfl | rfl | rfl | rfl | rfl | rfl
  · exact w0
  · exact w1
  · exact w2
  · exact w3
  · exact w4
  · exact w5
  · exact w6
  · exact w7
set_option maxRecDepth 100000 in
theorem flat9 {m : Nat} {ps : List PV} (h : FlatA Try.prog (m + 1) 9 ps) : ∃ s, ps = [.lit (.string s)] ∧ s.size ≤ maxLen := by
  unfold FlatA at h
  rw [Try.underlying9] at h
  exact h
set_option maxRecDepth 100000 in
theorem flat23 {m : Nat} {ps : List PV} (h : FlatA Try.prog (m + 1) 23 ps) : ∃ n, ps = [.lit (.int .i64 n)] ∧ (Lit.int .i64 n).wf = true := by
  unfold FlatA at h
  rw [Try.underlying23] at h
  exact h
def WT34 (x : Call) : Prop := (Lit.int .i64 x.client).wf = true ∧ (Lit.int .i64 x.seq).wf = true ∧ True ∧ WT31 x.key ∧ x.value.size ≤ maxLen ∧ (Lit.int .i64 x.mode).wf = true ∧ (Lit.int .i64 x.bound).wf = true ∧ (Lit.int .i64 x.began).wf = true ∧ (Lit.int .i64 x.ended).wf = true ∧ (Lit.int .i64 x.ver).wf = true ∧ (Lit.int .i64 x.err).wf = true ∧ (Lit.int .i64 x.floor).wf = true
set_option maxRecDepth 100000 in
theorem flat34 {m : Nat} {ps : List PV} (h : FlatA Try.prog (m + 3) 34 ps) : ∃ x : Call, ps = eCall.enc x ∧ WT34 x := by
  unfold FlatA at h
  rw [Try.underlying34] at h
  obtain ⟨a0, b0, e0, h0, a1, b1, e1, h1, a2, b2, e2, h2, a3, b3, e3, h3, a4, b4, e4, h4, a5, b5, e5, h5, a6, b6, e6, h6, a7, b7, e7, h7, a8, b8, e8, h8, a9, b9, e9, h9, a10, b10, e10, h10, a11, b11, e11, h11, el⟩ := h
  obtain ⟨x0, rfl, w0⟩ := flat3 (m := m + 1) h0
  obtain ⟨x1, rfl, w1⟩ := flat3 (m := m + 1) h1
  obtain ⟨x2, rfl, w2⟩ := flat4 (m := m + 1) h2
  obtain ⟨x3, rfl, w3⟩ := flat31 (m := m + 0) h3
  obtain ⟨x4, rfl, w4⟩ := flat9 (m := m + 1) h4
  obtain ⟨x5, rfl, w5⟩ := flat3 (m := m + 1) h5
  obtain ⟨x6, rfl, w6⟩ := flat3 (m := m + 1) h6
  obtain ⟨x7, rfl, w7⟩ := flat3 (m := m + 1) h7
  obtain ⟨x8, rfl, w8⟩ := flat3 (m := m + 1) h8
  obtain ⟨x9, rfl, w9⟩ := flat3 (m := m + 1) h9
  obtain ⟨x10, rfl, w10⟩ := flat23 (m := m + 1) h10
  obtain ⟨x11, rfl, w11⟩ := flat3 (m := m + 1) h11
  subst el
  subst e11
  subst e10
  subst e9
  subst e8
  subst e7
  subst e6
  subst e5
  subst e4
  subst e3
  subst e2
  subst e1
  subst e0
  exact ⟨⟨x0, x1, x2, x3, x4, x5, x6, x7, x8, x9, x10, x11⟩, rfl, w0, w1, w2, w3, w4, w5, w6, w7, w8, w9, w10, w11⟩
def WT27 (s : Sl Call) : Prop := s.D.length ≤ maxLen ∧ (s.nil = true → s.D = []) ∧ ∀ x ∈ s.D, WT34 x
set_option maxRecDepth 100000 in
theorem flat27 {m : Nat} {ps : List PV} (h : FlatA Try.prog (m + 4) 27 ps) : ∃ s : Sl Call, ps = [.sl (some s.nil) s.D.length (encL eCall s.D)] ∧ WT27 s := by
  unfold FlatA at h
  rw [Try.underlying27] at h
  obtain ⟨b, D, rfl, h1, h2, h3⟩ := h
  obtain ⟨D2, e1, e2, e3⟩ := enc_list (e := eCall) (W := fun x => WT34 x) D fun y hy => flat34 (h3 y hy)
  rw [e2, ← e1]
  exact ⟨⟨b, D2⟩, rfl, (by show D2.length ≤ _; rw [e1]; exact h1), (fun hb => by have := h2 hb; rw [this] at e1; exact List.eq_nil_of_length_eq_zero e1), e3⟩
def WT58 (x : Req) : Prop := (Lit.int .i64 x.client).wf = true ∧ (Lit.int .i64 x.seq).wf = true
set_option maxRecDepth 100000 in
theorem flat58 {m : Nat} {ps : List PV} (h : FlatA Try.prog (m + 2) 58 ps) : ∃ x : Req, ps = eReq.enc x ∧ WT58 x := by
  unfold FlatA at h
  rw [Try.underlying58] at h
  obtain ⟨a0, b0, e0, h0, a1, b1, e1, h1, el⟩ := h
  obtain ⟨x0, rfl, w0⟩ := flat3 (m := m + 0) h0
  obtain ⟨x1, rfl, w1⟩ := flat3 (m := m + 0) h1
  subst el
  subst e1
  subst e0
  exact ⟨⟨x0, x1⟩, rfl, w0, w1⟩
def WT60 (x : Record) : Prop := (Lit.int .i64 x.index).wf = true ∧ (Lit.int .i64 x.epoch).wf = true ∧ WT31 x.key ∧ (Lit.int .i64 x.ver).wf = true ∧ x.value.size ≤ maxLen ∧ WT58 x.req
set_option maxRecDepth 100000 in
theorem flat60 {m : Nat} {ps : List PV} (h : FlatA Try.prog (m + 3) 60 ps) : ∃ x : Record, ps = eRecord.enc x ∧ WT60 x := by
  unfold FlatA at h
  rw [Try.underlying60] at h
  obtain ⟨a0, b0, e0, h0, a1, b1, e1, h1, a2, b2, e2, h2, a3, b3, e3, h3, a4, b4, e4, h4, a5, b5, e5, h5, el⟩ := h
  obtain ⟨x0, rfl, w0⟩ := flat3 (m := m + 1) h0
  obtain ⟨x1, rfl, w1⟩ := flat3 (m := m + 1) h1
  obtain ⟨x2, rfl, w2⟩ := flat31 (m := m + 0) h2
  obtain ⟨x3, rfl, w3⟩ := flat3 (m := m + 1) h3
  obtain ⟨x4, rfl, w4⟩ := flat9 (m := m + 1) h4
  obtain ⟨x5, rfl, w5⟩ := flat58 (m := m + 0) h5
  subst el
  subst e5
  subst e4
  subst e3
  subst e2
  subst e1
  subst e0
  exact ⟨⟨x0, x1, x2, x3, x4, x5⟩, rfl, w0, w1, w2, w3, w4, w5⟩
def WT22 (s : Sl Record) : Prop := s.D.length ≤ maxLen ∧ (s.nil = true → s.D = []) ∧ ∀ x ∈ s.D, WT60 x
set_option maxRecDepth 100000 in
theorem flat22 {m : Nat} {ps : List PV} (h : FlatA Try.prog (m + 4) 22 ps) : ∃ s : Sl Record, ps = [.sl (some s.nil) s.D.length (encL eRecord s.D)] ∧ WT22 s := by
  unfold FlatA at h
  rw [Try.underlying22] at h
  obtain ⟨b, D, rfl, h1, h2, h3⟩ := h
  obtain ⟨D2, e1, e2, e3⟩ := enc_list (e := eRecord) (W := fun x => WT60 x) D fun y hy => flat60 (h3 y hy)
  rw [e2, ← e1]
  exact ⟨⟨b, D2⟩, rfl, (by show D2.length ≤ _; rw [e1]; exact h1), (fun hb => by have := h2 hb; rw [this] at e1; exact List.eq_nil_of_length_eq_zero e1), e3⟩
theorem wf8 {n : Int} (h : (Lit.int .u8 n).wf = true) : 0 ≤ n ∧ n < 256 := by
  have h' : (decide (IntKind.u8.min ≤ n) && decide (n ≤ IntKind.u8.max)) = true := h
  simp only [Bool.and_eq_true, decide_eq_true_eq] at h'
  have e1 : IntKind.u8.min = 0 := rfl
  have e2 : IntKind.u8.max = 255 := rfl
  omega
theorem wf64 {n : Int} (h : (Lit.int .i64 n).wf = true) : i64 n := by
  have h' : (decide (IntKind.i64.min ≤ n) && decide (n ≤ IntKind.i64.max)) = true := h
  simp only [Bool.and_eq_true, decide_eq_true_eq] at h'
  have e1 : IntKind.i64.min = -9223372036854775808 := rfl
  have e2 : IntKind.i64.max = 9223372036854775807 := rfl
  unfold i64
  omega
theorem key_b8 {k : Nat → Int} (h : WT31 k) : B8 (kL k) := fun x hx => by
  rw [kL_def] at hx
  simp only [List.mem_cons, List.not_mem_nil, or_false] at hx
  rcases hx with rfl | rfl | rfl | rfl | rfl | rfl | rfl | rfl <;> exact wf8 (h _ (by decide))
theorem calls_b8 {calls : Sl Call} (w : WT27 calls) : ∀ x ∈ calls.D, B8 (kL x.key) := fun x hx => key_b8 (w.2.2 x hx).2.2.2.1
theorem calls_i64 {calls : Sl Call} (w : WT27 calls) : ∀ x ∈ calls.D, i64 x.ver ∧ i64 x.bound := fun x hx => ⟨wf64 (w.2.2 x hx).2.2.2.2.2.2.2.2.2.1, wf64 (w.2.2 x hx).2.2.2.2.2.2.1⟩
theorem big_le {n : Nat} (h : n ≤ maxLen) : n ≤ 9223372036854775807 := Nat.le_trans h (by decide)
def lawTells (calls : (Sl Call)) (recs : (Sl Record)) : Bool :=
  (bif (decide ((calls.D.length : Int) > 60)) then (awake ) else (bif (decide ((recs.D.length : Int) > 60)) then (awake ) else (bif ((rRight recs) == 0) then (bif (rStrong calls recs) then (bif (rValues calls recs) then (bif (rBounds calls) then (bif ((jStrong calls recs) == (rStrong calls recs)) then (bif ((jValues calls recs) == (rValues calls recs)) then (bif ((jBounds calls) == (rBounds calls)) then (bif ((jSessions calls) == (rSessions calls)) then (bif ((jAll calls recs) == (rSessions calls)) then (awake ) else false) else false) else false) else false) else false) else (bif ((jStrong calls recs) == (rStrong calls recs)) then (bif ((jValues calls recs) == (rValues calls recs)) then (bif ((jBounds calls) == (rBounds calls)) then (bif ((jSessions calls) == (rSessions calls)) then (bif ((jAll calls recs) == false) then (awake ) else false) else false) else false) else false) else false)) else (bif ((jStrong calls recs) == (rStrong calls recs)) then (bif ((jValues calls recs) == (rValues calls recs)) then (bif ((jBounds calls) == (rBounds calls)) then (bif ((jSessions calls) == (rSessions calls)) then (bif ((jAll calls recs) == false) then (awake ) else false) else false) else false) else false) else false)) else (bif ((jStrong calls recs) == (rStrong calls recs)) then (bif ((jValues calls recs) == (rValues calls recs)) then (bif ((jBounds calls) == (rBounds calls)) then (bif ((jSessions calls) == (rSessions calls)) then (bif ((jAll calls recs) == false) then (awake ) else false) else false) else false) else false) else false)) else (bif ((jStrong calls recs) == (rStrong calls recs)) then (bif ((jValues calls recs) == (rValues calls recs)) then (bif ((jBounds calls) == (rBounds calls)) then (bif ((jSessions calls) == (rSessions calls)) then (bif ((jAll calls recs) == false) then (awake ) else false) else false) else false) else false) else false))))
theorem lawTells_calls (calls : (Sl Call)) (recs : (Sl Record)) (hl1 : calls.D.length ≤ 9223372036854775807) (hl2 : recs.D.length ≤ 9223372036854775807) : PCalls Try.prog 4 [sS (some calls.nil) eCall calls.D, sS (some recs.nil) eRecord recs.D] (.pv (.lit (.bool (lawTells calls recs)))) := by
 generalize hR : lawTells calls recs = R
 refine PCalls.of_body tabOk Try.func4 rfl rfl rfl rfl rfl mixed fun E hP C hI => ?_
 refine Awp.consP C ?_
 refine rvP C (.pv (.lit (.bool false))) ?_
 refine rvc_nil ?_
 refine Awp.seq ?_
 refine Awp.consP C ?_
 refine rvP C (sS (some calls.nil) eCall calls.D) ?_
 refine rvP C (.pv (.lit (.int .i64 (calls.D.length : Int)))) ?_
 refine rvP C (.pv (.lit (.bool (decide ((calls.D.length : Int) > 60))))) ?_
 refine rvP C (.pv (.lit (.bool (decide ((calls.D.length : Int) > 60))))) ?_
 refine rvc_case 13 (decide ((calls.D.length : Int) > 60)) rfl (fun h1 => ?_) (fun h1 => ?_)
 ·
  replace hR := of_true h1 hR
  refine rvS ?_
  refine rvS ?_
  refine rvS ?_
  refine rvP C (.pv (.lit (.bool true))) ?_
  refine rvc_nil ?_
  refine Awp.condT (b := true) rfl rfl ?_
  refine Awp.consP C ?_
  refine rvc_un (rexec_call hP C rfl rfl rfl (awake_calls ) ?_)
  refine rvP C (.pv (.lit (.bool (awake )))) ?_
  refine rvc_nil ?_
  refine Awp.ret ?_
  subst hR
  exact ⟨.inl rfl, rfl⟩
 ·
  replace hR := of_false h1 hR
  refine rvO C (sS (some recs.nil) eRecord recs.D) ?_
  refine rvO C (.pv (.lit (.int .i64 (recs.D.length : Int)))) ?_
  refine rvO C (.pv (.lit (.bool (decide ((recs.D.length : Int) > 60))))) ?_
  refine rvP C (.pv (.lit (.bool (decide ((recs.D.length : Int) > 60))))) ?_
  refine rvc_nil ?_
  refine Awp.cond (b := (decide ((recs.D.length : Int) > 60))) rfl (fun h2 => ?_) (fun h2 => ?_)
  ·
   replace hR := of_true h2 hR
   refine Awp.consP C ?_
   refine rvc_un (rexec_call hP C rfl rfl rfl (awake_calls ) ?_)
   refine rvP C (.pv (.lit (.bool (awake )))) ?_
   refine rvc_nil ?_
   refine Awp.ret ?_
   subst hR
   exact ⟨.inl rfl, rfl⟩
  ·
   replace hR := of_false h2 hR
   refine Awp.skip ?_
   refine Awp.consP C ?_
   refine rvP C (sS (some calls.nil) eCall calls.D) ?_
   refine rvP C (sS (some recs.nil) eRecord recs.D) ?_
   refine rvc_un (rexec_call hP C rfl rfl rfl (rStrong_calls calls recs (by show calls.D.length ≤ 1000000; have := of_decide_eq_false h1; have := of_decide_eq_false h2; omega) (by show recs.D.length ≤ 1000000; have := of_decide_eq_false h1; have := of_decide_eq_false h2; omega)) ?_)
   refine rvP C (sS (some calls.nil) eCall calls.D) ?_
   refine rvP C (sS (some recs.nil) eRecord recs.D) ?_
   refine rvc_un (rexec_call hP C rfl rfl rfl (rValues_calls calls recs (by show calls.D.length ≤ 1000000; have := of_decide_eq_false h1; have := of_decide_eq_false h2; omega) (by show recs.D.length ≤ 1000000; have := of_decide_eq_false h1; have := of_decide_eq_false h2; omega)) ?_)
   refine rvP C (sS (some calls.nil) eCall calls.D) ?_
   refine rvc_un (rexec_call hP C rfl rfl rfl (rBounds_calls calls (by show calls.D.length ≤ 1000000; have := of_decide_eq_false h1; have := of_decide_eq_false h2; omega)) ?_)
   refine rvP C (sS (some calls.nil) eCall calls.D) ?_
   refine rvc_un (rexec_call hP C rfl rfl rfl (rSessions_calls calls (by show calls.D.length ≤ 1000000; have := of_decide_eq_false h1; have := of_decide_eq_false h2; omega)) ?_)
   refine rvP C (.pv (.lit (.bool (rStrong calls recs)))) ?_
   refine rvP C (.pv (.lit (.bool (rValues calls recs)))) ?_
   refine rvP C (.pv (.lit (.bool (rBounds calls)))) ?_
   refine rvP C (.pv (.lit (.bool (rSessions calls)))) ?_
   refine rvc_nil ?_
   refine Awp.consP C ?_
   refine rvP C (sS (some recs.nil) eRecord recs.D) ?_
   refine rvc_un (rexec_call hP C rfl rfl rfl (rRight_calls recs (by show recs.D.length ≤ 1000000; have := of_decide_eq_false h1; have := of_decide_eq_false h2; omega)) ?_)
   refine rvP C (.pv (.lit (.bool ((rRight recs) == 0)))) ?_
   refine rvP C (.pv (.lit (.bool ((rRight recs) == 0)))) ?_
   refine rvc_case 32 ((rRight recs) == 0) rfl (fun h3 => ?_) (fun h3 => ?_)
   ·
    replace hR := of_true h3 hR
    refine rvO C (.pv (.lit (.bool (rStrong calls recs)))) ?_
    refine rvP C (.pv (.lit (.bool (rStrong calls recs)))) ?_
    refine rvP C (.pv (.lit (.bool (rStrong calls recs)))) ?_
    refine rvc_case 35 (rStrong calls recs) rfl (fun h4 => ?_) (fun h4 => ?_)
    ·
     replace hR := of_true h4 hR
     refine rvO C (.pv (.lit (.bool (rValues calls recs)))) ?_
     refine rvP C (.pv (.lit (.bool (rValues calls recs)))) ?_
     refine rvP C (.pv (.lit (.bool (rValues calls recs)))) ?_
     refine rvc_case 38 (rValues calls recs) rfl (fun h5 => ?_) (fun h5 => ?_)
     ·
      replace hR := of_true h5 hR
      refine rvO C (.pv (.lit (.bool (rBounds calls)))) ?_
      refine rvP C (.pv (.lit (.bool (rBounds calls)))) ?_
      refine rvP C (.pv (.lit (.bool (rBounds calls)))) ?_
      refine rvc_case 41 (rBounds calls) rfl (fun h6 => ?_) (fun h6 => ?_)
      ·
       replace hR := of_true h6 hR
       refine rvO C (.pv (.lit (.bool (rSessions calls)))) ?_
       refine rvP C (.pv (.lit (.bool (rSessions calls)))) ?_
       refine rvP C (.pv (.lit (.bool (rSessions calls)))) ?_
       refine rvc_nil ?_
       refine Awp.consP C ?_
       refine rvP C (sS (some calls.nil) eCall calls.D) ?_
       refine rvP C (sS (some recs.nil) eRecord recs.D) ?_
       refine rvc_un (rexec_call hP C rfl rfl rfl (jStrong_calls calls recs (by show calls.D.length ≤ 1000000; have := of_decide_eq_false h1; have := of_decide_eq_false h2; have := beq_iff_eq.1 h3; omega) (by show recs.D.length ≤ 1000000; have := of_decide_eq_false h1; have := of_decide_eq_false h2; have := beq_iff_eq.1 h3; omega)) ?_)
       refine rvP C (.pv (.lit (.bool (rStrong calls recs)))) ?_
       refine rvP C (.pv (.lit (.bool ((jStrong calls recs) == (rStrong calls recs))))) ?_
       refine rvP C (.pv (.lit (.bool ((jStrong calls recs) == (rStrong calls recs))))) ?_
       refine rvc_case 49 ((jStrong calls recs) == (rStrong calls recs)) rfl (fun h7 => ?_) (fun h7 => ?_)
       ·
        replace hR := of_true h7 hR
        refine rvO C (sS (some calls.nil) eCall calls.D) ?_
        refine rvO C (sS (some recs.nil) eRecord recs.D) ?_
        refine rvc_open rfl rfl rfl (rexec_call hP C rfl rfl rfl (jValues_calls calls recs (by show recs.D.length ≤ 1000000; have := of_decide_eq_false h1; have := of_decide_eq_false h2; have := beq_iff_eq.1 h3; have := beq_iff_eq.1 h7; omega) (by show calls.D.length ≤ 1000000; have := of_decide_eq_false h1; have := of_decide_eq_false h2; have := beq_iff_eq.1 h3; have := beq_iff_eq.1 h7; omega)) ?_)
        refine rvO C (.pv (.lit (.bool (rValues calls recs)))) ?_
        refine rvO C (.pv (.lit (.bool ((jValues calls recs) == (rValues calls recs))))) ?_
        refine rvP C (.pv (.lit (.bool ((jValues calls recs) == (rValues calls recs))))) ?_
        refine rvP C (.pv (.lit (.bool ((jValues calls recs) == (rValues calls recs))))) ?_
        refine rvc_case 56 ((jValues calls recs) == (rValues calls recs)) rfl (fun h8 => ?_) (fun h8 => ?_)
        ·
         replace hR := of_true h8 hR
         refine rvO C (sS (some calls.nil) eCall calls.D) ?_
         refine rvc_open rfl rfl rfl (rexec_call hP C rfl rfl rfl (jBounds_calls calls (by show calls.D.length ≤ 1000000; have := of_decide_eq_false h1; have := of_decide_eq_false h2; have := beq_iff_eq.1 h3; have := beq_iff_eq.1 h7; have := beq_iff_eq.1 h8; omega)) ?_)
         refine rvO C (.pv (.lit (.bool (rBounds calls)))) ?_
         refine rvO C (.pv (.lit (.bool ((jBounds calls) == (rBounds calls))))) ?_
         refine rvP C (.pv (.lit (.bool ((jBounds calls) == (rBounds calls))))) ?_
         refine rvP C (.pv (.lit (.bool ((jBounds calls) == (rBounds calls))))) ?_
         refine rvc_case 62 ((jBounds calls) == (rBounds calls)) rfl (fun h9 => ?_) (fun h9 => ?_)
         ·
          replace hR := of_true h9 hR
          refine rvO C (sS (some calls.nil) eCall calls.D) ?_
          refine rvc_open rfl rfl rfl (rexec_call hP C rfl rfl rfl (jSessions_calls calls (by show calls.D.length ≤ 1000000; have := of_decide_eq_false h1; have := of_decide_eq_false h2; have := beq_iff_eq.1 h3; have := beq_iff_eq.1 h7; have := beq_iff_eq.1 h8; have := beq_iff_eq.1 h9; omega)) ?_)
          refine rvO C (.pv (.lit (.bool (rSessions calls)))) ?_
          refine rvO C (.pv (.lit (.bool ((jSessions calls) == (rSessions calls))))) ?_
          refine rvP C (.pv (.lit (.bool ((jSessions calls) == (rSessions calls))))) ?_
          refine rvP C (.pv (.lit (.bool ((jSessions calls) == (rSessions calls))))) ?_
          refine rvc_case 68 ((jSessions calls) == (rSessions calls)) rfl (fun h10 => ?_) (fun h10 => ?_)
          ·
           replace hR := of_true h10 hR
           refine rvO C (sS (some calls.nil) eCall calls.D) ?_
           refine rvO C (sS (some recs.nil) eRecord recs.D) ?_
           refine rvc_open rfl rfl rfl (rexec_call hP C rfl rfl rfl (jAll_calls calls recs (by show recs.D.length ≤ 1000000; have := of_decide_eq_false h1; have := of_decide_eq_false h2; have := beq_iff_eq.1 h3; have := beq_iff_eq.1 h7; have := beq_iff_eq.1 h8; have := beq_iff_eq.1 h9; have := beq_iff_eq.1 h10; omega) (by show calls.D.length ≤ 1000000; have := of_decide_eq_false h1; have := of_decide_eq_false h2; have := beq_iff_eq.1 h3; have := beq_iff_eq.1 h7; have := beq_iff_eq.1 h8; have := beq_iff_eq.1 h9; have := beq_iff_eq.1 h10; omega)) ?_)
           refine rvO C (.pv (.lit (.bool (rSessions calls)))) ?_
           refine rvO C (.pv (.lit (.bool ((jAll calls recs) == (rSessions calls))))) ?_
           refine rvP C (.pv (.lit (.bool ((jAll calls recs) == (rSessions calls))))) ?_
           refine rvP C (.pv (.lit (.bool ((jAll calls recs) == (rSessions calls))))) ?_
           refine rvc_case 75 ((jAll calls recs) == (rSessions calls)) rfl (fun h11 => ?_) (fun h11 => ?_)
           ·
            replace hR := of_true h11 hR
            refine rvc_open rfl rfl rfl (rexec_call hP C rfl rfl rfl (awake_calls ) ?_)
            refine rvP C (.pv (.lit (.bool (awake )))) ?_
            refine rvP C (.pv (.lit (.bool (awake )))) ?_
            refine rvc_nil ?_
            refine Awp.ret ?_
            subst hR
            exact ⟨.inl rfl, rfl⟩
           ·
            replace hR := of_false h11 hR
            refine rvS ?_
            refine rvP C (.pv (.lit (.bool false))) ?_
            refine rvP C (.pv (.lit (.bool false))) ?_
            refine rvc_nil ?_
            refine Awp.ret ?_
            subst hR
            exact ⟨.inl rfl, rfl⟩
          ·
           replace hR := of_false h10 hR
           refine rvS ?_
           refine rvS ?_
           refine rvS ?_
           refine rvS ?_
           refine rvS ?_
           refine rvP C (.pv (.lit (.bool false))) ?_
           refine rvP C (.pv (.lit (.bool false))) ?_
           refine rvS ?_
           refine rvP C (.pv (.lit (.bool false))) ?_
           refine rvP C (.pv (.lit (.bool false))) ?_
           refine rvc_nil ?_
           refine Awp.ret ?_
           subst hR
           exact ⟨.inl rfl, rfl⟩
         ·
          replace hR := of_false h9 hR
          refine rvS ?_
          refine rvS ?_
          refine rvS ?_
          refine rvS ?_
          refine rvP C (.pv (.lit (.bool false))) ?_
          refine rvP C (.pv (.lit (.bool false))) ?_
          refine rvS ?_
          refine rvS ?_
          refine rvS ?_
          refine rvS ?_
          refine rvS ?_
          refine rvP C (.pv (.lit (.bool false))) ?_
          refine rvP C (.pv (.lit (.bool false))) ?_
          refine rvS ?_
          refine rvP C (.pv (.lit (.bool false))) ?_
          refine rvP C (.pv (.lit (.bool false))) ?_
          refine rvc_nil ?_
          refine Awp.ret ?_
          subst hR
          exact ⟨.inl rfl, rfl⟩
        ·
         replace hR := of_false h8 hR
         refine rvS ?_
         refine rvS ?_
         refine rvS ?_
         refine rvS ?_
         refine rvP C (.pv (.lit (.bool false))) ?_
         refine rvP C (.pv (.lit (.bool false))) ?_
         refine rvS ?_
         refine rvS ?_
         refine rvS ?_
         refine rvS ?_
         refine rvP C (.pv (.lit (.bool false))) ?_
         refine rvP C (.pv (.lit (.bool false))) ?_
         refine rvS ?_
         refine rvS ?_
         refine rvS ?_
         refine rvS ?_
         refine rvS ?_
         refine rvP C (.pv (.lit (.bool false))) ?_
         refine rvP C (.pv (.lit (.bool false))) ?_
         refine rvS ?_
         refine rvP C (.pv (.lit (.bool false))) ?_
         refine rvP C (.pv (.lit (.bool false))) ?_
         refine rvc_nil ?_
         refine Awp.ret ?_
         subst hR
         exact ⟨.inl rfl, rfl⟩
       ·
        replace hR := of_false h7 hR
        refine rvS ?_
        refine rvS ?_
        refine rvS ?_
        refine rvS ?_
        refine rvS ?_
        refine rvP C (.pv (.lit (.bool false))) ?_
        refine rvP C (.pv (.lit (.bool false))) ?_
        refine rvS ?_
        refine rvS ?_
        refine rvS ?_
        refine rvS ?_
        refine rvP C (.pv (.lit (.bool false))) ?_
        refine rvP C (.pv (.lit (.bool false))) ?_
        refine rvS ?_
        refine rvS ?_
        refine rvS ?_
        refine rvS ?_
        refine rvP C (.pv (.lit (.bool false))) ?_
        refine rvP C (.pv (.lit (.bool false))) ?_
        refine rvS ?_
        refine rvS ?_
        refine rvS ?_
        refine rvS ?_
        refine rvS ?_
        refine rvP C (.pv (.lit (.bool false))) ?_
        refine rvP C (.pv (.lit (.bool false))) ?_
        refine rvS ?_
        refine rvP C (.pv (.lit (.bool false))) ?_
        refine rvP C (.pv (.lit (.bool false))) ?_
        refine rvc_nil ?_
        refine Awp.ret ?_
        subst hR
        exact ⟨.inl rfl, rfl⟩
      ·
       replace hR := of_false h6 hR
       refine rvS ?_
       refine rvP C (.pv (.lit (.bool false))) ?_
       refine rvP C (.pv (.lit (.bool false))) ?_
       refine rvc_nil ?_
       refine Awp.consP C ?_
       refine rvP C (sS (some calls.nil) eCall calls.D) ?_
       refine rvP C (sS (some recs.nil) eRecord recs.D) ?_
       refine rvc_un (rexec_call hP C rfl rfl rfl (jStrong_calls calls recs (by show calls.D.length ≤ 1000000; have := of_decide_eq_false h1; have := of_decide_eq_false h2; have := beq_iff_eq.1 h3; omega) (by show recs.D.length ≤ 1000000; have := of_decide_eq_false h1; have := of_decide_eq_false h2; have := beq_iff_eq.1 h3; omega)) ?_)
       refine rvP C (.pv (.lit (.bool (rStrong calls recs)))) ?_
       refine rvP C (.pv (.lit (.bool ((jStrong calls recs) == (rStrong calls recs))))) ?_
       refine rvP C (.pv (.lit (.bool ((jStrong calls recs) == (rStrong calls recs))))) ?_
       refine rvc_case 49 ((jStrong calls recs) == (rStrong calls recs)) rfl (fun h12 => ?_) (fun h12 => ?_)
       ·
        replace hR := of_true h12 hR
        refine rvO C (sS (some calls.nil) eCall calls.D) ?_
        refine rvO C (sS (some recs.nil) eRecord recs.D) ?_
        refine rvc_open rfl rfl rfl (rexec_call hP C rfl rfl rfl (jValues_calls calls recs (by show recs.D.length ≤ 1000000; have := of_decide_eq_false h1; have := of_decide_eq_false h2; have := beq_iff_eq.1 h3; have := beq_iff_eq.1 h12; omega) (by show calls.D.length ≤ 1000000; have := of_decide_eq_false h1; have := of_decide_eq_false h2; have := beq_iff_eq.1 h3; have := beq_iff_eq.1 h12; omega)) ?_)
        refine rvO C (.pv (.lit (.bool (rValues calls recs)))) ?_
        refine rvO C (.pv (.lit (.bool ((jValues calls recs) == (rValues calls recs))))) ?_
        refine rvP C (.pv (.lit (.bool ((jValues calls recs) == (rValues calls recs))))) ?_
        refine rvP C (.pv (.lit (.bool ((jValues calls recs) == (rValues calls recs))))) ?_
        refine rvc_case 56 ((jValues calls recs) == (rValues calls recs)) rfl (fun h13 => ?_) (fun h13 => ?_)
        ·
         replace hR := of_true h13 hR
         refine rvO C (sS (some calls.nil) eCall calls.D) ?_
         refine rvc_open rfl rfl rfl (rexec_call hP C rfl rfl rfl (jBounds_calls calls (by show calls.D.length ≤ 1000000; have := of_decide_eq_false h1; have := of_decide_eq_false h2; have := beq_iff_eq.1 h3; have := beq_iff_eq.1 h12; have := beq_iff_eq.1 h13; omega)) ?_)
         refine rvO C (.pv (.lit (.bool (rBounds calls)))) ?_
         refine rvO C (.pv (.lit (.bool ((jBounds calls) == (rBounds calls))))) ?_
         refine rvP C (.pv (.lit (.bool ((jBounds calls) == (rBounds calls))))) ?_
         refine rvP C (.pv (.lit (.bool ((jBounds calls) == (rBounds calls))))) ?_
         refine rvc_case 62 ((jBounds calls) == (rBounds calls)) rfl (fun h14 => ?_) (fun h14 => ?_)
         ·
          replace hR := of_true h14 hR
          refine rvO C (sS (some calls.nil) eCall calls.D) ?_
          refine rvc_open rfl rfl rfl (rexec_call hP C rfl rfl rfl (jSessions_calls calls (by show calls.D.length ≤ 1000000; have := of_decide_eq_false h1; have := of_decide_eq_false h2; have := beq_iff_eq.1 h3; have := beq_iff_eq.1 h12; have := beq_iff_eq.1 h13; have := beq_iff_eq.1 h14; omega)) ?_)
          refine rvO C (.pv (.lit (.bool (rSessions calls)))) ?_
          refine rvO C (.pv (.lit (.bool ((jSessions calls) == (rSessions calls))))) ?_
          refine rvP C (.pv (.lit (.bool ((jSessions calls) == (rSessions calls))))) ?_
          refine rvP C (.pv (.lit (.bool ((jSessions calls) == (rSessions calls))))) ?_
          refine rvc_case 68 ((jSessions calls) == (rSessions calls)) rfl (fun h15 => ?_) (fun h15 => ?_)
          ·
           replace hR := of_true h15 hR
           refine rvO C (sS (some calls.nil) eCall calls.D) ?_
           refine rvO C (sS (some recs.nil) eRecord recs.D) ?_
           refine rvc_open rfl rfl rfl (rexec_call hP C rfl rfl rfl (jAll_calls calls recs (by show recs.D.length ≤ 1000000; have := of_decide_eq_false h1; have := of_decide_eq_false h2; have := beq_iff_eq.1 h3; have := beq_iff_eq.1 h12; have := beq_iff_eq.1 h13; have := beq_iff_eq.1 h14; have := beq_iff_eq.1 h15; omega) (by show calls.D.length ≤ 1000000; have := of_decide_eq_false h1; have := of_decide_eq_false h2; have := beq_iff_eq.1 h3; have := beq_iff_eq.1 h12; have := beq_iff_eq.1 h13; have := beq_iff_eq.1 h14; have := beq_iff_eq.1 h15; omega)) ?_)
           refine rvO C (.pv (.lit (.bool false))) ?_
           refine rvO C (.pv (.lit (.bool ((jAll calls recs) == false)))) ?_
           refine rvP C (.pv (.lit (.bool ((jAll calls recs) == false)))) ?_
           refine rvP C (.pv (.lit (.bool ((jAll calls recs) == false)))) ?_
           refine rvc_case 75 ((jAll calls recs) == false) rfl (fun h16 => ?_) (fun h16 => ?_)
           ·
            replace hR := of_true h16 hR
            refine rvc_open rfl rfl rfl (rexec_call hP C rfl rfl rfl (awake_calls ) ?_)
            refine rvP C (.pv (.lit (.bool (awake )))) ?_
            refine rvP C (.pv (.lit (.bool (awake )))) ?_
            refine rvc_nil ?_
            refine Awp.ret ?_
            subst hR
            exact ⟨.inl rfl, rfl⟩
           ·
            replace hR := of_false h16 hR
            refine rvS ?_
            refine rvP C (.pv (.lit (.bool false))) ?_
            refine rvP C (.pv (.lit (.bool false))) ?_
            refine rvc_nil ?_
            refine Awp.ret ?_
            subst hR
            exact ⟨.inl rfl, rfl⟩
          ·
           replace hR := of_false h15 hR
           refine rvS ?_
           refine rvS ?_
           refine rvS ?_
           refine rvS ?_
           refine rvS ?_
           refine rvP C (.pv (.lit (.bool false))) ?_
           refine rvP C (.pv (.lit (.bool false))) ?_
           refine rvS ?_
           refine rvP C (.pv (.lit (.bool false))) ?_
           refine rvP C (.pv (.lit (.bool false))) ?_
           refine rvc_nil ?_
           refine Awp.ret ?_
           subst hR
           exact ⟨.inl rfl, rfl⟩
         ·
          replace hR := of_false h14 hR
          refine rvS ?_
          refine rvS ?_
          refine rvS ?_
          refine rvS ?_
          refine rvP C (.pv (.lit (.bool false))) ?_
          refine rvP C (.pv (.lit (.bool false))) ?_
          refine rvS ?_
          refine rvS ?_
          refine rvS ?_
          refine rvS ?_
          refine rvS ?_
          refine rvP C (.pv (.lit (.bool false))) ?_
          refine rvP C (.pv (.lit (.bool false))) ?_
          refine rvS ?_
          refine rvP C (.pv (.lit (.bool false))) ?_
          refine rvP C (.pv (.lit (.bool false))) ?_
          refine rvc_nil ?_
          refine Awp.ret ?_
          subst hR
          exact ⟨.inl rfl, rfl⟩
        ·
         replace hR := of_false h13 hR
         refine rvS ?_
         refine rvS ?_
         refine rvS ?_
         refine rvS ?_
         refine rvP C (.pv (.lit (.bool false))) ?_
         refine rvP C (.pv (.lit (.bool false))) ?_
         refine rvS ?_
         refine rvS ?_
         refine rvS ?_
         refine rvS ?_
         refine rvP C (.pv (.lit (.bool false))) ?_
         refine rvP C (.pv (.lit (.bool false))) ?_
         refine rvS ?_
         refine rvS ?_
         refine rvS ?_
         refine rvS ?_
         refine rvS ?_
         refine rvP C (.pv (.lit (.bool false))) ?_
         refine rvP C (.pv (.lit (.bool false))) ?_
         refine rvS ?_
         refine rvP C (.pv (.lit (.bool false))) ?_
         refine rvP C (.pv (.lit (.bool false))) ?_
         refine rvc_nil ?_
         refine Awp.ret ?_
         subst hR
         exact ⟨.inl rfl, rfl⟩
       ·
        replace hR := of_false h12 hR
        refine rvS ?_
        refine rvS ?_
        refine rvS ?_
        refine rvS ?_
        refine rvS ?_
        refine rvP C (.pv (.lit (.bool false))) ?_
        refine rvP C (.pv (.lit (.bool false))) ?_
        refine rvS ?_
        refine rvS ?_
        refine rvS ?_
        refine rvS ?_
        refine rvP C (.pv (.lit (.bool false))) ?_
        refine rvP C (.pv (.lit (.bool false))) ?_
        refine rvS ?_
        refine rvS ?_
        refine rvS ?_
        refine rvS ?_
        refine rvP C (.pv (.lit (.bool false))) ?_
        refine rvP C (.pv (.lit (.bool false))) ?_
        refine rvS ?_
        refine rvS ?_
        refine rvS ?_
        refine rvS ?_
        refine rvS ?_
        refine rvP C (.pv (.lit (.bool false))) ?_
        refine rvP C (.pv (.lit (.bool false))) ?_
        refine rvS ?_
        refine rvP C (.pv (.lit (.bool false))) ?_
        refine rvP C (.pv (.lit (.bool false))) ?_
        refine rvc_nil ?_
        refine Awp.ret ?_
        subst hR
        exact ⟨.inl rfl, rfl⟩
     ·
      replace hR := of_false h5 hR
      refine rvS ?_
      refine rvP C (.pv (.lit (.bool false))) ?_
      refine rvP C (.pv (.lit (.bool false))) ?_
      refine rvS ?_
      refine rvP C (.pv (.lit (.bool false))) ?_
      refine rvP C (.pv (.lit (.bool false))) ?_
      refine rvc_nil ?_
      refine Awp.consP C ?_
      refine rvP C (sS (some calls.nil) eCall calls.D) ?_
      refine rvP C (sS (some recs.nil) eRecord recs.D) ?_
      refine rvc_un (rexec_call hP C rfl rfl rfl (jStrong_calls calls recs (by show calls.D.length ≤ 1000000; have := of_decide_eq_false h1; have := of_decide_eq_false h2; have := beq_iff_eq.1 h3; omega) (by show recs.D.length ≤ 1000000; have := of_decide_eq_false h1; have := of_decide_eq_false h2; have := beq_iff_eq.1 h3; omega)) ?_)
      refine rvP C (.pv (.lit (.bool (rStrong calls recs)))) ?_
      refine rvP C (.pv (.lit (.bool ((jStrong calls recs) == (rStrong calls recs))))) ?_
      refine rvP C (.pv (.lit (.bool ((jStrong calls recs) == (rStrong calls recs))))) ?_
      refine rvc_case 49 ((jStrong calls recs) == (rStrong calls recs)) rfl (fun h17 => ?_) (fun h17 => ?_)
      ·
       replace hR := of_true h17 hR
       refine rvO C (sS (some calls.nil) eCall calls.D) ?_
       refine rvO C (sS (some recs.nil) eRecord recs.D) ?_
       refine rvc_open rfl rfl rfl (rexec_call hP C rfl rfl rfl (jValues_calls calls recs (by show recs.D.length ≤ 1000000; have := of_decide_eq_false h1; have := of_decide_eq_false h2; have := beq_iff_eq.1 h3; have := beq_iff_eq.1 h17; omega) (by show calls.D.length ≤ 1000000; have := of_decide_eq_false h1; have := of_decide_eq_false h2; have := beq_iff_eq.1 h3; have := beq_iff_eq.1 h17; omega)) ?_)
       refine rvO C (.pv (.lit (.bool (rValues calls recs)))) ?_
       refine rvO C (.pv (.lit (.bool ((jValues calls recs) == (rValues calls recs))))) ?_
       refine rvP C (.pv (.lit (.bool ((jValues calls recs) == (rValues calls recs))))) ?_
       refine rvP C (.pv (.lit (.bool ((jValues calls recs) == (rValues calls recs))))) ?_
       refine rvc_case 56 ((jValues calls recs) == (rValues calls recs)) rfl (fun h18 => ?_) (fun h18 => ?_)
       ·
        replace hR := of_true h18 hR
        refine rvO C (sS (some calls.nil) eCall calls.D) ?_
        refine rvc_open rfl rfl rfl (rexec_call hP C rfl rfl rfl (jBounds_calls calls (by show calls.D.length ≤ 1000000; have := of_decide_eq_false h1; have := of_decide_eq_false h2; have := beq_iff_eq.1 h3; have := beq_iff_eq.1 h17; have := beq_iff_eq.1 h18; omega)) ?_)
        refine rvO C (.pv (.lit (.bool (rBounds calls)))) ?_
        refine rvO C (.pv (.lit (.bool ((jBounds calls) == (rBounds calls))))) ?_
        refine rvP C (.pv (.lit (.bool ((jBounds calls) == (rBounds calls))))) ?_
        refine rvP C (.pv (.lit (.bool ((jBounds calls) == (rBounds calls))))) ?_
        refine rvc_case 62 ((jBounds calls) == (rBounds calls)) rfl (fun h19 => ?_) (fun h19 => ?_)
        ·
         replace hR := of_true h19 hR
         refine rvO C (sS (some calls.nil) eCall calls.D) ?_
         refine rvc_open rfl rfl rfl (rexec_call hP C rfl rfl rfl (jSessions_calls calls (by show calls.D.length ≤ 1000000; have := of_decide_eq_false h1; have := of_decide_eq_false h2; have := beq_iff_eq.1 h3; have := beq_iff_eq.1 h17; have := beq_iff_eq.1 h18; have := beq_iff_eq.1 h19; omega)) ?_)
         refine rvO C (.pv (.lit (.bool (rSessions calls)))) ?_
         refine rvO C (.pv (.lit (.bool ((jSessions calls) == (rSessions calls))))) ?_
         refine rvP C (.pv (.lit (.bool ((jSessions calls) == (rSessions calls))))) ?_
         refine rvP C (.pv (.lit (.bool ((jSessions calls) == (rSessions calls))))) ?_
         refine rvc_case 68 ((jSessions calls) == (rSessions calls)) rfl (fun h20 => ?_) (fun h20 => ?_)
         ·
          replace hR := of_true h20 hR
          refine rvO C (sS (some calls.nil) eCall calls.D) ?_
          refine rvO C (sS (some recs.nil) eRecord recs.D) ?_
          refine rvc_open rfl rfl rfl (rexec_call hP C rfl rfl rfl (jAll_calls calls recs (by show recs.D.length ≤ 1000000; have := of_decide_eq_false h1; have := of_decide_eq_false h2; have := beq_iff_eq.1 h3; have := beq_iff_eq.1 h17; have := beq_iff_eq.1 h18; have := beq_iff_eq.1 h19; have := beq_iff_eq.1 h20; omega) (by show calls.D.length ≤ 1000000; have := of_decide_eq_false h1; have := of_decide_eq_false h2; have := beq_iff_eq.1 h3; have := beq_iff_eq.1 h17; have := beq_iff_eq.1 h18; have := beq_iff_eq.1 h19; have := beq_iff_eq.1 h20; omega)) ?_)
          refine rvO C (.pv (.lit (.bool false))) ?_
          refine rvO C (.pv (.lit (.bool ((jAll calls recs) == false)))) ?_
          refine rvP C (.pv (.lit (.bool ((jAll calls recs) == false)))) ?_
          refine rvP C (.pv (.lit (.bool ((jAll calls recs) == false)))) ?_
          refine rvc_case 75 ((jAll calls recs) == false) rfl (fun h21 => ?_) (fun h21 => ?_)
          ·
           replace hR := of_true h21 hR
           refine rvc_open rfl rfl rfl (rexec_call hP C rfl rfl rfl (awake_calls ) ?_)
           refine rvP C (.pv (.lit (.bool (awake )))) ?_
           refine rvP C (.pv (.lit (.bool (awake )))) ?_
           refine rvc_nil ?_
           refine Awp.ret ?_
           subst hR
           exact ⟨.inl rfl, rfl⟩
          ·
           replace hR := of_false h21 hR
           refine rvS ?_
           refine rvP C (.pv (.lit (.bool false))) ?_
           refine rvP C (.pv (.lit (.bool false))) ?_
           refine rvc_nil ?_
           refine Awp.ret ?_
           subst hR
           exact ⟨.inl rfl, rfl⟩
         ·
          replace hR := of_false h20 hR
          refine rvS ?_
          refine rvS ?_
          refine rvS ?_
          refine rvS ?_
          refine rvS ?_
          refine rvP C (.pv (.lit (.bool false))) ?_
          refine rvP C (.pv (.lit (.bool false))) ?_
          refine rvS ?_
          refine rvP C (.pv (.lit (.bool false))) ?_
          refine rvP C (.pv (.lit (.bool false))) ?_
          refine rvc_nil ?_
          refine Awp.ret ?_
          subst hR
          exact ⟨.inl rfl, rfl⟩
        ·
         replace hR := of_false h19 hR
         refine rvS ?_
         refine rvS ?_
         refine rvS ?_
         refine rvS ?_
         refine rvP C (.pv (.lit (.bool false))) ?_
         refine rvP C (.pv (.lit (.bool false))) ?_
         refine rvS ?_
         refine rvS ?_
         refine rvS ?_
         refine rvS ?_
         refine rvS ?_
         refine rvP C (.pv (.lit (.bool false))) ?_
         refine rvP C (.pv (.lit (.bool false))) ?_
         refine rvS ?_
         refine rvP C (.pv (.lit (.bool false))) ?_
         refine rvP C (.pv (.lit (.bool false))) ?_
         refine rvc_nil ?_
         refine Awp.ret ?_
         subst hR
         exact ⟨.inl rfl, rfl⟩
       ·
        replace hR := of_false h18 hR
        refine rvS ?_
        refine rvS ?_
        refine rvS ?_
        refine rvS ?_
        refine rvP C (.pv (.lit (.bool false))) ?_
        refine rvP C (.pv (.lit (.bool false))) ?_
        refine rvS ?_
        refine rvS ?_
        refine rvS ?_
        refine rvS ?_
        refine rvP C (.pv (.lit (.bool false))) ?_
        refine rvP C (.pv (.lit (.bool false))) ?_
        refine rvS ?_
        refine rvS ?_
        refine rvS ?_
        refine rvS ?_
        refine rvS ?_
        refine rvP C (.pv (.lit (.bool false))) ?_
        refine rvP C (.pv (.lit (.bool false))) ?_
        refine rvS ?_
        refine rvP C (.pv (.lit (.bool false))) ?_
        refine rvP C (.pv (.lit (.bool false))) ?_
        refine rvc_nil ?_
        refine Awp.ret ?_
        subst hR
        exact ⟨.inl rfl, rfl⟩
      ·
       replace hR := of_false h17 hR
       refine rvS ?_
       refine rvS ?_
       refine rvS ?_
       refine rvS ?_
       refine rvS ?_
       refine rvP C (.pv (.lit (.bool false))) ?_
       refine rvP C (.pv (.lit (.bool false))) ?_
       refine rvS ?_
       refine rvS ?_
       refine rvS ?_
       refine rvS ?_
       refine rvP C (.pv (.lit (.bool false))) ?_
       refine rvP C (.pv (.lit (.bool false))) ?_
       refine rvS ?_
       refine rvS ?_
       refine rvS ?_
       refine rvS ?_
       refine rvP C (.pv (.lit (.bool false))) ?_
       refine rvP C (.pv (.lit (.bool false))) ?_
       refine rvS ?_
       refine rvS ?_
       refine rvS ?_
       refine rvS ?_
       refine rvS ?_
       refine rvP C (.pv (.lit (.bool false))) ?_
       refine rvP C (.pv (.lit (.bool false))) ?_
       refine rvS ?_
       refine rvP C (.pv (.lit (.bool false))) ?_
       refine rvP C (.pv (.lit (.bool false))) ?_
       refine rvc_nil ?_
       refine Awp.ret ?_
       subst hR
       exact ⟨.inl rfl, rfl⟩
    ·
     replace hR := of_false h4 hR
     refine rvS ?_
     refine rvP C (.pv (.lit (.bool false))) ?_
     refine rvP C (.pv (.lit (.bool false))) ?_
     refine rvS ?_
     refine rvP C (.pv (.lit (.bool false))) ?_
     refine rvP C (.pv (.lit (.bool false))) ?_
     refine rvS ?_
     refine rvP C (.pv (.lit (.bool false))) ?_
     refine rvP C (.pv (.lit (.bool false))) ?_
     refine rvc_nil ?_
     refine Awp.consP C ?_
     refine rvP C (sS (some calls.nil) eCall calls.D) ?_
     refine rvP C (sS (some recs.nil) eRecord recs.D) ?_
     refine rvc_un (rexec_call hP C rfl rfl rfl (jStrong_calls calls recs (by show calls.D.length ≤ 1000000; have := of_decide_eq_false h1; have := of_decide_eq_false h2; have := beq_iff_eq.1 h3; omega) (by show recs.D.length ≤ 1000000; have := of_decide_eq_false h1; have := of_decide_eq_false h2; have := beq_iff_eq.1 h3; omega)) ?_)
     refine rvP C (.pv (.lit (.bool (rStrong calls recs)))) ?_
     refine rvP C (.pv (.lit (.bool ((jStrong calls recs) == (rStrong calls recs))))) ?_
     refine rvP C (.pv (.lit (.bool ((jStrong calls recs) == (rStrong calls recs))))) ?_
     refine rvc_case 49 ((jStrong calls recs) == (rStrong calls recs)) rfl (fun h22 => ?_) (fun h22 => ?_)
     ·
      replace hR := of_true h22 hR
      refine rvO C (sS (some calls.nil) eCall calls.D) ?_
      refine rvO C (sS (some recs.nil) eRecord recs.D) ?_
      refine rvc_open rfl rfl rfl (rexec_call hP C rfl rfl rfl (jValues_calls calls recs (by show recs.D.length ≤ 1000000; have := of_decide_eq_false h1; have := of_decide_eq_false h2; have := beq_iff_eq.1 h3; have := beq_iff_eq.1 h22; omega) (by show calls.D.length ≤ 1000000; have := of_decide_eq_false h1; have := of_decide_eq_false h2; have := beq_iff_eq.1 h3; have := beq_iff_eq.1 h22; omega)) ?_)
      refine rvO C (.pv (.lit (.bool (rValues calls recs)))) ?_
      refine rvO C (.pv (.lit (.bool ((jValues calls recs) == (rValues calls recs))))) ?_
      refine rvP C (.pv (.lit (.bool ((jValues calls recs) == (rValues calls recs))))) ?_
      refine rvP C (.pv (.lit (.bool ((jValues calls recs) == (rValues calls recs))))) ?_
      refine rvc_case 56 ((jValues calls recs) == (rValues calls recs)) rfl (fun h23 => ?_) (fun h23 => ?_)
      ·
       replace hR := of_true h23 hR
       refine rvO C (sS (some calls.nil) eCall calls.D) ?_
       refine rvc_open rfl rfl rfl (rexec_call hP C rfl rfl rfl (jBounds_calls calls (by show calls.D.length ≤ 1000000; have := of_decide_eq_false h1; have := of_decide_eq_false h2; have := beq_iff_eq.1 h3; have := beq_iff_eq.1 h22; have := beq_iff_eq.1 h23; omega)) ?_)
       refine rvO C (.pv (.lit (.bool (rBounds calls)))) ?_
       refine rvO C (.pv (.lit (.bool ((jBounds calls) == (rBounds calls))))) ?_
       refine rvP C (.pv (.lit (.bool ((jBounds calls) == (rBounds calls))))) ?_
       refine rvP C (.pv (.lit (.bool ((jBounds calls) == (rBounds calls))))) ?_
       refine rvc_case 62 ((jBounds calls) == (rBounds calls)) rfl (fun h24 => ?_) (fun h24 => ?_)
       ·
        replace hR := of_true h24 hR
        refine rvO C (sS (some calls.nil) eCall calls.D) ?_
        refine rvc_open rfl rfl rfl (rexec_call hP C rfl rfl rfl (jSessions_calls calls (by show calls.D.length ≤ 1000000; have := of_decide_eq_false h1; have := of_decide_eq_false h2; have := beq_iff_eq.1 h3; have := beq_iff_eq.1 h22; have := beq_iff_eq.1 h23; have := beq_iff_eq.1 h24; omega)) ?_)
        refine rvO C (.pv (.lit (.bool (rSessions calls)))) ?_
        refine rvO C (.pv (.lit (.bool ((jSessions calls) == (rSessions calls))))) ?_
        refine rvP C (.pv (.lit (.bool ((jSessions calls) == (rSessions calls))))) ?_
        refine rvP C (.pv (.lit (.bool ((jSessions calls) == (rSessions calls))))) ?_
        refine rvc_case 68 ((jSessions calls) == (rSessions calls)) rfl (fun h25 => ?_) (fun h25 => ?_)
        ·
         replace hR := of_true h25 hR
         refine rvO C (sS (some calls.nil) eCall calls.D) ?_
         refine rvO C (sS (some recs.nil) eRecord recs.D) ?_
         refine rvc_open rfl rfl rfl (rexec_call hP C rfl rfl rfl (jAll_calls calls recs (by show recs.D.length ≤ 1000000; have := of_decide_eq_false h1; have := of_decide_eq_false h2; have := beq_iff_eq.1 h3; have := beq_iff_eq.1 h22; have := beq_iff_eq.1 h23; have := beq_iff_eq.1 h24; have := beq_iff_eq.1 h25; omega) (by show calls.D.length ≤ 1000000; have := of_decide_eq_false h1; have := of_decide_eq_false h2; have := beq_iff_eq.1 h3; have := beq_iff_eq.1 h22; have := beq_iff_eq.1 h23; have := beq_iff_eq.1 h24; have := beq_iff_eq.1 h25; omega)) ?_)
         refine rvO C (.pv (.lit (.bool false))) ?_
         refine rvO C (.pv (.lit (.bool ((jAll calls recs) == false)))) ?_
         refine rvP C (.pv (.lit (.bool ((jAll calls recs) == false)))) ?_
         refine rvP C (.pv (.lit (.bool ((jAll calls recs) == false)))) ?_
         refine rvc_case 75 ((jAll calls recs) == false) rfl (fun h26 => ?_) (fun h26 => ?_)
         ·
          replace hR := of_true h26 hR
          refine rvc_open rfl rfl rfl (rexec_call hP C rfl rfl rfl (awake_calls ) ?_)
          refine rvP C (.pv (.lit (.bool (awake )))) ?_
          refine rvP C (.pv (.lit (.bool (awake )))) ?_
          refine rvc_nil ?_
          refine Awp.ret ?_
          subst hR
          exact ⟨.inl rfl, rfl⟩
         ·
          replace hR := of_false h26 hR
          refine rvS ?_
          refine rvP C (.pv (.lit (.bool false))) ?_
          refine rvP C (.pv (.lit (.bool false))) ?_
          refine rvc_nil ?_
          refine Awp.ret ?_
          subst hR
          exact ⟨.inl rfl, rfl⟩
        ·
         replace hR := of_false h25 hR
         refine rvS ?_
         refine rvS ?_
         refine rvS ?_
         refine rvS ?_
         refine rvS ?_
         refine rvP C (.pv (.lit (.bool false))) ?_
         refine rvP C (.pv (.lit (.bool false))) ?_
         refine rvS ?_
         refine rvP C (.pv (.lit (.bool false))) ?_
         refine rvP C (.pv (.lit (.bool false))) ?_
         refine rvc_nil ?_
         refine Awp.ret ?_
         subst hR
         exact ⟨.inl rfl, rfl⟩
       ·
        replace hR := of_false h24 hR
        refine rvS ?_
        refine rvS ?_
        refine rvS ?_
        refine rvS ?_
        refine rvP C (.pv (.lit (.bool false))) ?_
        refine rvP C (.pv (.lit (.bool false))) ?_
        refine rvS ?_
        refine rvS ?_
        refine rvS ?_
        refine rvS ?_
        refine rvS ?_
        refine rvP C (.pv (.lit (.bool false))) ?_
        refine rvP C (.pv (.lit (.bool false))) ?_
        refine rvS ?_
        refine rvP C (.pv (.lit (.bool false))) ?_
        refine rvP C (.pv (.lit (.bool false))) ?_
        refine rvc_nil ?_
        refine Awp.ret ?_
        subst hR
        exact ⟨.inl rfl, rfl⟩
      ·
       replace hR := of_false h23 hR
       refine rvS ?_
       refine rvS ?_
       refine rvS ?_
       refine rvS ?_
       refine rvP C (.pv (.lit (.bool false))) ?_
       refine rvP C (.pv (.lit (.bool false))) ?_
       refine rvS ?_
       refine rvS ?_
       refine rvS ?_
       refine rvS ?_
       refine rvP C (.pv (.lit (.bool false))) ?_
       refine rvP C (.pv (.lit (.bool false))) ?_
       refine rvS ?_
       refine rvS ?_
       refine rvS ?_
       refine rvS ?_
       refine rvS ?_
       refine rvP C (.pv (.lit (.bool false))) ?_
       refine rvP C (.pv (.lit (.bool false))) ?_
       refine rvS ?_
       refine rvP C (.pv (.lit (.bool false))) ?_
       refine rvP C (.pv (.lit (.bool false))) ?_
       refine rvc_nil ?_
       refine Awp.ret ?_
       subst hR
       exact ⟨.inl rfl, rfl⟩
     ·
      replace hR := of_false h22 hR
      refine rvS ?_
      refine rvS ?_
      refine rvS ?_
      refine rvS ?_
      refine rvS ?_
      refine rvP C (.pv (.lit (.bool false))) ?_
      refine rvP C (.pv (.lit (.bool false))) ?_
      refine rvS ?_
      refine rvS ?_
      refine rvS ?_
      refine rvS ?_
      refine rvP C (.pv (.lit (.bool false))) ?_
      refine rvP C (.pv (.lit (.bool false))) ?_
      refine rvS ?_
      refine rvS ?_
      refine rvS ?_
      refine rvS ?_
      refine rvP C (.pv (.lit (.bool false))) ?_
      refine rvP C (.pv (.lit (.bool false))) ?_
      refine rvS ?_
      refine rvS ?_
      refine rvS ?_
      refine rvS ?_
      refine rvS ?_
      refine rvP C (.pv (.lit (.bool false))) ?_
      refine rvP C (.pv (.lit (.bool false))) ?_
      refine rvS ?_
      refine rvP C (.pv (.lit (.bool false))) ?_
      refine rvP C (.pv (.lit (.bool false))) ?_
      refine rvc_nil ?_
      refine Awp.ret ?_
      subst hR
      exact ⟨.inl rfl, rfl⟩
   ·
    replace hR := of_false h3 hR
    refine rvS ?_
    refine rvP C (.pv (.lit (.bool false))) ?_
    refine rvP C (.pv (.lit (.bool false))) ?_
    refine rvS ?_
    refine rvP C (.pv (.lit (.bool false))) ?_
    refine rvP C (.pv (.lit (.bool false))) ?_
    refine rvS ?_
    refine rvP C (.pv (.lit (.bool false))) ?_
    refine rvP C (.pv (.lit (.bool false))) ?_
    refine rvS ?_
    refine rvP C (.pv (.lit (.bool false))) ?_
    refine rvP C (.pv (.lit (.bool false))) ?_
    refine rvc_nil ?_
    refine Awp.consP C ?_
    refine rvP C (sS (some calls.nil) eCall calls.D) ?_
    refine rvP C (sS (some recs.nil) eRecord recs.D) ?_
    refine rvc_un (rexec_call hP C rfl rfl rfl (jStrong_calls calls recs (by show calls.D.length ≤ 1000000; have := of_decide_eq_false h1; have := of_decide_eq_false h2; have := ne_of_beq_false h3; omega) (by show recs.D.length ≤ 1000000; have := of_decide_eq_false h1; have := of_decide_eq_false h2; have := ne_of_beq_false h3; omega)) ?_)
    refine rvP C (.pv (.lit (.bool (rStrong calls recs)))) ?_
    refine rvP C (.pv (.lit (.bool ((jStrong calls recs) == (rStrong calls recs))))) ?_
    refine rvP C (.pv (.lit (.bool ((jStrong calls recs) == (rStrong calls recs))))) ?_
    refine rvc_case 49 ((jStrong calls recs) == (rStrong calls recs)) rfl (fun h27 => ?_) (fun h27 => ?_)
    ·
     replace hR := of_true h27 hR
     refine rvO C (sS (some calls.nil) eCall calls.D) ?_
     refine rvO C (sS (some recs.nil) eRecord recs.D) ?_
     refine rvc_open rfl rfl rfl (rexec_call hP C rfl rfl rfl (jValues_calls calls recs (by show recs.D.length ≤ 1000000; have := of_decide_eq_false h1; have := of_decide_eq_false h2; have := ne_of_beq_false h3; have := beq_iff_eq.1 h27; omega) (by show calls.D.length ≤ 1000000; have := of_decide_eq_false h1; have := of_decide_eq_false h2; have := ne_of_beq_false h3; have := beq_iff_eq.1 h27; omega)) ?_)
     refine rvO C (.pv (.lit (.bool (rValues calls recs)))) ?_
     refine rvO C (.pv (.lit (.bool ((jValues calls recs) == (rValues calls recs))))) ?_
     refine rvP C (.pv (.lit (.bool ((jValues calls recs) == (rValues calls recs))))) ?_
     refine rvP C (.pv (.lit (.bool ((jValues calls recs) == (rValues calls recs))))) ?_
     refine rvc_case 56 ((jValues calls recs) == (rValues calls recs)) rfl (fun h28 => ?_) (fun h28 => ?_)
     ·
      replace hR := of_true h28 hR
      refine rvO C (sS (some calls.nil) eCall calls.D) ?_
      refine rvc_open rfl rfl rfl (rexec_call hP C rfl rfl rfl (jBounds_calls calls (by show calls.D.length ≤ 1000000; have := of_decide_eq_false h1; have := of_decide_eq_false h2; have := ne_of_beq_false h3; have := beq_iff_eq.1 h27; have := beq_iff_eq.1 h28; omega)) ?_)
      refine rvO C (.pv (.lit (.bool (rBounds calls)))) ?_
      refine rvO C (.pv (.lit (.bool ((jBounds calls) == (rBounds calls))))) ?_
      refine rvP C (.pv (.lit (.bool ((jBounds calls) == (rBounds calls))))) ?_
      refine rvP C (.pv (.lit (.bool ((jBounds calls) == (rBounds calls))))) ?_
      refine rvc_case 62 ((jBounds calls) == (rBounds calls)) rfl (fun h29 => ?_) (fun h29 => ?_)
      ·
       replace hR := of_true h29 hR
       refine rvO C (sS (some calls.nil) eCall calls.D) ?_
       refine rvc_open rfl rfl rfl (rexec_call hP C rfl rfl rfl (jSessions_calls calls (by show calls.D.length ≤ 1000000; have := of_decide_eq_false h1; have := of_decide_eq_false h2; have := ne_of_beq_false h3; have := beq_iff_eq.1 h27; have := beq_iff_eq.1 h28; have := beq_iff_eq.1 h29; omega)) ?_)
       refine rvO C (.pv (.lit (.bool (rSessions calls)))) ?_
       refine rvO C (.pv (.lit (.bool ((jSessions calls) == (rSessions calls))))) ?_
       refine rvP C (.pv (.lit (.bool ((jSessions calls) == (rSessions calls))))) ?_
       refine rvP C (.pv (.lit (.bool ((jSessions calls) == (rSessions calls))))) ?_
       refine rvc_case 68 ((jSessions calls) == (rSessions calls)) rfl (fun h30 => ?_) (fun h30 => ?_)
       ·
        replace hR := of_true h30 hR
        refine rvO C (sS (some calls.nil) eCall calls.D) ?_
        refine rvO C (sS (some recs.nil) eRecord recs.D) ?_
        refine rvc_open rfl rfl rfl (rexec_call hP C rfl rfl rfl (jAll_calls calls recs (by show recs.D.length ≤ 1000000; have := of_decide_eq_false h1; have := of_decide_eq_false h2; have := ne_of_beq_false h3; have := beq_iff_eq.1 h27; have := beq_iff_eq.1 h28; have := beq_iff_eq.1 h29; have := beq_iff_eq.1 h30; omega) (by show calls.D.length ≤ 1000000; have := of_decide_eq_false h1; have := of_decide_eq_false h2; have := ne_of_beq_false h3; have := beq_iff_eq.1 h27; have := beq_iff_eq.1 h28; have := beq_iff_eq.1 h29; have := beq_iff_eq.1 h30; omega)) ?_)
        refine rvO C (.pv (.lit (.bool false))) ?_
        refine rvO C (.pv (.lit (.bool ((jAll calls recs) == false)))) ?_
        refine rvP C (.pv (.lit (.bool ((jAll calls recs) == false)))) ?_
        refine rvP C (.pv (.lit (.bool ((jAll calls recs) == false)))) ?_
        refine rvc_case 75 ((jAll calls recs) == false) rfl (fun h31 => ?_) (fun h31 => ?_)
        ·
         replace hR := of_true h31 hR
         refine rvc_open rfl rfl rfl (rexec_call hP C rfl rfl rfl (awake_calls ) ?_)
         refine rvP C (.pv (.lit (.bool (awake )))) ?_
         refine rvP C (.pv (.lit (.bool (awake )))) ?_
         refine rvc_nil ?_
         refine Awp.ret ?_
         subst hR
         exact ⟨.inl rfl, rfl⟩
        ·
         replace hR := of_false h31 hR
         refine rvS ?_
         refine rvP C (.pv (.lit (.bool false))) ?_
         refine rvP C (.pv (.lit (.bool false))) ?_
         refine rvc_nil ?_
         refine Awp.ret ?_
         subst hR
         exact ⟨.inl rfl, rfl⟩
       ·
        replace hR := of_false h30 hR
        refine rvS ?_
        refine rvS ?_
        refine rvS ?_
        refine rvS ?_
        refine rvS ?_
        refine rvP C (.pv (.lit (.bool false))) ?_
        refine rvP C (.pv (.lit (.bool false))) ?_
        refine rvS ?_
        refine rvP C (.pv (.lit (.bool false))) ?_
        refine rvP C (.pv (.lit (.bool false))) ?_
        refine rvc_nil ?_
        refine Awp.ret ?_
        subst hR
        exact ⟨.inl rfl, rfl⟩
      ·
       replace hR := of_false h29 hR
       refine rvS ?_
       refine rvS ?_
       refine rvS ?_
       refine rvS ?_
       refine rvP C (.pv (.lit (.bool false))) ?_
       refine rvP C (.pv (.lit (.bool false))) ?_
       refine rvS ?_
       refine rvS ?_
       refine rvS ?_
       refine rvS ?_
       refine rvS ?_
       refine rvP C (.pv (.lit (.bool false))) ?_
       refine rvP C (.pv (.lit (.bool false))) ?_
       refine rvS ?_
       refine rvP C (.pv (.lit (.bool false))) ?_
       refine rvP C (.pv (.lit (.bool false))) ?_
       refine rvc_nil ?_
       refine Awp.ret ?_
       subst hR
       exact ⟨.inl rfl, rfl⟩
     ·
      replace hR := of_false h28 hR
      refine rvS ?_
      refine rvS ?_
      refine rvS ?_
      refine rvS ?_
      refine rvP C (.pv (.lit (.bool false))) ?_
      refine rvP C (.pv (.lit (.bool false))) ?_
      refine rvS ?_
      refine rvS ?_
      refine rvS ?_
      refine rvS ?_
      refine rvP C (.pv (.lit (.bool false))) ?_
      refine rvP C (.pv (.lit (.bool false))) ?_
      refine rvS ?_
      refine rvS ?_
      refine rvS ?_
      refine rvS ?_
      refine rvS ?_
      refine rvP C (.pv (.lit (.bool false))) ?_
      refine rvP C (.pv (.lit (.bool false))) ?_
      refine rvS ?_
      refine rvP C (.pv (.lit (.bool false))) ?_
      refine rvP C (.pv (.lit (.bool false))) ?_
      refine rvc_nil ?_
      refine Awp.ret ?_
      subst hR
      exact ⟨.inl rfl, rfl⟩
    ·
     replace hR := of_false h27 hR
     refine rvS ?_
     refine rvS ?_
     refine rvS ?_
     refine rvS ?_
     refine rvS ?_
     refine rvP C (.pv (.lit (.bool false))) ?_
     refine rvP C (.pv (.lit (.bool false))) ?_
     refine rvS ?_
     refine rvS ?_
     refine rvS ?_
     refine rvS ?_
     refine rvP C (.pv (.lit (.bool false))) ?_
     refine rvP C (.pv (.lit (.bool false))) ?_
     refine rvS ?_
     refine rvS ?_
     refine rvS ?_
     refine rvS ?_
     refine rvP C (.pv (.lit (.bool false))) ?_
     refine rvP C (.pv (.lit (.bool false))) ?_
     refine rvS ?_
     refine rvS ?_
     refine rvS ?_
     refine rvS ?_
     refine rvS ?_
     refine rvP C (.pv (.lit (.bool false))) ?_
     refine rvP C (.pv (.lit (.bool false))) ?_
     refine rvS ?_
     refine rvP C (.pv (.lit (.bool false))) ?_
     refine rvP C (.pv (.lit (.bool false))) ?_
     refine rvc_nil ?_
     refine Awp.ret ?_
     subst hR
     exact ⟨.inl rfl, rfl⟩
theorem lawTells_true {calls : Sl Call} {recs : Sl Record} (w : WT27 calls) : lawTells calls recs = true := by
  unfold lawTells
  rw [awake_true]
  cases h1 : decide ((calls.D.length : Int) > 60)
  · have h1 := of_decide_eq_false h1
    have e1 := strong_eq recs (by omega) (calls_b8 w)
    have e2 := values_eq calls recs
    have e3 := bounds_eq (calls_i64 w)
    have e4 := sessions_eq calls
    have e5 : jAll calls recs = (bif rRight recs == 0 then bif rStrong calls recs then bif rValues calls recs then bif rBounds calls then rSessions calls else false else false else false else false) := by
      unfold jAll; rw [right_eq, e1, e2, e3, e4]
    rw [e1, e2, e3, e4, e5]
    generalize rStrong calls recs = s
    generalize rValues calls recs = v
    generalize rBounds calls = b
    generalize rSessions calls = n
    generalize (rRight recs == 0) = r
    cases decide ((recs.D.length : Int) > 60) <;> cases r <;> cases s <;> cases v <;> cases b <;> cases n <;> rfl
  · rfl
theorem judgeTells_calls (calls : Sl Call) (w : WT27 calls) (recs : Sl Record) (w2 : WT22 recs) : PCalls Try.prog 4 [sS (some calls.nil) eCall calls.D, sS (some recs.nil) eRecord recs.D] (.pv (.lit (.bool true))) := by
  have h := lawTells_calls calls recs (big_le w.1) (big_le w2.1)
  rw [lawTells_true w] at h
  exact h
theorem own : ownKnob Try.prog.godebug = none := by kernel_rfl
theorem laidOut : laidOutB Try.prog = true := by kernel_rfl
end Go.Proofs.Ytoieegmebadfkaa
