import Derived.Test.YthnghkkbnhjlgaaDoorM1
import Derived.Test.YthnghkkbnhjlgaaDoorM2
import Derived.Test.YthnghkkbnhjlgaaDoorM3
import Derived.Test.YthnghkkbnhjlgaaDoorM4
/- Passes made. No conditions. -/
namespace Go.Proofs.YthnghkkbnhjlgaaDoor
open Go.Am
def pMake (key : (Sl Int)) (l : (Sl Seen)) : (Sl Int) × Int :=
  (bif ((pRight l) != 0) then ((Sl.mk true []), (pRight l)) else (bif (((markR key (Sl.mk false (bodyO l))).2) != 0) then ((Sl.mk true []), (markR key (Sl.mk false (bodyO l))).2) else (bif ((l.D.length : Int) == 0) then ((Sl.mk true []), (markR key (Sl.mk false (bodyO l))).2) else ((Sl.mk false ((bodyO l) ++ ((markR key (Sl.mk false (bodyO l))).1.D))), 0))))
theorem pMake_calls (key : (Sl Int)) (l : (Sl Seen)) (hl : ∀ x ∈ l.D, KeyB x.key) (hl1 : l.D.length ≤ 1000) : PCalls Tryd.prog 15 [sS (some key.nil) (eI .u8) key.D, sS (some l.nil) eSeen l.D] (.tup [sS (some (pMake key l).1.nil) (eI .u8) ((pMake key l).1.D), .pv (.lit (.int .i64 ((pMake key l).2)))]) := by
 generalize hR : pMake key l = R
 refine PCalls.of_body tabOk Tryd.func15 rfl rfl rfl rfl rfl mixed fun E hP C hI => ?_
 refine Awp.consP C ?_
 refine rvP C (sS (some true) (eI .u8) []) ?_
 refine rvP C (.pv (.lit (.int .i64 0))) ?_
 refine rvc_nil ?_
 refine Awp.seq ?_
 refine Awp.consP C ?_
 refine rvP C (sS (some l.nil) eSeen l.D) ?_
 refine rvc_un (rexec_call hP C rfl rfl rfl (pRight_calls l hl (Nat.le_trans hl1 (by decide))) ?_)
 refine rvP C (.pv (.lit (.int .i64 (pRight l)))) ?_
 refine rvc_nil ?_
 refine Awp.consP C ?_
 refine rvP C (.pv (.lit (.int .i64 (pRight l)))) ?_
 refine rvP C (.pv (.lit (.bool ((pRight l) != 0)))) ?_
 refine rvc_nil ?_
 refine Awp.cond (b := ((pRight l) != 0)) rfl (fun h1 => ?_) (fun h1 => ?_)
 ·
  replace hR := of_true h1 hR
  refine Awp.consP C ?_
  refine rvP C (.pv (.lit (.int .i64 (pRight l)))) ?_
  refine rvP C (sS (some true) (eI .u8) []) ?_
  refine rvP C (.pv (.lit (.int .i64 (pRight l)))) ?_
  refine rvc_nil ?_
  refine Awp.ret ?_
  subst hR
  exact ⟨.inl rfl, rfl⟩
 ·
  replace hR := of_false h1 hR
  refine Awp.skip ?_
  refine Awp.cons C (fun _ => .quiet) (by kernel_rfl) ?_
  refine rvP C (sS (some l.nil) eSeen l.D) ?_
  refine rvc_un (rexec_callO hP C rfl rfl rfl rfl (bodyO_calls l hl1) ?_)
  refine rvP C (.sl 16 0 ((bodyO l).length) 1 false) ?_
  refine rvc_nil ?_
  refine Awp.cons C (fun _ => .writer) (by kernel_rfl) ?_
  refine rvP C (sS (some key.nil) (eI .u8) key.D) ?_
  refine rvP C (.sl 16 0 ((bodyO l).length) 1 false) ?_
  refine rvc_un (rexec_callM hP C (b := 16) rfl rfl rfl (markR_calls key (Sl.mk false (bodyO l)) ((bodyO l).length) false rfl (by have := bodyO_len l; show (bodyO l).length ≤ 1000000; omega)) rfl rfl ?_)
  refine rvP C (.tup [sS (some (markR key (Sl.mk false (bodyO l))).1.nil) (eI .u8) ((markR key (Sl.mk false (bodyO l))).1.D), .pv (.lit (.int .i64 ((markR key (Sl.mk false (bodyO l))).2)))]) ?_
  refine rvP C (sS (some (markR key (Sl.mk false (bodyO l))).1.nil) (eI .u8) ((markR key (Sl.mk false (bodyO l))).1.D)) ?_
  refine rvP C (.pv (.lit (.int .i64 ((markR key (Sl.mk false (bodyO l))).2)))) ?_
  refine rvP C (sS (some (markR key (Sl.mk false (bodyO l))).1.nil) (eI .u8) ((markR key (Sl.mk false (bodyO l))).1.D)) ?_
  refine rvP C (.pv (.lit (.int .i64 ((markR key (Sl.mk false (bodyO l))).2)))) ?_
  refine rvc_nil ?_
  refine Awp.seq ?_
  refine Awp.consP C ?_
  refine rvP C (.pv (.lit (.int .i64 ((markR key (Sl.mk false (bodyO l))).2)))) ?_
  refine rvP C (.pv (.lit (.bool (((markR key (Sl.mk false (bodyO l))).2) != 0)))) ?_
  refine rvP C (.pv (.lit (.bool (((markR key (Sl.mk false (bodyO l))).2) != 0)))) ?_
  refine rvc_case 25 (((markR key (Sl.mk false (bodyO l))).2) != 0) rfl (fun h2 => ?_) (fun h2 => ?_)
  ·
   replace hR := of_true h2 hR
   refine rvS ?_
   refine rvS ?_
   refine rvS ?_
   refine rvP C (.pv (.lit (.bool true))) ?_
   refine rvc_nil ?_
   refine Awp.condT (b := true) rfl rfl ?_
   refine Awp.consP C ?_
   refine rvP C (.pv (.lit (.int .i64 ((markR key (Sl.mk false (bodyO l))).2)))) ?_
   refine rvP C (sS (some true) (eI .u8) []) ?_
   refine rvP C (.pv (.lit (.int .i64 ((markR key (Sl.mk false (bodyO l))).2)))) ?_
   refine rvc_nil ?_
   refine Awp.ret ?_
   subst hR
   exact ⟨.inl rfl, rfl⟩
  ·
   replace hR := of_false h2 hR
   refine rvO C (sS (some l.nil) eSeen l.D) ?_
   refine rvO C (.pv (.lit (.int .i64 (l.D.length : Int)))) ?_
   refine rvO C (.pv (.lit (.bool ((l.D.length : Int) == 0)))) ?_
   refine rvP C (.pv (.lit (.bool ((l.D.length : Int) == 0)))) ?_
   refine rvc_nil ?_
   refine Awp.cond (b := ((l.D.length : Int) == 0)) rfl (fun h3 => ?_) (fun h3 => ?_)
   ·
    replace hR := of_true h3 hR
    refine Awp.consP C ?_
    refine rvP C (.pv (.lit (.int .i64 ((markR key (Sl.mk false (bodyO l))).2)))) ?_
    refine rvP C (sS (some true) (eI .u8) []) ?_
    refine rvP C (.pv (.lit (.int .i64 ((markR key (Sl.mk false (bodyO l))).2)))) ?_
    refine rvc_nil ?_
    refine Awp.ret ?_
    subst hR
    exact ⟨.inl rfl, rfl⟩
   ·
    replace hR := of_false h3 hR
    refine Awp.skip ?_
    refine Awp.consP C ?_
    refine rvP C (.sl 16 0 ((bodyO l).length) 1 false) ?_
    refine rvP C (sS (some (markR key (Sl.mk false (bodyO l))).1.nil) (eI .u8) ((markR key (Sl.mk false (bodyO l))).1.D)) ?_
    refine rvc_un (rexec_append C rfl rfl rfl rfl rfl rfl rfl rfl (fun _ h => by cases h) rfl (en := (eI .u8)) (D0 := (bodyO l)) (D := ((markR key (Sl.mk false (bodyO l))).1.D)) rfl rfl rfl rfl (by have := bodyO_len l; rw [markR_len]; show (2 * ((bodyO l).length + 8) + 192) * 1 ≤ 281474976710656; omega) (by decide) (nn := ((bodyO l) ++ ((markR key (Sl.mk false (bodyO l))).1.D)).length) (by simp) ?_)
    refine rvP C (.sl 33 0 (((bodyO l) ++ ((markR key (Sl.mk false (bodyO l))).1.D)).length) 1 false) ?_
    refine rvP C (.pv (.lit (.int .i64 0))) ?_
    refine rvc_nil ?_
    refine Awp.freezeW 33 (encL (eI .u8) ((bodyO l) ++ ((markR key (Sl.mk false (bodyO l))).1.D))) ?_ [(4, sS (some false) (eI .u8) ((bodyO l) ++ ((markR key (Sl.mk false (bodyO l))).1.D))), (5, .pv (.lit (.int .i64 0)))] [] ?_ ?_ ?_
    · rfl
    · exact ⟨⟨_, rfl, .inl (.inr ⟨_, _, _, rfl, rfl⟩)⟩, ⟨_, rfl, .inl (.inl rfl)⟩, trivial⟩
    · exact trivial
    refine Awp.ret ?_
    subst hR
    exact ⟨.inl rfl, rfl⟩
def unword_l0 (w : Int) : Nat → Nat → (Nat → Int) → (Nat → Int)
  | 0, _, vc => vc
  | k + 1, i, vc => unword_l0 w k (i + 1) (updA vc i (IntKind.u8.wrap (shrI .u64 w (IntKind.i64.wrap (56 - (IntKind.i64.wrap (8 * (i : Int))))))))
def unword (w : Int) : (Nat → Int) :=
  unword_l0 w 8 0 (ofL [(0 : Int), 0, 0, 0, 0, 0, 0, 0])
theorem unword_calls (w : Int)  : PCalls Tryd.prog 39 [.pv (.lit (.int .u64 w))] (.agg [.pv (.lit (.int .u8 ((unword w) 0))), .pv (.lit (.int .u8 ((unword w) 1))), .pv (.lit (.int .u8 ((unword w) 2))), .pv (.lit (.int .u8 ((unword w) 3))), .pv (.lit (.int .u8 ((unword w) 4))), .pv (.lit (.int .u8 ((unword w) 5))), .pv (.lit (.int .u8 ((unword w) 6))), .pv (.lit (.int .u8 ((unword w) 7)))]) := by
 generalize hR : unword w = R
 refine PCalls.of_body tabOk Tryd.func39 rfl rfl rfl rfl rfl mixed fun E hP C hI => ?_
 refine Awp.consP C ?_
 refine rvc_un (rexec_prim C (δ := { v := .ptr 2 0, new := [(2, .cells [.pv (.lit (.int .u8 0)), .pv (.lit (.int .u8 0)), .pv (.lit (.int .u8 0)), .pv (.lit (.int .u8 0)), .pv (.lit (.int .u8 0)), .pv (.lit (.int .u8 0)), .pv (.lit (.int .u8 0)), .pv (.lit (.int .u8 0))])] }) rfl rfl rfl rfl trivial rfl ?_)
 refine rvc_nil ?_
 refine Awp.consP C ?_
 refine rvc_un (rexec_prim C (δ := { v := .ptr 3 0, new := [(3, .cells [.pv (.lit (.int .u8 0)), .pv (.lit (.int .u8 0)), .pv (.lit (.int .u8 0)), .pv (.lit (.int .u8 0)), .pv (.lit (.int .u8 0)), .pv (.lit (.int .u8 0)), .pv (.lit (.int .u8 0)), .pv (.lit (.int .u8 0))])] }) rfl rfl rfl rfl trivial rfl ?_)
 refine rvc_nil ?_
 refine Awp.seq ?_
 refine Awp.consP C ?_
 refine rvP C (.pv (.lit (.int .i64 0))) ?_
 refine rvc_nil ?_
 refine Awp.block ?_
 refine Awp.forR (σ := ((Nat → Int))) (8) (fun i v => [(0, .pv (.lit (.int .u64 w))), (2, .ptr 2 0), (3, .ptr 3 0), (5, .pv (.lit (.int .i64 (i : Int))))]) (fun i v => [(2, .cells [.pv (.lit (.int .u8 0)), .pv (.lit (.int .u8 0)), .pv (.lit (.int .u8 0)), .pv (.lit (.int .u8 0)), .pv (.lit (.int .u8 0)), .pv (.lit (.int .u8 0)), .pv (.lit (.int .u8 0)), .pv (.lit (.int .u8 0))]), (3, .cells [.pv (.lit (.int .u8 (v 0))), .pv (.lit (.int .u8 (v 1))), .pv (.lit (.int .u8 (v 2))), .pv (.lit (.int .u8 (v 3))), .pv (.lit (.int .u8 (v 4))), .pv (.lit (.int .u8 (v 5))), .pv (.lit (.int .u8 (v 6))), .pv (.lit (.int .u8 (v 7)))])]) [2, 3] (fun i v => unword_l0 w (8 - i) i v = R) (ofL [(0 : Int), 0, 0, 0, 0, 0, 0, 0]) ?_ ?_ (fun i vc h1 hR => ?_)
 · exact hR
 · exact ⟨fun b => b, WeakerR.ofL (Ks := [2, 3]) hI ⟨⟨rfl, rfl⟩, ⟨rfl, rfl⟩, ⟨rfl, rfl⟩, ⟨rfl, rfl⟩, trivial⟩ (okH_cons rfl rfl rfl rfl (okH_cons rfl rfl rfl rfl (okH_nil))) rfl⟩
 refine Awp.consP C ?_
 refine rvP C (.pv (.lit (.bool (decide ((i : Int) < 8))))) ?_
 refine rvc_nil ?_
 refine Awp.seq ?_
 refine Awp.cond (b := (decide ((i : Int) < 8))) rfl (fun h2 => ?_) (fun h2 => ?_)
 ·
  have h3 : i < 8 := by have := of_decide_eq_true h2; omega
  obtain ⟨k, h4⟩ : ∃ k, 8 - i = k + 1 := ⟨8 - i - 1, by omega⟩
  rw [h4] at hR
  refine Awp.skip ?_
  refine Awp.seq ?_
  refine Awp.block ?_
  refine Awp.consP C ?_
  refine rvP C (.pv (.lit (.int .i64 (i : Int)))) ?_
  refine rvP C (.pv (.lit (.int .i64 (i : Int)))) ?_
  refine rvc_nil ?_
  refine Awp.regionP C ?_
  refine rvP C (.pv (.lit (.int .i64 (i : Int)))) ?_
  refine rvP C (.pv (.lit (.int .u64 w))) ?_
  refine rvP C (.pv (.lit (.int .i64 (i : Int)))) ?_
  refine rvP C (.pv (.lit (.int .i64 (IntKind.i64.wrap (8 * (i : Int)))))) ?_
  refine rvP C (.pv (.lit (.int .i64 (IntKind.i64.wrap (56 - (IntKind.i64.wrap (8 * (i : Int)))))))) ?_
  refine rvc_un (rexec_prim C (δ := { v := .pv (.lit (.int .u64 (shrI .u64 w (IntKind.i64.wrap (56 - (IntKind.i64.wrap (8 * (i : Int)))))))) }) rfl rfl rfl rfl (by have := wrapI (8 * (i : Int)); have := wrapI (56 - IntKind.i64.wrap (8 * (i : Int))); omega) rfl ?_)
  refine rvP C (.pv (.lit (.int .u8 (IntKind.u8.wrap (shrI .u64 w (IntKind.i64.wrap (56 - (IntKind.i64.wrap (8 * (i : Int)))))))))) ?_
  refine rvc_un (rexec_prim C (δ := { v := .ptr 3 (0 + i * 1) }) rfl rfl rfl rfl ⟨(by have := of_decide_eq_true h2; omega), (by have := of_decide_eq_true h2; omega)⟩ rfl ?_)
  refine rvc_un (rexec_storeA C [] [] (fun z => .lit (.int .u8 z)) vc 8 i (IntKind.u8.wrap (shrI .u64 w (IntKind.i64.wrap (56 - (IntKind.i64.wrap (8 * (i : Int))))))) [.pv (.lit (.int .u8 ((updA vc i (IntKind.u8.wrap (shrI .u64 w (IntKind.i64.wrap (56 - (IntKind.i64.wrap (8 * (i : Int)))))))) 0))), .pv (.lit (.int .u8 ((updA vc i (IntKind.u8.wrap (shrI .u64 w (IntKind.i64.wrap (56 - (IntKind.i64.wrap (8 * (i : Int)))))))) 1))), .pv (.lit (.int .u8 ((updA vc i (IntKind.u8.wrap (shrI .u64 w (IntKind.i64.wrap (56 - (IntKind.i64.wrap (8 * (i : Int)))))))) 2))), .pv (.lit (.int .u8 ((updA vc i (IntKind.u8.wrap (shrI .u64 w (IntKind.i64.wrap (56 - (IntKind.i64.wrap (8 * (i : Int)))))))) 3))), .pv (.lit (.int .u8 ((updA vc i (IntKind.u8.wrap (shrI .u64 w (IntKind.i64.wrap (56 - (IntKind.i64.wrap (8 * (i : Int)))))))) 4))), .pv (.lit (.int .u8 ((updA vc i (IntKind.u8.wrap (shrI .u64 w (IntKind.i64.wrap (56 - (IntKind.i64.wrap (8 * (i : Int)))))))) 5))), .pv (.lit (.int .u8 ((updA vc i (IntKind.u8.wrap (shrI .u64 w (IntKind.i64.wrap (56 - (IntKind.i64.wrap (8 * (i : Int)))))))) 6))), .pv (.lit (.int .u8 ((updA vc i (IntKind.u8.wrap (shrI .u64 w (IntKind.i64.wrap (56 - (IntKind.i64.wrap (8 * (i : Int)))))))) 7)))] rfl rfl rfl rfl rfl rfl (by have := of_decide_eq_true h2; omega) rfl ?_)
  refine rvc_nil ?_
  refine Awp.regionP C ?_
  refine rvP C (.pv (.lit (.int .i64 (IntKind.i64.wrap ((i : Int) + 1))))) ?_
  refine rvP C (.pv (.lit (.int .i64 (IntKind.i64.wrap ((i : Int) + 1))))) ?_
  refine rvc_nil ?_
  refine ⟨h3, (updA vc i (IntKind.u8.wrap (shrI .u64 w (IntKind.i64.wrap (56 - (IntKind.i64.wrap (8 * (i : Int)))))))), ?_, ?_⟩
  · exact (by rw [show 8 - (i + 1) = k by omega]; exact hR)
  · exact ⟨fun b => b, WeakerR.ofL (Ks := [2, 3]) hI ⟨⟨rfl, rfl⟩, ⟨rfl, rfl⟩, ⟨rfl, rfl⟩, ⟨lit_cast (wrap_i64 (by omega) (by omega)), rfl⟩, trivial⟩ (okH_cons rfl rfl rfl rfl (okH_cons rfl rfl rfl rfl (okH_nil))) rfl⟩
 ·
  rw [show 8 - i = 0 by have := of_decide_eq_false h2; omega] at hR
  refine Awp.exit ?_
  refine Awp.consP C ?_
  refine rvP C (.agg [.pv (.lit (.int .u8 (vc 0))), .pv (.lit (.int .u8 (vc 1))), .pv (.lit (.int .u8 (vc 2))), .pv (.lit (.int .u8 (vc 3))), .pv (.lit (.int .u8 (vc 4))), .pv (.lit (.int .u8 (vc 5))), .pv (.lit (.int .u8 (vc 6))), .pv (.lit (.int .u8 (vc 7)))]) ?_
  refine rvc_un (rexec_prim C (δ := { v := .undef, wr := [(2, some (.cells [.pv (.lit (.int .u8 (vc 0))), .pv (.lit (.int .u8 (vc 1))), .pv (.lit (.int .u8 (vc 2))), .pv (.lit (.int .u8 (vc 3))), .pv (.lit (.int .u8 (vc 4))), .pv (.lit (.int .u8 (vc 5))), .pv (.lit (.int .u8 (vc 6))), .pv (.lit (.int .u8 (vc 7)))]))] }) rfl rfl rfl rfl trivial rfl ?_)
  refine rvc_nil ?_
  refine Awp.ret ?_
  subst hR
  exact ⟨.inl rfl, rfl⟩
/-- So many of what was seen, out of bytes; and what is left. -/
def decS : Nat → List Int → Option (List Seen × List Int)
  | 0, l => some ([], l)
  | n + 1, l => match vd 0 l with
    | none => none
    | some (w, r) => match rin 1 1099511627776 r with
      | none => none
      | some (v, r2) => match decS n r2 with
        | none => none
        | some (xs, r3) => some (Seen.mk (unw (w : Int)) (v : Int) :: xs, r3)
def back (x : Seen) : Seen := Seen.mk (unw (word x.key)) x.ver
theorem rin_some {lo hi : Int} {l : List Int} {n : Nat} {r : List Int} (h : rin lo hi l = some (n, r)) : vd 0 l = some (n, r) ∧ (n : Int) ≤ 4611686018427387904 ∧ lo ≤ (n : Int) ∧ (n : Int) ≤ hi := by
  unfold rin at h
  cases hv : vd 0 l with
  | none => rw [hv] at h; cases h
  | some q =>
    obtain ⟨m, s⟩ := q
    rw [hv] at h
    dsimp only at h
    by_cases hc : (m : Int) ≤ 4611686018427387904 ∧ lo ≤ (m : Int) ∧ (m : Int) ≤ hi
    · rw [if_pos hc] at h
      injection h with h; injection h with h1 h2
      subst h1; subst h2
      exact ⟨rfl, hc⟩
    · rw [if_neg hc] at h; cases h
theorem decS_enc : ∀ (xs : List Seen) (r : List Int), (∀ x ∈ xs, 1 ≤ x.ver ∧ x.ver ≤ 1099511627776) → decS xs.length (encS xs ++ r) = some (xs.map back, r)
  | [], r, _ => rfl
  | x :: xs, r, h => by
    have hx := h x (by simp)
    have hw := word_ok x.key
    have e1 : vd 0 (vb (word x.key).toNat ++ (vb (IntKind.u64.wrap x.ver).toNat ++ (encS xs ++ r))) = some ((word x.key).toNat, vb (IntKind.u64.wrap x.ver).toNat ++ (encS xs ++ r)) := vb_vd _ 0 _ (by omega) (fun q => absurd q (Nat.lt_irrefl 0))
    have hv : IntKind.u64.wrap x.ver = x.ver := by rw [wrapU]; omega
    have e2 : vd 0 (vb x.ver.toNat ++ (encS xs ++ r)) = some (x.ver.toNat, encS xs ++ r) := vb_vd _ 0 _ (by omega) (fun q => absurd q (Nat.lt_irrefl 0))
    have e3 : rin 1 1099511627776 (vb x.ver.toNat ++ (encS xs ++ r)) = some (x.ver.toNat, encS xs ++ r) := by
      unfold rin
      rw [e2]
      dsimp only
      rw [if_pos (by omega)]
    rw [hv] at e1
    show decS (xs.length + 1) (vb (word x.key).toNat ++ (vb (IntKind.u64.wrap x.ver).toNat ++ encS xs) ++ r) = _
    rw [hv, List.append_assoc, List.append_assoc]
    unfold decS
    rw [e1]
    dsimp only
    rw [e3]
    dsimp only
    rw [decS_enc xs r fun y hy => h y (by simp [hy])]
    dsimp only
    rw [Int.toNat_of_nonneg hw.1, Int.toNat_of_nonneg (by omega)]
    rfl
theorem enc_decS : ∀ (n : Nat) (l : List Int) (xs : List Seen) (r : List Int), (∀ x ∈ l, 0 ≤ x ∧ x < 256) → decS n l = some (xs, r) → l = encS xs ++ r ∧ xs.length = n ∧ KB xs ∧ (∀ x ∈ xs, 1 ≤ x.ver ∧ x.ver ≤ 1099511627776) ∧ xs.map back = xs
  | 0, l, xs, r, _, h => by
    unfold decS at h
    injection h with h; injection h with h1 h2
    subst h1; subst h2
    exact ⟨rfl, rfl, (fun x hx => nomatch hx), (fun x hx => nomatch hx), rfl⟩
  | n + 1, l, xs, r, hD, h => by
    unfold decS at h
    cases e1 : vd 0 l with
    | none => rw [e1] at h; cases h
    | some q =>
      obtain ⟨w, r1⟩ := q
      rw [e1] at h
      dsimp only at h
      obtain ⟨f1, _, f3⟩ := vd_vb 0 l w r1 hD e1
      have hD1 : ∀ x ∈ r1, 0 ≤ x ∧ x < 256 := fun x hx => hD x (by rw [f1]; simp [hx])
      cases e2 : rin 1 1099511627776 r1 with
      | none => rw [e2] at h; cases h
      | some q =>
        obtain ⟨v, r2⟩ := q
        rw [e2] at h
        dsimp only at h
        obtain ⟨g1, g2, g3, g4⟩ := rin_some e2
        obtain ⟨k1, _, _⟩ := vd_vb 0 r1 v r2 hD1 g1
        have hD2 : ∀ x ∈ r2, 0 ≤ x ∧ x < 256 := fun x hx => hD1 x (by rw [k1]; simp [hx])
        cases e3 : decS n r2 with
        | none => rw [e3] at h; cases h
        | some q =>
          obtain ⟨ys, r3⟩ := q
          rw [e3] at h
          dsimp only at h
          injection h with h; injection h with h1 h2
          subst h1; subst h2
          obtain ⟨i1, i2, i3, i4, i5⟩ := enc_decS n r2 ys r3 hD2 e3
          have hw : word (unw (w : Int)) = (w : Int) := word_unw (by omega) (by omega)
          refine ⟨?_, by rw [List.length_cons, i2], ?_, ?_, ?_⟩
          · unfold encS
            have hv : IntKind.u64.wrap (v : Int) = (v : Int) := by rw [wrapU]; omega
            dsimp only
            rw [hw, hv, Int.toNat_natCast, Int.toNat_natCast, List.append_assoc, List.append_assoc, ← i1, ← k1, ← f1]
          · intro x hx
            rcases List.mem_cons.1 hx with rfl | hx
            · exact unw_B _
            · exact i3 x hx
          · intro x hx
            rcases List.mem_cons.1 hx with rfl | hx
            · exact ⟨g3, g4⟩
            · exact i4 x hx
          · rw [List.map_cons, i5]
            unfold back
            dsimp only
            rw [hw]
theorem unword_l0_at (w : Int) : ∀ (k i : Nat) (vc : Nat → Int) (t : Nat), k + i = 8 → unword_l0 w k i vc t = if i ≤ t ∧ t < 8 then unw w t else vc t
  | 0, i, vc, t, h => by
    unfold unword_l0
    rw [if_neg (by omega)]
  | k + 1, i, vc, t, h => by
    unfold unword_l0
    rw [unword_l0_at w k (i + 1) _ t (by omega)]
    by_cases h1 : i + 1 ≤ t ∧ t < 8
    · rw [if_pos h1, if_pos ⟨by omega, h1.2⟩]
    · rw [if_neg h1]
      unfold updA
      by_cases h2 : t = i
      · subst h2
        have e : IntKind.i64.wrap (56 - (IntKind.i64.wrap (8 * (t : Int)))) = ((56 - 8 * t : Nat) : Int) := by
          have := wrapI (8 * (t : Int)); have := wrapI (56 - IntKind.i64.wrap (8 * (t : Int))); omega
        rw [show (t == t) = true from beq_self_eq_true t, cond_true, if_pos ⟨Nat.le_refl _, by omega⟩, e]; rfl
      · rw [show (t == i) = false by simpa using h2, cond_false, if_neg (by omega)]
theorem unword_at (w : Int) {t : Nat} (ht : t < 8) : unword w t = unw w t := by
  unfold unword
  rw [unword_l0_at w 8 0 _ t rfl, if_pos ⟨Nat.zero_le _, ht⟩]
theorem unword_B (w : Int) : KeyB (unword w) := fun j hj => by rw [unword_at w hj]; exact unw_B w j hj
theorem kL_unword (w : Int) : kL (unword w) = kL (unw w) := tbF_congr 8 0 fun t _ ht => unword_at w (by omega)
theorem KB_snoc {l : List Seen} {k : Nat → Int} {v : Int} (h : KB l) (hk : KeyB k) : KB (l ++ [Seen.mk k v]) := fun x hx => by
  rcases List.mem_append.1 hx with hx | hx
  · exact h x hx
  · rw [List.mem_singleton.1 hx]; exact hk
theorem rdIn_hi (r : Reader) (lo hi : Int) (h : 0 ≤ hi) : (rdIn r lo hi).2 ≤ hi := by
  unfold rdIn
  cases (rdErr (rdNum r).1 != 0)
  · rw [cond_false]
    cases decide ((rdNum r).2 > 4611686018427387904)
    · rw [cond_false]
      cases decide (IntKind.i64.wrap (rdNum r).2 < lo)
      · rw [cond_false]
        cases e : decide (IntKind.i64.wrap (rdNum r).2 > hi)
        · rw [cond_false]
          have := of_decide_eq_false e
          dsimp only; omega
        · exact h
      · exact h
    · exact h
  · exact h
theorem mid_eq {i j : Int} (h1 : 0 ≤ i) (h2 : i ≤ j) (h3 : j ≤ 1000000) : IntKind.i64.wrap (shrI .u64 (IntKind.u64.wrap (IntKind.i64.wrap (i + j))) 1) = (i + j) / 2 := by
  have e1 : IntKind.i64.wrap (i + j) = i + j := wrapP (by omega)
  have e2 : IntKind.u64.wrap (i + j) = i + j := by rw [wrapU]; omega
  have e3 : shrI .u64 (i + j) 1 = (i + j) / 2 := rfl
  rw [e1, e2, e3, wrapP (by omega)]
def bsearch_l0 (x : (Sl Seen)) (target : (Nat → Int)) (cmp : Seen → (Nat → Int) → Int) : Nat → Int → Int → Int × Bool
  | 0, _, _ => default
  | nn + 1, i, j => (bif (decide (i < j)) then (bif (decide ((cmp (Seen.mk (ofL [(x.D[(IntKind.i64.wrap (shrI .u64 (IntKind.u64.wrap (IntKind.i64.wrap (i + j))) 1)).toNat]!.key 0), (x.D[(IntKind.i64.wrap (shrI .u64 (IntKind.u64.wrap (IntKind.i64.wrap (i + j))) 1)).toNat]!.key 1), (x.D[(IntKind.i64.wrap (shrI .u64 (IntKind.u64.wrap (IntKind.i64.wrap (i + j))) 1)).toNat]!.key 2), (x.D[(IntKind.i64.wrap (shrI .u64 (IntKind.u64.wrap (IntKind.i64.wrap (i + j))) 1)).toNat]!.key 3), (x.D[(IntKind.i64.wrap (shrI .u64 (IntKind.u64.wrap (IntKind.i64.wrap (i + j))) 1)).toNat]!.key 4), (x.D[(IntKind.i64.wrap (shrI .u64 (IntKind.u64.wrap (IntKind.i64.wrap (i + j))) 1)).toNat]!.key 5), (x.D[(IntKind.i64.wrap (shrI .u64 (IntKind.u64.wrap (IntKind.i64.wrap (i + j))) 1)).toNat]!.key 6), (x.D[(IntKind.i64.wrap (shrI .u64 (IntKind.u64.wrap (IntKind.i64.wrap (i + j))) 1)).toNat]!.key 7)]) (x.D[(IntKind.i64.wrap (shrI .u64 (IntKind.u64.wrap (IntKind.i64.wrap (i + j))) 1)).toNat]!.ver)) target) < 0)) then bsearch_l0 x target cmp nn (IntKind.i64.wrap ((IntKind.i64.wrap (shrI .u64 (IntKind.u64.wrap (IntKind.i64.wrap (i + j))) 1)) + 1)) j else bsearch_l0 x target cmp nn i (IntKind.i64.wrap (shrI .u64 (IntKind.u64.wrap (IntKind.i64.wrap (i + j))) 1))) else (bif (decide (i < (x.D.length : Int))) then (i, ((cmp (Seen.mk (ofL [(x.D[i.toNat]!.key 0), (x.D[i.toNat]!.key 1), (x.D[i.toNat]!.key 2), (x.D[i.toNat]!.key 3), (x.D[i.toNat]!.key 4), (x.D[i.toNat]!.key 5), (x.D[i.toNat]!.key 6), (x.D[i.toNat]!.key 7)]) (x.D[i.toNat]!.ver)) target) == 0)) else (i, false)))
def bsearch (x : (Sl Seen)) (target : (Nat → Int)) (cmp : Seen → (Nat → Int) → Int) : Int × Bool :=
  bsearch_l0 x target cmp (((x.D.length : Int) - 0).toNat + 1) 0 (x.D.length : Int)
theorem bsearch_calls (x : (Sl Seen)) (target : (Nat → Int)) (cmp : Seen → (Nat → Int) → Int) (g2 : Nat) (caps2 : List AV) (hp2 : ∀ (x0 : Seen) (x1 : (Nat → Int)), PCalls Tryd.prog g2 ([.agg [.pv (.lit (.int .u8 (x0.key 0))), .pv (.lit (.int .u8 (x0.key 1))), .pv (.lit (.int .u8 (x0.key 2))), .pv (.lit (.int .u8 (x0.key 3))), .pv (.lit (.int .u8 (x0.key 4))), .pv (.lit (.int .u8 (x0.key 5))), .pv (.lit (.int .u8 (x0.key 6))), .pv (.lit (.int .u8 (x0.key 7))), .pv (.lit (.int .i64 x0.ver))], .agg [.pv (.lit (.int .u8 (x1 0))), .pv (.lit (.int .u8 (x1 1))), .pv (.lit (.int .u8 (x1 2))), .pv (.lit (.int .u8 (x1 3))), .pv (.lit (.int .u8 (x1 4))), .pv (.lit (.int .u8 (x1 5))), .pv (.lit (.int .u8 (x1 6))), .pv (.lit (.int .u8 (x1 7)))]] ++ caps2) (.pv (.lit (.int .i64 (cmp x0 x1))))) (hw2 : AV.withinL (fun _ => false) caps2 = true) (hn : x.D.length ≤ 1000000) : PCalls Tryd.prog 62 [sS (some x.nil) eSeen x.D, .agg [.pv (.lit (.int .u8 (target 0))), .pv (.lit (.int .u8 (target 1))), .pv (.lit (.int .u8 (target 2))), .pv (.lit (.int .u8 (target 3))), .pv (.lit (.int .u8 (target 4))), .pv (.lit (.int .u8 (target 5))), .pv (.lit (.int .u8 (target 6))), .pv (.lit (.int .u8 (target 7)))], .fn g2 [] caps2] (.tup [.pv (.lit (.int .i64 ((bsearch x target cmp).1))), .pv (.lit (.bool ((bsearch x target cmp).2)))]) := by
 generalize hR : bsearch x target cmp = R
 refine PCalls.of_body tabOk Tryd.func62 rfl rfl rfl (by simp [AV.withinL, AV.within, sS, hw2]) rfl mixed fun E hP C hI => ?_
 refine Awp.consP C ?_
 refine rvc_un (rexec_prim C (δ := { v := .ptr 4 0, new := [(4, .cells [.pv (.lit (.int .u8 (target 0))), .pv (.lit (.int .u8 (target 1))), .pv (.lit (.int .u8 (target 2))), .pv (.lit (.int .u8 (target 3))), .pv (.lit (.int .u8 (target 4))), .pv (.lit (.int .u8 (target 5))), .pv (.lit (.int .u8 (target 6))), .pv (.lit (.int .u8 (target 7)))])] }) rfl rfl rfl rfl trivial rfl ?_)
 refine rvP C (.pv (.lit (.int .i64 0))) ?_
 refine rvP C (.pv (.lit (.bool false))) ?_
 refine rvc_nil ?_
 refine Awp.consP C ?_
 refine rvP C (sS (some x.nil) eSeen x.D) ?_
 refine rvP C (.pv (.lit (.int .i64 (x.D.length : Int)))) ?_
 refine rvP C (.pv (.lit (.int .i64 (x.D.length : Int)))) ?_
 refine rvc_nil ?_
 refine Awp.consP C ?_
 refine rvP C (.pv (.lit (.int .i64 (x.D.length : Int)))) ?_
 refine rvP C (.pv (.lit (.int .i64 0))) ?_
 refine rvP C (.pv (.lit (.int .i64 (x.D.length : Int)))) ?_
 refine rvc_nil ?_
 refine Awp.seq ?_
 refine Awp.block ?_
 refine Awp.forM (σ := Int × Int) (fun v => [(0, sS (some x.nil) eSeen x.D), (2, .fn g2 [] caps2), (4, .ptr 4 0), (8, .pv (.lit (.int .i64 (x.D.length : Int)))), (9, .pv (.lit (.int .i64 v.1))), (10, .pv (.lit (.int .i64 v.2)))]) (fun v => [(4, .cells [.pv (.lit (.int .u8 (target 0))), .pv (.lit (.int .u8 (target 1))), .pv (.lit (.int .u8 (target 2))), .pv (.lit (.int .u8 (target 3))), .pv (.lit (.int .u8 (target 4))), .pv (.lit (.int .u8 (target 5))), .pv (.lit (.int .u8 (target 6))), .pv (.lit (.int .u8 (target 7)))])]) [4] (fun n v => (v.2 - v.1).toNat ≤ n ∧ bsearch_l0 x target cmp (n + 1) v.1 v.2 = R ∧ (0 ≤ v.1 ∧ v.1 ≤ v.2 ∧ v.2 ≤ (x.D.length : Int))) (((x.D.length : Int) - 0).toNat) (0, (x.D.length : Int)) ?_ ?_ (fun n_ v h1 => ?_)
 · exact ⟨Nat.le_refl _, hR, (by dsimp only; omega)⟩
 · exact ⟨fun b => b, WeakerR.ofL (Ks := [4]) hI ⟨⟨rfl, rfl⟩, ⟨fn_to rfl hw2, fn_win hw2⟩, ⟨rfl, rfl⟩, ⟨rfl, rfl⟩, ⟨rfl, rfl⟩, ⟨rfl, rfl⟩, trivial⟩ (okH_cons rfl rfl rfl rfl (okH_nil)) rfl⟩
 obtain ⟨i, j⟩ := v
 obtain ⟨hm_, hR, hV⟩ := h1
 replace hm_ : (j - i).toNat ≤ n_ := hm_
 replace hV : 0 ≤ i ∧ i ≤ j ∧ j ≤ (x.D.length : Int) := hV
 have hm_ := mid_eq hV.1 hV.2.1 (by omega)
 refine Awp.seq ?_
 refine Awp.consP C ?_
 refine rvP C (.pv (.lit (.int .i64 i))) ?_
 refine rvP C (.pv (.lit (.int .i64 j))) ?_
 refine rvP C (.pv (.lit (.bool (decide (i < j))))) ?_
 refine rvc_nil ?_
 refine Awp.cond (b := (decide (i < j))) rfl (fun h3 => ?_) (fun h3 => ?_)
 ·
  replace hR := of_true h3 hR
  refine Awp.skip ?_
  refine Awp.block ?_
  refine Awp.consP C ?_
  refine rvP C (.pv (.lit (.int .i64 i))) ?_
  refine rvP C (.pv (.lit (.int .i64 j))) ?_
  refine rvP C (.pv (.lit (.int .i64 (IntKind.i64.wrap (i + j))))) ?_
  refine rvP C (.pv (.lit (.int .u64 (IntKind.u64.wrap (IntKind.i64.wrap (i + j)))))) ?_
  refine rvc_un (rexec_prim C (δ := { v := .pv (.lit (.int .u64 (shrI .u64 (IntKind.u64.wrap (IntKind.i64.wrap (i + j))) 1))) }) rfl rfl rfl rfl (by first | decide | assumption | omega) rfl ?_)
  refine rvP C (.pv (.lit (.int .i64 (IntKind.i64.wrap (shrI .u64 (IntKind.u64.wrap (IntKind.i64.wrap (i + j))) 1))))) ?_
  refine rvP C (.pv (.lit (.int .i64 (IntKind.i64.wrap (shrI .u64 (IntKind.u64.wrap (IntKind.i64.wrap (i + j))) 1))))) ?_
  refine rvc_nil ?_
  refine Awp.consP C ?_
  refine rvP C (.fn g2 [] caps2) ?_
  refine rvP C (sS (some x.nil) eSeen x.D) ?_
  refine rvP C (.pv (.lit (.int .i64 (IntKind.i64.wrap (shrI .u64 (IntKind.u64.wrap (IntKind.i64.wrap (i + j))) 1))))) ?_
  have h4 : x.D[(IntKind.i64.wrap (shrI .u64 (IntKind.u64.wrap (IntKind.i64.wrap (i + j))) 1)).toNat]? = some x.D[(IntKind.i64.wrap (shrI .u64 (IntKind.u64.wrap (IntKind.i64.wrap (i + j))) 1)).toNat]! := getE (by have := wrapI (shrI .u64 (IntKind.u64.wrap (IntKind.i64.wrap (i + j))) 1); have := wrapI (i + j); have := of_decide_eq_true h3; omega)
  refine rvc_un (rexec_idxS C rfl rfl rfl rfl rfl rfl (x.D[(IntKind.i64.wrap (shrI .u64 (IntKind.u64.wrap (IntKind.i64.wrap (i + j))) 1)).toNat]!) (by have := wrapI (shrI .u64 (IntKind.u64.wrap (IntKind.i64.wrap (i + j))) 1); have := wrapI (i + j); have := of_decide_eq_true h3; omega) h4 ?_)
  refine rvP C (.agg [.pv (.lit (.int .u8 (x.D[(IntKind.i64.wrap (shrI .u64 (IntKind.u64.wrap (IntKind.i64.wrap (i + j))) 1)).toNat]!.key 0))), .pv (.lit (.int .u8 (x.D[(IntKind.i64.wrap (shrI .u64 (IntKind.u64.wrap (IntKind.i64.wrap (i + j))) 1)).toNat]!.key 1))), .pv (.lit (.int .u8 (x.D[(IntKind.i64.wrap (shrI .u64 (IntKind.u64.wrap (IntKind.i64.wrap (i + j))) 1)).toNat]!.key 2))), .pv (.lit (.int .u8 (x.D[(IntKind.i64.wrap (shrI .u64 (IntKind.u64.wrap (IntKind.i64.wrap (i + j))) 1)).toNat]!.key 3))), .pv (.lit (.int .u8 (x.D[(IntKind.i64.wrap (shrI .u64 (IntKind.u64.wrap (IntKind.i64.wrap (i + j))) 1)).toNat]!.key 4))), .pv (.lit (.int .u8 (x.D[(IntKind.i64.wrap (shrI .u64 (IntKind.u64.wrap (IntKind.i64.wrap (i + j))) 1)).toNat]!.key 5))), .pv (.lit (.int .u8 (x.D[(IntKind.i64.wrap (shrI .u64 (IntKind.u64.wrap (IntKind.i64.wrap (i + j))) 1)).toNat]!.key 6))), .pv (.lit (.int .u8 (x.D[(IntKind.i64.wrap (shrI .u64 (IntKind.u64.wrap (IntKind.i64.wrap (i + j))) 1)).toNat]!.key 7))), .pv (.lit (.int .i64 (x.D[(IntKind.i64.wrap (shrI .u64 (IntKind.u64.wrap (IntKind.i64.wrap (i + j))) 1)).toNat]!.ver)))]) ?_
  refine rvP C (.agg [.pv (.lit (.int .u8 (target 0))), .pv (.lit (.int .u8 (target 1))), .pv (.lit (.int .u8 (target 2))), .pv (.lit (.int .u8 (target 3))), .pv (.lit (.int .u8 (target 4))), .pv (.lit (.int .u8 (target 5))), .pv (.lit (.int .u8 (target 6))), .pv (.lit (.int .u8 (target 7)))]) ?_
  refine rvc_un (rexec_callV hP C rfl rfl rfl rfl (hp2 (Seen.mk (ofL [(x.D[(IntKind.i64.wrap (shrI .u64 (IntKind.u64.wrap (IntKind.i64.wrap (i + j))) 1)).toNat]!.key 0), (x.D[(IntKind.i64.wrap (shrI .u64 (IntKind.u64.wrap (IntKind.i64.wrap (i + j))) 1)).toNat]!.key 1), (x.D[(IntKind.i64.wrap (shrI .u64 (IntKind.u64.wrap (IntKind.i64.wrap (i + j))) 1)).toNat]!.key 2), (x.D[(IntKind.i64.wrap (shrI .u64 (IntKind.u64.wrap (IntKind.i64.wrap (i + j))) 1)).toNat]!.key 3), (x.D[(IntKind.i64.wrap (shrI .u64 (IntKind.u64.wrap (IntKind.i64.wrap (i + j))) 1)).toNat]!.key 4), (x.D[(IntKind.i64.wrap (shrI .u64 (IntKind.u64.wrap (IntKind.i64.wrap (i + j))) 1)).toNat]!.key 5), (x.D[(IntKind.i64.wrap (shrI .u64 (IntKind.u64.wrap (IntKind.i64.wrap (i + j))) 1)).toNat]!.key 6), (x.D[(IntKind.i64.wrap (shrI .u64 (IntKind.u64.wrap (IntKind.i64.wrap (i + j))) 1)).toNat]!.key 7)]) (x.D[(IntKind.i64.wrap (shrI .u64 (IntKind.u64.wrap (IntKind.i64.wrap (i + j))) 1)).toNat]!.ver)) target) rfl ?_)
  refine rvP C (.pv (.lit (.bool (decide ((cmp (Seen.mk (ofL [(x.D[(IntKind.i64.wrap (shrI .u64 (IntKind.u64.wrap (IntKind.i64.wrap (i + j))) 1)).toNat]!.key 0), (x.D[(IntKind.i64.wrap (shrI .u64 (IntKind.u64.wrap (IntKind.i64.wrap (i + j))) 1)).toNat]!.key 1), (x.D[(IntKind.i64.wrap (shrI .u64 (IntKind.u64.wrap (IntKind.i64.wrap (i + j))) 1)).toNat]!.key 2), (x.D[(IntKind.i64.wrap (shrI .u64 (IntKind.u64.wrap (IntKind.i64.wrap (i + j))) 1)).toNat]!.key 3), (x.D[(IntKind.i64.wrap (shrI .u64 (IntKind.u64.wrap (IntKind.i64.wrap (i + j))) 1)).toNat]!.key 4), (x.D[(IntKind.i64.wrap (shrI .u64 (IntKind.u64.wrap (IntKind.i64.wrap (i + j))) 1)).toNat]!.key 5), (x.D[(IntKind.i64.wrap (shrI .u64 (IntKind.u64.wrap (IntKind.i64.wrap (i + j))) 1)).toNat]!.key 6), (x.D[(IntKind.i64.wrap (shrI .u64 (IntKind.u64.wrap (IntKind.i64.wrap (i + j))) 1)).toNat]!.key 7)]) (x.D[(IntKind.i64.wrap (shrI .u64 (IntKind.u64.wrap (IntKind.i64.wrap (i + j))) 1)).toNat]!.ver)) target) < 0))))) ?_
  refine rvc_nil ?_
  refine Awp.cond (b := (decide ((cmp (Seen.mk (ofL [(x.D[(IntKind.i64.wrap (shrI .u64 (IntKind.u64.wrap (IntKind.i64.wrap (i + j))) 1)).toNat]!.key 0), (x.D[(IntKind.i64.wrap (shrI .u64 (IntKind.u64.wrap (IntKind.i64.wrap (i + j))) 1)).toNat]!.key 1), (x.D[(IntKind.i64.wrap (shrI .u64 (IntKind.u64.wrap (IntKind.i64.wrap (i + j))) 1)).toNat]!.key 2), (x.D[(IntKind.i64.wrap (shrI .u64 (IntKind.u64.wrap (IntKind.i64.wrap (i + j))) 1)).toNat]!.key 3), (x.D[(IntKind.i64.wrap (shrI .u64 (IntKind.u64.wrap (IntKind.i64.wrap (i + j))) 1)).toNat]!.key 4), (x.D[(IntKind.i64.wrap (shrI .u64 (IntKind.u64.wrap (IntKind.i64.wrap (i + j))) 1)).toNat]!.key 5), (x.D[(IntKind.i64.wrap (shrI .u64 (IntKind.u64.wrap (IntKind.i64.wrap (i + j))) 1)).toNat]!.key 6), (x.D[(IntKind.i64.wrap (shrI .u64 (IntKind.u64.wrap (IntKind.i64.wrap (i + j))) 1)).toNat]!.key 7)]) (x.D[(IntKind.i64.wrap (shrI .u64 (IntKind.u64.wrap (IntKind.i64.wrap (i + j))) 1)).toNat]!.ver)) target) < 0))) rfl (fun h5 => ?_) (fun h5 => ?_)
  ·
   replace hR := of_true h5 hR
   refine Awp.regionP C ?_
   refine rvP C (.pv (.lit (.int .i64 (IntKind.i64.wrap (shrI .u64 (IntKind.u64.wrap (IntKind.i64.wrap (i + j))) 1))))) ?_
   refine rvP C (.pv (.lit (.int .i64 (IntKind.i64.wrap ((IntKind.i64.wrap (shrI .u64 (IntKind.u64.wrap (IntKind.i64.wrap (i + j))) 1)) + 1))))) ?_
   refine rvP C (.pv (.lit (.int .i64 (IntKind.i64.wrap ((IntKind.i64.wrap (shrI .u64 (IntKind.u64.wrap (IntKind.i64.wrap (i + j))) 1)) + 1))))) ?_
   refine rvc_nil ?_
   have h6 : (j - (IntKind.i64.wrap ((IntKind.i64.wrap (shrI .u64 (IntKind.u64.wrap (IntKind.i64.wrap (i + j))) 1)) + 1))).toNat < (j - i).toNat := by have := wrapI ((IntKind.i64.wrap (shrI .u64 (IntKind.u64.wrap (IntKind.i64.wrap (i + j))) 1)) + 1); have := wrapI (shrI .u64 (IntKind.u64.wrap (IntKind.i64.wrap (i + j))) 1); have := wrapI (i + j); have := of_decide_eq_true h3; have := of_decide_eq_true h5; omega
   obtain ⟨nn, rfl⟩ : ∃ nn, n_ = nn + 1 := ⟨n_ - 1, by omega⟩
   refine ⟨nn, ((IntKind.i64.wrap ((IntKind.i64.wrap (shrI .u64 (IntKind.u64.wrap (IntKind.i64.wrap (i + j))) 1)) + 1)), j), by omega, ⟨by show (j - (IntKind.i64.wrap ((IntKind.i64.wrap (shrI .u64 (IntKind.u64.wrap (IntKind.i64.wrap (i + j))) 1)) + 1))).toNat ≤ nn; omega, hR, (by have := wrapI ((IntKind.i64.wrap (shrI .u64 (IntKind.u64.wrap (IntKind.i64.wrap (i + j))) 1)) + 1); have := wrapI (shrI .u64 (IntKind.u64.wrap (IntKind.i64.wrap (i + j))) 1); have := wrapI (i + j); have := of_decide_eq_true h3; have := of_decide_eq_true h5; omega)⟩, ?_⟩
   · exact ⟨fun b => b, WeakerR.ofL (Ks := [4]) hI ⟨⟨rfl, rfl⟩, ⟨fn_to rfl hw2, fn_win hw2⟩, ⟨rfl, rfl⟩, ⟨rfl, rfl⟩, ⟨rfl, rfl⟩, ⟨rfl, rfl⟩, trivial⟩ (okH_cons rfl rfl rfl rfl (okH_nil)) rfl⟩
  ·
   replace hR := of_false h5 hR
   refine Awp.regionP C ?_
   refine rvP C (.pv (.lit (.int .i64 (IntKind.i64.wrap (shrI .u64 (IntKind.u64.wrap (IntKind.i64.wrap (i + j))) 1))))) ?_
   refine rvP C (.pv (.lit (.int .i64 (IntKind.i64.wrap (shrI .u64 (IntKind.u64.wrap (IntKind.i64.wrap (i + j))) 1))))) ?_
   refine rvc_nil ?_
   have h7 : ((IntKind.i64.wrap (shrI .u64 (IntKind.u64.wrap (IntKind.i64.wrap (i + j))) 1)) - i).toNat < (j - i).toNat := by have := wrapI (shrI .u64 (IntKind.u64.wrap (IntKind.i64.wrap (i + j))) 1); have := wrapI (i + j); have := of_decide_eq_true h3; have := of_decide_eq_false h5; omega
   obtain ⟨nn, rfl⟩ : ∃ nn, n_ = nn + 1 := ⟨n_ - 1, by omega⟩
   refine ⟨nn, (i, (IntKind.i64.wrap (shrI .u64 (IntKind.u64.wrap (IntKind.i64.wrap (i + j))) 1))), by omega, ⟨by show ((IntKind.i64.wrap (shrI .u64 (IntKind.u64.wrap (IntKind.i64.wrap (i + j))) 1)) - i).toNat ≤ nn; omega, hR, (by have := wrapI (shrI .u64 (IntKind.u64.wrap (IntKind.i64.wrap (i + j))) 1); have := wrapI (i + j); have := of_decide_eq_true h3; have := of_decide_eq_false h5; omega)⟩, ?_⟩
   · exact ⟨fun b => b, WeakerR.ofL (Ks := [4]) hI ⟨⟨rfl, rfl⟩, ⟨fn_to rfl hw2, fn_win hw2⟩, ⟨rfl, rfl⟩, ⟨rfl, rfl⟩, ⟨rfl, rfl⟩, ⟨rfl, rfl⟩, trivial⟩ (okH_cons rfl rfl rfl rfl (okH_nil)) rfl⟩
 ·
  replace hR := of_false h3 hR
  refine Awp.exit ?_
  refine Awp.consP C ?_
  refine rvP C (.pv (.lit (.int .i64 i))) ?_
  refine rvP C (.pv (.lit (.int .i64 i))) ?_
  refine rvP C (.pv (.lit (.int .i64 (x.D.length : Int)))) ?_
  refine rvP C (.pv (.lit (.bool (decide (i < (x.D.length : Int)))))) ?_
  refine rvP C (.pv (.lit (.bool (decide (i < (x.D.length : Int)))))) ?_
  refine rvc_case 39 (decide (i < (x.D.length : Int))) rfl (fun h8 => ?_) (fun h8 => ?_)
  ·
   replace hR := of_true h8 hR
   refine rvO C (.fn g2 [] caps2) ?_
   refine rvO C (sS (some x.nil) eSeen x.D) ?_
   refine rvO C (.pv (.lit (.int .i64 i))) ?_
   have h9 : x.D[i.toNat]? = some x.D[i.toNat]! := getE (by have := of_decide_eq_false h3; have := of_decide_eq_true h8; omega)
   refine rvc_open rfl rfl rfl (rexec_idxS C rfl rfl rfl rfl rfl rfl (x.D[i.toNat]!) (by have := of_decide_eq_false h3; have := of_decide_eq_true h8; omega) h9 ?_)
   refine rvO C (.agg [.pv (.lit (.int .u8 (x.D[i.toNat]!.key 0))), .pv (.lit (.int .u8 (x.D[i.toNat]!.key 1))), .pv (.lit (.int .u8 (x.D[i.toNat]!.key 2))), .pv (.lit (.int .u8 (x.D[i.toNat]!.key 3))), .pv (.lit (.int .u8 (x.D[i.toNat]!.key 4))), .pv (.lit (.int .u8 (x.D[i.toNat]!.key 5))), .pv (.lit (.int .u8 (x.D[i.toNat]!.key 6))), .pv (.lit (.int .u8 (x.D[i.toNat]!.key 7))), .pv (.lit (.int .i64 (x.D[i.toNat]!.ver)))]) ?_
   refine rvO C (.agg [.pv (.lit (.int .u8 (target 0))), .pv (.lit (.int .u8 (target 1))), .pv (.lit (.int .u8 (target 2))), .pv (.lit (.int .u8 (target 3))), .pv (.lit (.int .u8 (target 4))), .pv (.lit (.int .u8 (target 5))), .pv (.lit (.int .u8 (target 6))), .pv (.lit (.int .u8 (target 7)))]) ?_
   refine rvc_open rfl rfl rfl (rexec_callV hP C rfl rfl rfl rfl (hp2 (Seen.mk (ofL [(x.D[i.toNat]!.key 0), (x.D[i.toNat]!.key 1), (x.D[i.toNat]!.key 2), (x.D[i.toNat]!.key 3), (x.D[i.toNat]!.key 4), (x.D[i.toNat]!.key 5), (x.D[i.toNat]!.key 6), (x.D[i.toNat]!.key 7)]) (x.D[i.toNat]!.ver)) target) rfl ?_)
   refine rvO C (.pv (.lit (.bool ((cmp (Seen.mk (ofL [(x.D[i.toNat]!.key 0), (x.D[i.toNat]!.key 1), (x.D[i.toNat]!.key 2), (x.D[i.toNat]!.key 3), (x.D[i.toNat]!.key 4), (x.D[i.toNat]!.key 5), (x.D[i.toNat]!.key 6), (x.D[i.toNat]!.key 7)]) (x.D[i.toNat]!.ver)) target) == 0)))) ?_
   refine rvP C (.pv (.lit (.bool ((cmp (Seen.mk (ofL [(x.D[i.toNat]!.key 0), (x.D[i.toNat]!.key 1), (x.D[i.toNat]!.key 2), (x.D[i.toNat]!.key 3), (x.D[i.toNat]!.key 4), (x.D[i.toNat]!.key 5), (x.D[i.toNat]!.key 6), (x.D[i.toNat]!.key 7)]) (x.D[i.toNat]!.ver)) target) == 0)))) ?_
   refine rvP C (.pv (.lit (.int .i64 i))) ?_
   refine rvP C (.pv (.lit (.bool ((cmp (Seen.mk (ofL [(x.D[i.toNat]!.key 0), (x.D[i.toNat]!.key 1), (x.D[i.toNat]!.key 2), (x.D[i.toNat]!.key 3), (x.D[i.toNat]!.key 4), (x.D[i.toNat]!.key 5), (x.D[i.toNat]!.key 6), (x.D[i.toNat]!.key 7)]) (x.D[i.toNat]!.ver)) target) == 0)))) ?_
   refine rvc_nil ?_
   refine Awp.ret ?_
   subst hR
   exact ⟨.inl rfl, rfl⟩
  ·
   replace hR := of_false h8 hR
   refine rvS ?_
   refine rvS ?_
   refine rvS ?_
   refine rvS ?_
   refine rvS ?_
   refine rvS ?_
   refine rvS ?_
   refine rvS ?_
   refine rvP C (.pv (.lit (.bool false))) ?_
   refine rvP C (.pv (.lit (.int .i64 i))) ?_
   refine rvP C (.pv (.lit (.bool false))) ?_
   refine rvc_nil ?_
   refine Awp.ret ?_
   subst hR
   exact ⟨.inl rfl, rfl⟩
def place (l : (Sl Seen)) (k : (Nat → Int)) : Int × Bool :=
  ((bsearch l k (fun x0 x1 => placeF x0 x1)).1, (bsearch l k (fun x0 x1 => placeF x0 x1)).2)
theorem place_calls (l : (Sl Seen)) (k : (Nat → Int)) (hn : l.D.length ≤ 1000000) : PCalls Tryd.prog 45 [sS (some l.nil) eSeen l.D, .agg [.pv (.lit (.int .u8 (k 0))), .pv (.lit (.int .u8 (k 1))), .pv (.lit (.int .u8 (k 2))), .pv (.lit (.int .u8 (k 3))), .pv (.lit (.int .u8 (k 4))), .pv (.lit (.int .u8 (k 5))), .pv (.lit (.int .u8 (k 6))), .pv (.lit (.int .u8 (k 7)))]] (.tup [.pv (.lit (.int .i64 ((place l k).1))), .pv (.lit (.bool ((place l k).2)))]) := by
 generalize hR : place l k = R
 refine PCalls.of_body tabOk Tryd.func45 rfl rfl rfl rfl rfl mixed fun E hP C hI => ?_
 refine Awp.consP C ?_
 refine rvc_un (rexec_prim C (δ := { v := .ptr 3 0, new := [(3, .cells [.pv (.lit (.int .u8 (k 0))), .pv (.lit (.int .u8 (k 1))), .pv (.lit (.int .u8 (k 2))), .pv (.lit (.int .u8 (k 3))), .pv (.lit (.int .u8 (k 4))), .pv (.lit (.int .u8 (k 5))), .pv (.lit (.int .u8 (k 6))), .pv (.lit (.int .u8 (k 7)))])] }) rfl rfl rfl rfl trivial rfl ?_)
 refine rvP C (.pv (.lit (.int .i64 0))) ?_
 refine rvP C (.pv (.lit (.bool false))) ?_
 refine rvc_nil ?_
 refine Awp.consP C ?_
 refine rvP C (sS (some l.nil) eSeen l.D) ?_
 refine rvP C (.agg [.pv (.lit (.int .u8 (k 0))), .pv (.lit (.int .u8 (k 1))), .pv (.lit (.int .u8 (k 2))), .pv (.lit (.int .u8 (k 3))), .pv (.lit (.int .u8 (k 4))), .pv (.lit (.int .u8 (k 5))), .pv (.lit (.int .u8 (k 6))), .pv (.lit (.int .u8 (k 7)))]) ?_
 refine rvc_un (rexec_call hP C rfl rfl rfl (bsearch_calls l k (fun x0 x1 => placeF x0 x1) 63 [] (fun x0 x1 => placeF_calls x0 x1) rfl hn) ?_)
 refine rvP C (.pv (.lit (.int .i64 ((bsearch l k (fun x0 x1 => placeF x0 x1)).1)))) ?_
 refine rvP C (.pv (.lit (.bool ((bsearch l k (fun x0 x1 => placeF x0 x1)).2)))) ?_
 refine rvP C (.pv (.lit (.int .i64 ((bsearch l k (fun x0 x1 => placeF x0 x1)).1)))) ?_
 refine rvP C (.pv (.lit (.bool ((bsearch l k (fun x0 x1 => placeF x0 x1)).2)))) ?_
 refine rvc_nil ?_
 refine Awp.ret ?_
 subst hR
 exact ⟨.inl rfl, rfl⟩
/-- What was seen, and one version more. -/
def insS (k : Nat → Int) (v : Int) : List Seen → List Seen
  | [] => [Seen.mk k v]
  | x :: xs => if ll (kL x.key) (kL k) = true then x :: insS k v xs else if kL x.key = kL k then Seen.mk x.key (max x.ver v) :: xs else Seen.mk k v :: x :: xs
/-- The floor of a key. -/
def flr (q : List Int) : List Seen → Int
  | [] => 0
  | x :: xs => if kL x.key = q then x.ver else flr q xs
theorem flr_cons (q : List Int) (x : Seen) (xs : List Seen) : flr q (x :: xs) = if kL x.key = q then x.ver else flr q xs := by rw [flr]
/-- What it reads as. -/
def rd (x : Seen) : List Int × Int := (kL x.key, x.ver)
theorem sOk_congr {x y : Seen} (h : rd x = rd y) : shRight x.key = shRight y.key := by
  have h1 : kL x.key = kL y.key := congrArg Prod.fst h
  have e := eq8 x.key y.key
  have hn : nameL x.key = nameL y.key := by
    have t : ∀ n, n ≤ 8 → trimN x.key n = trimN y.key n := fun n => by
      induction n with
      | zero => intro _; rfl
      | succ n ih =>
        intro hn
        have hk : x.key n = y.key n := by
          have := congrArg (fun q => q[n]?) h1
          have ex := tbF_get x.key 8 0 n (by omega)
          have ey := tbF_get y.key 8 0 n (by omega)
          simp only [kL] at this
          rw [ex, ey] at this
          simpa using this
        unfold trimN
        rw [hk, ih (by omega)]
    unfold nameL
    rw [t 8 (Nat.le_refl _)]
    show (kL x.key).take _ = (kL y.key).take _
    rw [h1]
  unfold shRight
  rw [eq8, eq8, hn, h1]
theorem ver_ok {x : Seen} (h : sOk x = true) : 1 ≤ x.ver ∧ x.ver ≤ 1099511627776 ∧ shRight x.key = 0 := by
  unfold sOk at h
  simp only [Bool.and_eq_true, beq_iff_eq, decide_eq_true_eq] at h
  exact ⟨h.2.1, h.2.2, h.1⟩
theorem sOk_mk {x : Seen} (h1 : 1 ≤ x.ver) (h2 : x.ver ≤ 1099511627776) (h3 : shRight x.key = 0) : sOk x = true := by
  unfold sOk
  simp only [Bool.and_eq_true, beq_iff_eq, decide_eq_true_eq]
  exact ⟨h3, h1, h2⟩
theorem rt_mem : ∀ {l : List Seen}, rt none l = true → ∀ x ∈ l, sOk x = true
  | [], _, _, h => nomatch h
  | y :: ys, h, x, hx => by
    obtain ⟨h1, h2, _⟩ := rt_cons.1 h
    rcases List.mem_cons.1 hx with rfl | hx
    · exact h1
    · exact rt_mem h2 x hx
theorem insS_keys {k : Nat → Int} {v : Int} : ∀ {l : List Seen} {y : Seen}, y ∈ insS k v l → kL y.key = kL k ∨ ∃ x ∈ l, kL y.key = kL x.key
  | [], y, h => by
    unfold insS at h
    rw [List.mem_singleton.1 h]; exact .inl rfl
  | x :: xs, y, h => by
    unfold insS at h
    split at h
    · rcases List.mem_cons.1 h with rfl | h
      · exact .inr ⟨y, by simp, rfl⟩
      · rcases insS_keys h with h | ⟨z, hz, h⟩
        · exact .inl h
        · exact .inr ⟨z, by simp [hz], h⟩
    · split at h
      · rcases List.mem_cons.1 h with rfl | h
        · exact .inr ⟨x, by simp, rfl⟩
        · exact .inr ⟨y, by simp [h], rfl⟩
      · rcases List.mem_cons.1 h with rfl | h
        · exact .inl rfl
        · exact .inr ⟨y, h, rfl⟩
theorem insS_KB {k : Nat → Int} {v : Int} (hk : KeyB k) : ∀ {l : List Seen}, KB l → KB (insS k v l)
  | [], _, y, h => by
    unfold insS at h
    rw [List.mem_singleton.1 h]; exact hk
  | x :: xs, hl, y, h => by
    unfold insS at h
    split at h
    · rcases List.mem_cons.1 h with rfl | h
      · exact hl.cons.1
      · exact insS_KB hk hl.cons.2 y h
    · split at h
      · rcases List.mem_cons.1 h with rfl | h
        · exact hl.cons.1
        · exact hl.cons.2 y h
      · rcases List.mem_cons.1 h with rfl | h
        · exact hk
        · exact hl y h
theorem insS_rt {k : Nat → Int} {v : Int} (hv : 1 ≤ v) (hv2 : v ≤ 1099511627776) (hk : shRight k = 0) : ∀ {l : List Seen}, rt none l = true → rt none (insS k v l) = true
  | [], _ => by
    unfold insS
    exact rt_cons.2 ⟨sOk_mk hv hv2 hk, rfl, fun y hy => nomatch hy⟩
  | x :: xs, h => by
    obtain ⟨h1, h2, h3⟩ := rt_cons.1 h
    unfold insS
    split
    · rename_i hlt
      refine rt_cons.2 ⟨h1, insS_rt hv hv2 hk h2, fun y hy => ?_⟩
      rcases insS_keys hy with e | ⟨z, hz, e⟩
      · rw [e]; exact hlt
      · rw [e]; exact h3 z hz
    · rename_i hlt
      split
      · obtain ⟨a, b, c⟩ := ver_ok h1
        exact rt_cons.2 ⟨sOk_mk (by dsimp only; omega) (by dsimp only; omega) c, h2, h3⟩
      · rename_i hne
        have hgt : ll (kL k) (kL x.key) = true := ll_tri (by simpa using hlt) hne
        refine rt_cons.2 ⟨sOk_mk hv hv2 hk, h, fun y hy => ?_⟩
        rcases List.mem_cons.1 hy with rfl | hy
        · exact hgt
        · exact ll_trans hgt (h3 y hy)
theorem flr_none {q : List Int} : ∀ {l : List Seen}, (∀ x ∈ l, ll q (kL x.key) = true) → flr q l = 0
  | [], _ => rfl
  | x :: xs, h => by
    unfold flr
    rw [if_neg (fun e => ll_ne (h x (by simp)) e.symm), flr_none fun y hy => h y (by simp [hy])]
theorem flr_nonneg {q : List Int} : ∀ {l : List Seen}, rt none l = true → 0 ≤ flr q l
  | [], _ => Int.le_refl _
  | x :: xs, h => by
    obtain ⟨h1, h2, _⟩ := rt_cons.1 h
    unfold flr
    split
    · have := ver_ok h1; omega
    · exact flr_nonneg h2
theorem placeF_mk (e : Seen) (k : Nat → Int) : placeF (Seen.mk (ofL [e.key 0, e.key 1, e.key 2, e.key 3, e.key 4, e.key 5, e.key 6, e.key 7]) e.ver) k = placeF e k := rfl
theorem placeF_val {e : Seen} {k : Nat → Int} (he : KeyB e.key) (hk : KeyB k) : placeF e k = if ll (kL e.key) (kL k) then -1 else if kL e.key = kL k then 0 else 1 := cmpI_eq he.b8 hk.b8
theorem bs_spec (x : Sl Seen) (k : Nat → Int) (hn : x.D.length ≤ 1000000) : ∀ (f i j : Nat), j - i < f → i ≤ j → j ≤ x.D.length →
    ∃ p : Nat, (bsearch_l0 x k (fun x0 x1 => placeF x0 x1) f (i : Int) (j : Int)).1 = (p : Int) ∧ i ≤ p ∧ p ≤ j ∧
      (bsearch_l0 x k (fun x0 x1 => placeF x0 x1) f (i : Int) (j : Int)).2 = (decide (p < x.D.length) && (placeF x.D[p]! k == 0)) ∧
      ((∀ s t : Nat, s ≤ t → t < x.D.length → placeF x.D[t]! k < 0 → placeF x.D[s]! k < 0) → (∀ t, t < i → placeF x.D[t]! k < 0) → (∀ t, j ≤ t → t < x.D.length → ¬ placeF x.D[t]! k < 0) →
        (∀ t, t < p → placeF x.D[t]! k < 0) ∧ ∀ t, p ≤ t → t < x.D.length → ¬ placeF x.D[t]! k < 0)
  | 0, i, j, h, _, _ => by omega
  | f + 1, i, j, h, hij, hj => by
    have hm : IntKind.i64.wrap (shrI .u64 (IntKind.u64.wrap (IntKind.i64.wrap ((i : Int) + (j : Int)))) 1) = (((i + j) / 2 : Nat) : Int) := by
      rw [mid_eq (by omega) (by omega) (by omega)]; omega
    unfold bsearch_l0
    rw [hm, Int.toNat_natCast]
    by_cases hlt : i < j
    · rw [decide_eq_true (show (i : Int) < (j : Int) by omega), cond_true]
      rw [placeF_mk]
      generalize hmid : (i + j) / 2 = m
      have m1 : i ≤ m := by omega
      have m2 : m < j := by omega
      cases hc : decide (placeF x.D[m]! k < 0)
      · rw [cond_false]
        have hc' := of_decide_eq_false hc
        obtain ⟨p, p1, p2, p3, p4, p5⟩ := bs_spec x k hn f i m (by omega) m1 (by omega)
        refine ⟨p, p1, p2, by omega, p4, fun mono lo hi => p5 mono lo fun t ht htn hneg => ?_⟩
        exact hc' (mono m t ht htn hneg)
      · rw [cond_true]
        have hc' := of_decide_eq_true hc
        have e1 : IntKind.i64.wrap ((m : Int) + 1) = ((m + 1 : Nat) : Int) := by rw [wrapP (by omega)]; omega
        rw [e1]
        obtain ⟨p, p1, p2, p3, p4, p5⟩ := bs_spec x k hn f (m + 1) j (by omega) (by omega) hj
        refine ⟨p, p1, by omega, p3, p4, fun mono lo hi => p5 mono (fun t ht => ?_) hi⟩
        exact mono t m (by omega) (by omega) hc'
    · have hij' : i = j := by omega
      subst hij'
      rw [decide_eq_false (show ¬ (i : Int) < (i : Int) by omega), cond_false, Int.toNat_natCast]
      rw [placeF_mk]
      by_cases hin : i < x.D.length
      · rw [decide_eq_true (show (i : Int) < (x.D.length : Int) by omega), cond_true]
        exact ⟨i, rfl, Nat.le_refl _, Nat.le_refl _, by rw [decide_eq_true hin]; rfl, fun _ lo hi => ⟨lo, hi⟩⟩
      · rw [decide_eq_false (show ¬ (i : Int) < (x.D.length : Int) by omega), cond_false]
        exact ⟨i, rfl, Nat.le_refl _, Nat.le_refl _, by rw [decide_eq_false hin]; rfl, fun _ lo hi => ⟨lo, hi⟩⟩
theorem place_all (l : Sl Seen) (k : Nat → Int) (hn : l.D.length ≤ 1000000) : ∃ p : Nat, (place l k).1 = (p : Int) ∧ p ≤ l.D.length ∧ (place l k).2 = (decide (p < l.D.length) && (placeF l.D[p]! k == 0)) ∧
    ((∀ s t : Nat, s ≤ t → t < l.D.length → placeF l.D[t]! k < 0 → placeF l.D[s]! k < 0) → (∀ t, t < p → placeF l.D[t]! k < 0) ∧ ∀ t, p ≤ t → t < l.D.length → ¬ placeF l.D[t]! k < 0) := by
  obtain ⟨p, p1, p2, p3, p4, p5⟩ := bs_spec l k hn (l.D.length + 1) 0 l.D.length (by omega) (Nat.zero_le _) (Nat.le_refl _)
  have e : bsearch l k (fun x0 x1 => placeF x0 x1) = bsearch_l0 l k (fun x0 x1 => placeF x0 x1) (l.D.length + 1) ((0 : Nat) : Int) (l.D.length : Int) := by
    unfold bsearch
    rw [show ((l.D.length : Int) - 0).toNat + 1 = l.D.length + 1 by omega]; rfl
  refine ⟨p, ?_, p3, ?_, fun mono => p5 mono (fun t ht => absurd ht (Nat.not_lt_zero t)) (fun t ht h2 => by omega)⟩
  · show (bsearch l k _).1 = _
    rw [e]; exact p1
  · show (bsearch l k _).2 = _
    rw [e]; exact p4
theorem place_lt {l : Sl Seen} {k : Nat → Int} (hn : l.D.length ≤ 1000000) (h : (place l k).2 = true) : 0 ≤ (place l k).1 ∧ (place l k).1 < (l.D.length : Int) := by
  obtain ⟨p, p1, p2, p3, _⟩ := place_all l k hn
  rw [p3, Bool.and_eq_true, decide_eq_true_eq] at h
  omega
theorem place_le (l : Sl Seen) (k : Nat → Int) (hn : l.D.length ≤ 1000000) : 0 ≤ (place l k).1 ∧ (place l k).1 ≤ (l.D.length : Int) := by
  obtain ⟨p, p1, p2, p3, _⟩ := place_all l k hn
  omega
/-- In a rising list: what stands ahead, and what stands there. -/
theorem place_split {l : Sl Seen} {k : Nat → Int} (hn : l.D.length ≤ 1000000) (hl : KB l.D) (hk : KeyB k) (hr : rt none l.D = true) : ∃ A B : List Seen, l.D = A ++ B ∧ (place l k).1 = (A.length : Int) ∧ (∀ x ∈ A, ll (kL x.key) (kL k) = true) ∧
    ((∃ y ys, B = y :: ys ∧ kL y.key = kL k ∧ (place l k).2 = true) ∨ ((place l k).2 = false ∧ ∀ y ∈ B, ll (kL k) (kL y.key) = true)) := by
  obtain ⟨p, p1, p2, p3, p4⟩ := place_all l k hn
  have hat : ∀ t, t < l.D.length → placeF l.D[t]! k = if ll (kL l.D[t]!.key) (kL k) then -1 else if kL l.D[t]!.key = kL k then 0 else 1 := fun t ht => placeF_val (hl.at ht) hk
  have hneg : ∀ t, t < l.D.length → (placeF l.D[t]! k < 0 ↔ ll (kL l.D[t]!.key) (kL k) = true) := fun t ht => by
    rw [hat t ht]
    cases ll (kL l.D[t]!.key) (kL k)
    · by_cases e : kL l.D[t]!.key = kL k
      · rw [if_neg (by decide), if_pos e]; decide
      · rw [if_neg (by decide), if_neg e]; decide
    · rw [if_pos rfl]; decide
  have hpw : ∀ (D : List Seen), rt none D = true → ∀ s t : Nat, s < t → t < D.length → ll (kL D[s]!.key) (kL D[t]!.key) = true := by
    intro D
    induction D with
    | nil => intro _ s t _ h; simp at h
    | cons x xs ih =>
      intro h s t hst ht
      obtain ⟨h1, h2, h3⟩ := rt_cons.1 h
      obtain ⟨t', rfl⟩ : ∃ t', t = t' + 1 := ⟨t - 1, by omega⟩
      have ht' : t' < xs.length := by simpa using ht
      have e2 : (x :: xs)[t' + 1]! = xs[t']! := by simp
      rw [e2]
      cases s with
      | zero =>
        show ll (kL x.key) _ = true
        rw [getElem!_pos xs t' ht']
        exact h3 _ (List.getElem_mem ht')
      | succ s' =>
        have e1 : (x :: xs)[s' + 1]! = xs[s']! := by simp
        rw [e1]
        exact ih h2 s' t' (by omega) ht'
  obtain ⟨q1, q2⟩ := p4 fun s t hst ht hlt => by
    rcases Nat.lt_or_ge s t with h | h
    · exact (hneg s (by omega)).2 (ll_trans (hpw l.D hr s t h ht) ((hneg t ht).1 hlt))
    · have : s = t := by omega
      rw [this]; exact hlt
  refine ⟨l.D.take p, l.D.drop p, (List.take_append_drop p l.D).symm, by rw [List.length_take, Nat.min_eq_left p2]; exact p1, fun x hx => ?_, ?_⟩
  · obtain ⟨t, ht, rfl⟩ := List.getElem_of_mem hx
    have htp : t < p := by rw [List.length_take] at ht; omega
    have htn : t < l.D.length := by omega
    have := (hneg t htn).1 (q1 t htp)
    rw [List.getElem_take]
    rwa [getElem!_pos l.D t htn] at this
  · by_cases hpn : p < l.D.length
    · have hd : l.D.drop p = l.D[p] :: l.D.drop (p + 1) := List.drop_eq_getElem_cons hpn
      have hnot := (not_congr (hneg p hpn)).1 (q2 p (Nat.le_refl _) hpn)
      rw [getElem!_pos l.D p hpn] at hnot
      by_cases e : kL l.D[p].key = kL k
      · refine .inl ⟨l.D[p], l.D.drop (p + 1), hd, e, ?_⟩
        have hz := hat p hpn
        rw [getElem!_pos l.D p hpn, if_neg hnot, if_pos e] at hz
        rw [p3, getElem!_pos l.D p hpn, decide_eq_true hpn, hz]; rfl
      · refine .inr ⟨?_, fun y hy => ?_⟩
        · have hz := hat p hpn
          rw [getElem!_pos l.D p hpn, if_neg hnot, if_neg e] at hz
          rw [p3, getElem!_pos l.D p hpn, decide_eq_true hpn, hz]; rfl
        · have hgt : ll (kL k) (kL l.D[p].key) = true := ll_tri (by simpa using hnot) e
          rw [hd] at hy
          rcases List.mem_cons.1 hy with rfl | hy
          · exact hgt
          · obtain ⟨t, ht, rfl⟩ := List.getElem_of_mem hy
            have ht2 : p + 1 + t < l.D.length := by rw [List.length_drop] at ht; omega
            have := hpw l.D hr p (p + 1 + t) (by omega) ht2
            rw [getElem!_pos l.D p hpn, getElem!_pos l.D _ ht2] at this
            rw [List.getElem_drop]
            exact ll_trans hgt this
    · refine .inr ⟨by rw [p3, decide_eq_false hpn]; rfl, fun y hy => ?_⟩
      rw [List.drop_of_length_le (by omega)] at hy
      cases hy
theorem insS_split {k : Nat → Int} {v : Int} : ∀ {A B : List Seen}, (∀ x ∈ A, ll (kL x.key) (kL k) = true) → insS k v (A ++ B) = A ++ insS k v B
  | [], _, _ => rfl
  | x :: A, B, h => by
    show insS k v (x :: (A ++ B)) = x :: (A ++ insS k v B)
    rw [insS, if_pos (h x (by simp)), insS_split fun y hy => h y (by simp [hy])]
theorem flr_split {q : List Int} : ∀ {A B : List Seen}, (∀ x ∈ A, ll (kL x.key) q = true) → flr q (A ++ B) = flr q B
  | [], _, _ => rfl
  | x :: A, B, h => by
    show flr q (x :: (A ++ B)) = _
    rw [flr_cons, if_neg (ll_ne (h x (by simp))), flr_split fun y hy => h y (by simp [hy])]
def pFloor (l : (Sl Seen)) (k : (Nat → Int)) : Int :=
  (bif (place l k).2 then (bif ((pRight l) == 0) then l.D[((place l k).1).toNat]!.ver else 0) else 0)
theorem pFloor_calls (l : (Sl Seen)) (k : (Nat → Int)) (hl : ∀ x ∈ l.D, KeyB x.key) (hl1 : l.D.length ≤ 1000000) : PCalls Tryd.prog 24 [sS (some l.nil) eSeen l.D, .agg [.pv (.lit (.int .u8 (k 0))), .pv (.lit (.int .u8 (k 1))), .pv (.lit (.int .u8 (k 2))), .pv (.lit (.int .u8 (k 3))), .pv (.lit (.int .u8 (k 4))), .pv (.lit (.int .u8 (k 5))), .pv (.lit (.int .u8 (k 6))), .pv (.lit (.int .u8 (k 7)))]] (.pv (.lit (.int .i64 (pFloor l k)))) := by
 generalize hR : pFloor l k = R
 refine PCalls.of_body tabOk Tryd.func24 rfl rfl rfl rfl rfl mixed fun E hP C hI => ?_
 refine Awp.consP C ?_
 refine rvc_un (rexec_prim C (δ := { v := .ptr 3 0, new := [(3, .cells [.pv (.lit (.int .u8 (k 0))), .pv (.lit (.int .u8 (k 1))), .pv (.lit (.int .u8 (k 2))), .pv (.lit (.int .u8 (k 3))), .pv (.lit (.int .u8 (k 4))), .pv (.lit (.int .u8 (k 5))), .pv (.lit (.int .u8 (k 6))), .pv (.lit (.int .u8 (k 7)))])] }) rfl rfl rfl rfl trivial rfl ?_)
 refine rvP C (.pv (.lit (.int .i64 0))) ?_
 refine rvc_nil ?_
 refine Awp.seq ?_
 refine Awp.consP C ?_
 refine rvP C (sS (some l.nil) eSeen l.D) ?_
 refine rvP C (.agg [.pv (.lit (.int .u8 (k 0))), .pv (.lit (.int .u8 (k 1))), .pv (.lit (.int .u8 (k 2))), .pv (.lit (.int .u8 (k 3))), .pv (.lit (.int .u8 (k 4))), .pv (.lit (.int .u8 (k 5))), .pv (.lit (.int .u8 (k 6))), .pv (.lit (.int .u8 (k 7)))]) ?_
 refine rvc_un (rexec_call hP C rfl rfl rfl (place_calls l k hl1) ?_)
 refine rvP C (.tup [.pv (.lit (.int .i64 ((place l k).1))), .pv (.lit (.bool ((place l k).2)))]) ?_
 refine rvP C (.pv (.lit (.int .i64 ((place l k).1)))) ?_
 refine rvP C (.pv (.lit (.bool ((place l k).2)))) ?_
 refine rvP C (.pv (.lit (.int .i64 ((place l k).1)))) ?_
 refine rvP C (.pv (.lit (.bool ((place l k).2)))) ?_
 refine rvc_nil ?_
 refine Awp.consP C ?_
 refine rvP C (.pv (.lit (.bool ((place l k).2)))) ?_
 refine rvP C (.pv (.lit (.bool ((place l k).2)))) ?_
 refine rvc_case 14 ((place l k).2) rfl (fun h1 => ?_) (fun h1 => ?_)
 ·
  replace hR := of_true h1 hR
  refine rvO C (sS (some l.nil) eSeen l.D) ?_
  refine rvc_open rfl rfl rfl (rexec_call hP C rfl rfl rfl (pRight_calls l hl hl1) ?_)
  refine rvO C (.pv (.lit (.bool ((pRight l) == 0)))) ?_
  refine rvP C (.pv (.lit (.bool ((pRight l) == 0)))) ?_
  refine rvc_nil ?_
  refine Awp.cond (b := ((pRight l) == 0)) rfl (fun h2 => ?_) (fun h2 => ?_)
  ·
   replace hR := of_true h2 hR
   refine Awp.consP C ?_
   refine rvP C (sS (some l.nil) eSeen l.D) ?_
   refine rvP C (.pv (.lit (.int .i64 ((place l k).1)))) ?_
   have h3 : l.D[((place l k).1).toNat]? = some l.D[((place l k).1).toNat]! := getE (by have h_ := place_lt (k := k) hl1 ‹(place l k).2 = true›; omega)
   refine rvc_un (rexec_idxS C rfl rfl rfl rfl rfl rfl (l.D[((place l k).1).toNat]!) (by have h_ := place_lt (k := k) hl1 ‹(place l k).2 = true›; omega) h3 ?_)
   refine rvP C (.rp [.lit (.int .i64 (l.D[((place l k).1).toNat]!.ver))]) ?_
   refine rvP C (.pv (.lit (.int .i64 (l.D[((place l k).1).toNat]!.ver)))) ?_
   refine rvP C (.pv (.lit (.int .i64 (l.D[((place l k).1).toNat]!.ver)))) ?_
   refine rvc_nil ?_
   refine Awp.ret ?_
   subst hR
   exact ⟨.inl rfl, rfl⟩
  ·
   replace hR := of_false h2 hR
   refine Awp.skip ?_
   refine Awp.consP C ?_
   refine rvP C (.pv (.lit (.int .i64 0))) ?_
   refine rvc_nil ?_
   refine Awp.ret ?_
   subst hR
   exact ⟨.inl rfl, rfl⟩
 ·
  replace hR := of_false h1 hR
  refine rvS ?_
  refine rvS ?_
  refine rvS ?_
  refine rvP C (.pv (.lit (.bool false))) ?_
  refine rvc_nil ?_
  refine Awp.condF (b := false) rfl rfl ?_
  refine Awp.skip ?_
  refine Awp.consP C ?_
  refine rvP C (.pv (.lit (.int .i64 0))) ?_
  refine rvc_nil ?_
  refine Awp.ret ?_
  subst hR
  exact ⟨.inl rfl, rfl⟩
def rpFloor_l0 (k : (Nat → Int)) : List Seen → Nat → Int
  | [], _ => 0
  | x :: xs, i => (bif (((x.key 0) == (k 0)) && (((x.key 1) == (k 1)) && (((x.key 2) == (k 2)) && (((x.key 3) == (k 3)) && (((x.key 4) == (k 4)) && (((x.key 5) == (k 5)) && (((x.key 6) == (k 6)) && (((x.key 7) == (k 7)) && true)))))))) then x.ver else rpFloor_l0 k xs (i + 1) )
def rpFloor (l : (Sl Seen)) (k : (Nat → Int)) : Int :=
  (bif ((rpRight l) != 0) then 0 else rpFloor_l0 k l.D 0 )
theorem rpFloor_calls (l : (Sl Seen)) (k : (Nat → Int)) (hl : ∀ x ∈ l.D, KeyB x.key) (hl1 : l.D.length ≤ 1000000) : PCalls Tryd.prog 25 [sS (some l.nil) eSeen l.D, .agg [.pv (.lit (.int .u8 (k 0))), .pv (.lit (.int .u8 (k 1))), .pv (.lit (.int .u8 (k 2))), .pv (.lit (.int .u8 (k 3))), .pv (.lit (.int .u8 (k 4))), .pv (.lit (.int .u8 (k 5))), .pv (.lit (.int .u8 (k 6))), .pv (.lit (.int .u8 (k 7)))]] (.pv (.lit (.int .i64 (rpFloor l k)))) := by
 generalize hR : rpFloor l k = R
 refine PCalls.of_body tabOk Tryd.func25 rfl rfl rfl rfl rfl mixed fun E hP C hI => ?_
 refine Awp.consP C ?_
 refine rvc_un (rexec_prim C (δ := { v := .ptr 3 0, new := [(3, .cells [.pv (.lit (.int .u8 (k 0))), .pv (.lit (.int .u8 (k 1))), .pv (.lit (.int .u8 (k 2))), .pv (.lit (.int .u8 (k 3))), .pv (.lit (.int .u8 (k 4))), .pv (.lit (.int .u8 (k 5))), .pv (.lit (.int .u8 (k 6))), .pv (.lit (.int .u8 (k 7)))])] }) rfl rfl rfl rfl trivial rfl ?_)
 refine rvP C (.pv (.lit (.int .i64 0))) ?_
 refine rvc_nil ?_
 refine Awp.seq ?_
 refine Awp.consP C ?_
 refine rvP C (sS (some l.nil) eSeen l.D) ?_
 refine rvc_un (rexec_call hP C rfl rfl rfl (rpRight_calls l hl hl1) ?_)
 refine rvP C (.pv (.lit (.bool ((rpRight l) != 0)))) ?_
 refine rvc_nil ?_
 refine Awp.cond (b := ((rpRight l) != 0)) rfl (fun h1 => ?_) (fun h1 => ?_)
 ·
  replace hR := of_true h1 hR
  refine Awp.consP C ?_
  refine rvP C (.pv (.lit (.int .i64 0))) ?_
  refine rvc_nil ?_
  refine Awp.ret ?_
  subst hR
  exact ⟨.inl rfl, rfl⟩
 ·
  replace hR := of_false h1 hR
  refine Awp.skip ?_
  refine Awp.seq ?_
  refine Awp.consP C ?_
  refine rvP C (sS (some l.nil) eSeen l.D) ?_
  refine rvP C (.pv (.lit (.int .i64 (l.D.length : Int)))) ?_
  refine rvP C (.pv (.lit (.int .i64 0))) ?_
  refine rvc_nil ?_
  refine Awp.block ?_
  refine Awp.forR (σ := Unit) (l.D.length) (fun i _v => [(3, .ptr 3 0), (10, sS (some l.nil) eSeen l.D), (11, .pv (.lit (.int .i64 (l.D.length : Int)))), (12, .pv (.lit (.int .i64 (i : Int))))]) (fun i _v => [(3, .cells [.pv (.lit (.int .u8 (k 0))), .pv (.lit (.int .u8 (k 1))), .pv (.lit (.int .u8 (k 2))), .pv (.lit (.int .u8 (k 3))), .pv (.lit (.int .u8 (k 4))), .pv (.lit (.int .u8 (k 5))), .pv (.lit (.int .u8 (k 6))), .pv (.lit (.int .u8 (k 7)))])]) [3] (fun i _v => rpFloor_l0 k (l.D.drop i) i  = R) () ?_ ?_ (fun i _v h2 hR => ?_)
  · exact hR
  · exact ⟨fun b => b, WeakerR.ofL (Ks := [3]) hI ⟨⟨rfl, rfl⟩, ⟨rfl, rfl⟩, ⟨rfl, rfl⟩, ⟨rfl, rfl⟩, trivial⟩ (okH_cons rfl rfl rfl rfl (okH_nil)) rfl⟩
  refine Awp.consP C ?_
  refine rvP C (.pv (.lit (.bool (decide ((i : Int) < (l.D.length : Int)))))) ?_
  refine rvc_nil ?_
  refine Awp.seq ?_
  refine Awp.cond (b := (decide ((i : Int) < (l.D.length : Int)))) rfl (fun h3 => ?_) (fun h3 => ?_)
  ·
   have h4 : i < l.D.length := by have := of_decide_eq_true h3; omega
   obtain ⟨x, h5⟩ := getX h4
   rw [drop_at h5] at hR
   refine Awp.skip ?_
   refine Awp.seq ?_
   refine Awp.block ?_
   refine Awp.consP C ?_
   refine rvc_un (rexec_idxS C rfl rfl rfl rfl rfl rfl x (Int.natCast_nonneg _) h5 ?_)
   refine rvP C (.agg [.pv (.lit (.int .u8 (x.key 0))), .pv (.lit (.int .u8 (x.key 1))), .pv (.lit (.int .u8 (x.key 2))), .pv (.lit (.int .u8 (x.key 3))), .pv (.lit (.int .u8 (x.key 4))), .pv (.lit (.int .u8 (x.key 5))), .pv (.lit (.int .u8 (x.key 6))), .pv (.lit (.int .u8 (x.key 7))), .pv (.lit (.int .i64 x.ver))]) ?_
   refine rvc_un (rexec_prim C (δ := { v := .ptr 6 0, new := [(6, .cells [.pv (.lit (.int .u8 0)), .pv (.lit (.int .u8 0)), .pv (.lit (.int .u8 0)), .pv (.lit (.int .u8 0)), .pv (.lit (.int .u8 0)), .pv (.lit (.int .u8 0)), .pv (.lit (.int .u8 0)), .pv (.lit (.int .u8 0)), .pv (.lit (.int .i64 0))])] }) rfl rfl rfl rfl trivial rfl ?_)
   refine rvc_un (rexec_prim C (δ := { v := .undef, wr := [(6, some (.cells [.pv (.lit (.int .u8 (x.key 0))), .pv (.lit (.int .u8 (x.key 1))), .pv (.lit (.int .u8 (x.key 2))), .pv (.lit (.int .u8 (x.key 3))), .pv (.lit (.int .u8 (x.key 4))), .pv (.lit (.int .u8 (x.key 5))), .pv (.lit (.int .u8 (x.key 6))), .pv (.lit (.int .u8 (x.key 7))), .pv (.lit (.int .i64 x.ver))]))] }) rfl rfl rfl rfl trivial rfl ?_)
   refine rvc_nil ?_
   refine Awp.consP C ?_
   refine rvP C (.ptr 6 0) ?_
   refine rvP C (.agg [.pv (.lit (.int .u8 (x.key 0))), .pv (.lit (.int .u8 (x.key 1))), .pv (.lit (.int .u8 (x.key 2))), .pv (.lit (.int .u8 (x.key 3))), .pv (.lit (.int .u8 (x.key 4))), .pv (.lit (.int .u8 (x.key 5))), .pv (.lit (.int .u8 (x.key 6))), .pv (.lit (.int .u8 (x.key 7)))]) ?_
   refine rvP C (.agg [.pv (.lit (.int .u8 (k 0))), .pv (.lit (.int .u8 (k 1))), .pv (.lit (.int .u8 (k 2))), .pv (.lit (.int .u8 (k 3))), .pv (.lit (.int .u8 (k 4))), .pv (.lit (.int .u8 (k 5))), .pv (.lit (.int .u8 (k 6))), .pv (.lit (.int .u8 (k 7)))]) ?_
   refine rvP C (.pv (.lit (.bool (((x.key 0) == (k 0)) && (((x.key 1) == (k 1)) && (((x.key 2) == (k 2)) && (((x.key 3) == (k 3)) && (((x.key 4) == (k 4)) && (((x.key 5) == (k 5)) && (((x.key 6) == (k 6)) && (((x.key 7) == (k 7)) && true))))))))))) ?_
   refine rvc_nil ?_
   refine Awp.cond (b := (((x.key 0) == (k 0)) && (((x.key 1) == (k 1)) && (((x.key 2) == (k 2)) && (((x.key 3) == (k 3)) && (((x.key 4) == (k 4)) && (((x.key 5) == (k 5)) && (((x.key 6) == (k 6)) && (((x.key 7) == (k 7)) && true))))))))) rfl (fun h6 => ?_) (fun h6 => ?_)
   ·
    replace hR := of_true h6 hR
    refine Awp.consP C ?_
    refine rvP C (.ptr 6 8) ?_
    refine rvP C (.pv (.lit (.int .i64 x.ver))) ?_
    refine rvP C (.pv (.lit (.int .i64 x.ver))) ?_
    refine rvc_nil ?_
    refine Awp.ret ?_
    subst hR
    exact ⟨.inl rfl, rfl⟩
   ·
    replace hR := of_false h6 hR
    refine Awp.skip ?_
    refine Awp.regionP C ?_
    refine rvP C (.pv (.lit (.int .i64 (IntKind.i64.wrap ((i : Int) + 1))))) ?_
    refine rvP C (.pv (.lit (.int .i64 (IntKind.i64.wrap ((i : Int) + 1))))) ?_
    refine rvc_nil ?_
    refine ⟨h4, (), ?_, ?_⟩
    · exact hR
    · exact ⟨fun b => b, WeakerR.ofL (Ks := [3]) hI ⟨⟨rfl, rfl⟩, ⟨rfl, rfl⟩, ⟨rfl, rfl⟩, ⟨lit_cast (wrap_i64 (by omega) (by omega)), rfl⟩, trivial⟩ (okH_cons rfl rfl rfl rfl (okH_nil)) rfl⟩
  ·
   have h4 : ¬ i < l.D.length := by have := of_decide_eq_false h3; omega
   rw [drop_end h4] at hR
   refine Awp.exit ?_
   refine Awp.consP C ?_
   refine rvP C (.pv (.lit (.int .i64 0))) ?_
   refine rvc_nil ?_
   refine Awp.ret ?_
   subst hR
   exact ⟨.inl rfl, rfl⟩
theorem insertS_calls (D : List Seen) (i : Nat) (v : Sl Seen) (hi : i ≤ D.length) (hv : 0 < v.D.length) (hl1 : D.length ≤ 1000000) (hl2 : v.D.length ≤ 1000000) : TCalls Tryd.prog 46 [.sl 0 0 D.length 9 false, .pv (.lit (.int .i64 (i : Int))), sS (some v.nil) eSeen v.D] (.cells (encC eSeen D)) (.sl 1 0 (insertL D i v.D).length 9 false) (.cells (encC eSeen (insertL D i v.D))) := by
 have hm0 : ((v.D.length : Int) == 0) = false := by simp; intro h; rw [h] at hv; simp at hv
 have hrep : D.take i ++ List.replicate (D.length + v.D.length - i) (Seen.mk (fun _ => 0) 0) = D.take i ++ List.replicate v.D.length (Seen.mk (fun _ => 0) 0) ++ List.replicate (D.length - i) (Seen.mk (fun _ => 0) 0) := by
  rw [List.append_assoc, List.replicate_append_replicate]; congr 2; omega
 refine TCalls.of_body tabOk Tryd.func46 rfl rfl rfl rfl rfl (encC_within _ _) (encC_within _ _) mixed fun E hP C hI => ?_
 refine Awp.capOf 0 0 D.length 9 false (encC eSeen D) rfl rfl (by rw [encC_len]; rfl) fun c hc0 => ?_
 refine Awp.cons C (fun _ => .pure) (by kernel_rfl) ?_ -- region 0 false
 refine rvc_prim C rfl rfl rfl rfl (trivial) rfl ?_
 refine rvc_nil ?_
 refine Awp.cons C (fun _ => .pure) (by kernel_rfl) ?_ -- region 1 false
 refine rvc_prim C rfl rfl rfl rfl (trivial) rfl ?_
 refine rvc_prim C rfl rfl rfl rfl (trivial) rfl ?_
 refine rvc_un (rexec_sliceLoC C rfl rfl rfl rfl rfl rfl hi ?_)
 refine rvc_nil ?_
 refine Awp.cons C (fun _ => .pure) (by kernel_rfl) ?_ -- region 2 false
 refine rvc_prim C rfl rfl rfl rfl (trivial) rfl ?_
 refine rvc_prim C rfl rfl rfl rfl (trivial) rfl ?_
 refine rvc_prim C rfl rfl rfl rfl (trivial) rfl ?_
 refine rvc_nil ?_
 refine Awp.seq ?_
 refine Awp.cons C (fun _ => .pure) (by kernel_rfl) ?_ -- region 3 false
 refine rvc_prim C rfl rfl rfl rfl (trivial) rfl ?_
 refine rvc_prim C rfl rfl rfl rfl (trivial) rfl ?_
 refine rvc_nil ?_
 refine Awp.condF rfl (hm0) ?_
 refine Awp.skip ?_
 refine Awp.cons C (fun _ => .pure) (by kernel_rfl) ?_ -- region 5 false
 refine rvc_prim C rfl rfl rfl rfl (trivial) rfl ?_
 refine rvc_un (rexec_lenC C rfl rfl rfl rfl rfl rfl ?_)
 refine rvc_prim C rfl rfl rfl rfl (trivial) rfl ?_
 refine rvc_nil ?_
 refine Awp.seq ?_
 refine Awp.cons C (fun _ => .pure) (by kernel_rfl) ?_ -- region 6 false
 refine rvc_prim C rfl rfl rfl rfl (trivial) rfl ?_
 refine rvc_prim C rfl rfl rfl rfl (trivial) rfl ?_
 refine rvc_prim C rfl rfl rfl rfl (trivial) rfl ?_
 refine rvc_nil ?_
 refine Awp.cond rfl (fun hc => ?_) (fun hc => ?_)
 ·
  refine Awp.dropCap 0 0 0 D.length 9 c rfl ?_
  have hin : i = D.length := by have := beq_iff_eq.1 hc; omega
  refine Awp.cons C (fun _ => .pure) (by kernel_rfl) ?_ -- region 7 false
  refine rvc_prim C rfl rfl rfl rfl (trivial) rfl ?_
  refine rvc_prim C rfl rfl rfl rfl (trivial) rfl ?_
  refine rvc_un (rexec_append C rfl rfl rfl rfl rfl rfl rfl rfl (fun _ h => by cases h) rfl (en := eSeen) (D0 := D) (D := v.D) rfl rfl rfl rfl (by show (2 * (D.length + v.D.length) + 192) * 16 ≤ _; omega) (by decide) (nn := (D ++ v.D).length) (by simp) ?_)
  refine rvc_prim C rfl rfl rfl rfl (trivial) rfl ?_
  refine rvc_nil ?_
  rw [show insertL D i v.D = D ++ v.D by subst hin; simp [insertL]]
  refine Awp.weakenR (S := [(6, .sl 1 0 (D ++ v.D).length 9 false)]) (H := [(1, .cells (encC eSeen (D ++ v.D)))]) (U := [0, 1]) (fun x => bif x == 1 then 25 else x) (WeakerR.ofLI (I := [0]) (Ks := [1]) hI ⟨⟨sl_to rfl rfl (by rfl), rfl⟩, trivial⟩ (okH_list rfl rfl rfl okH_nil) rfl rfl) ?_
  refine Awp.ret ?_
  exact ⟨.inl rfl, rfl, rfl⟩
 ·
  have hne : i ≠ D.length := by have := ne_of_beq_false hc; omega
  refine Awp.skip ?_
  refine Awp.seq ?_
  refine Awp.cons C (fun _ => .pure) (by kernel_rfl) ?_ -- region 8 false
  refine rvc_prim C rfl rfl rfl rfl (trivial) rfl ?_
  refine rvc_prim C rfl rfl rfl rfl (trivial) rfl ?_
  refine rvc_un (rexec_primv C { v := .pv (.lit (.int .i64 ((D.length + v.D.length : Nat) : Int))) } rfl rfl rfl rfl trivial (delta_int (by rw [wrapI _ (by omega)]; omega)) rfl ?_)
  refine rvc_prim C rfl rfl rfl rfl (trivial) rfl ?_
  refine rvc_un (rexec_capC C rfl rfl rfl rfl rfl rfl ?_)
  refine rvc_prim C rfl rfl rfl rfl (trivial) rfl ?_
  refine rvc_nil ?_
  refine Awp.cond rfl (fun hc => ?_) (fun hc => ?_)
  ·
   have hgt : c < D.length + v.D.length := by have := of_decide_eq_true hc; omega
   refine Awp.cons C (fun _ => .pure) (by kernel_rfl) ?_ -- region 9 false
   refine rvc_prim C rfl rfl rfl rfl (trivial) rfl ?_
   refine rvc_prim C rfl rfl rfl rfl (trivial) rfl ?_
   refine rvc_un (rexec_sliceHiC C i rfl rfl rfl rfl rfl rfl (by omega) ?_)
   refine rvc_prim C rfl rfl rfl rfl (trivial) rfl ?_
   refine rvc_prim C rfl rfl rfl rfl (trivial) rfl ?_
   refine rvc_un (rexec_primv C { v := .pv (.lit (.int .i64 ((D.length + v.D.length : Nat) : Int))) } rfl rfl rfl rfl trivial (delta_int (by rw [wrapI _ (by omega)]; omega)) rfl ?_)
   refine rvc_prim C rfl rfl rfl rfl (trivial) rfl ?_
   refine rvc_un (rexec_primv C { v := .pv (.lit (.int .i64 ((D.length + v.D.length - i : Nat) : Int))) } rfl rfl rfl rfl trivial (delta_int (by rw [wrapI _ (by omega)]; omega)) rfl ?_)
   refine rvc_un (rexec_appendZ C rfl rfl rfl rfl rfl rfl rfl rfl rfl (Seen.mk (fun _ => 0) 0) D i (D.length + v.D.length - i) rfl rfl rfl hi (by omega) (by omega) (by show (2 * (i + (D.length + v.D.length - i)) + 192) * 16 ≤ _; omega) (by decide) (by decide) rfl rfl ?_)
   refine rvc_prim C rfl rfl rfl rfl (trivial) rfl ?_
   refine rvc_nil ?_
   refine Awp.cons C (fun _ => .pure) (by kernel_rfl) ?_ -- region 10 false
   refine rvc_prim C rfl rfl rfl rfl (trivial) rfl ?_
   refine rvc_prim C rfl rfl rfl rfl (trivial) rfl ?_
   refine rvc_un (rexec_sliceOwn C (l := i) rfl rfl rfl rfl rfl rfl (by omega) ?_)
   refine rvc_prim C rfl rfl rfl rfl (trivial) rfl ?_
   refine rvc_un (rexec_copyS C rfl rfl rfl rfl rfl rfl (e := eSeen) v.D (encC eSeen (D.take i ++ v.D ++ List.replicate (D.length - i) (Seen.mk (fun _ => 0) 0))) rfl rfl rfl (by omega) (by rw [encC_len]; simp [eSeen]; omega) (by rw [hrep]; exact set_mid (by simp) (by simp [eSeen]; omega)) ?_)
   refine rvc_nil ?_
   refine Awp.dropCap 0 0 0 D.length 9 c rfl ?_
   refine Awp.consP C ?_
   refine rvc_prim C rfl rfl rfl rfl (trivial) rfl ?_
   refine rvc_prim C rfl rfl rfl rfl (trivial) rfl ?_
   refine rvc_prim C rfl rfl rfl rfl (trivial) rfl ?_
   refine rvc_un (rexec_primv C { v := .pv (.lit (.int .i64 ((i + v.D.length : Nat) : Int))) } rfl rfl rfl rfl trivial (delta_int (by rw [wrapI _ (by omega)]; omega)) rfl ?_)
   refine rvc_un (rexec_sliceOwn C (l := i + v.D.length) rfl rfl rfl rfl rfl rfl (by omega) ?_)
   refine rvc_prim C rfl rfl rfl rfl (trivial) rfl ?_
   refine rvc_prim C rfl rfl rfl rfl (trivial) rfl ?_
   refine rvc_un (rexec_sliceOwn C (l := i) rfl rfl rfl rfl rfl rfl (by omega) ?_)
   refine rvc_un (rexec_copyO C rfl rfl rfl rfl rfl rfl (e := eSeen) (D.drop i) (encC eSeen (insertL D i v.D)) rfl rfl rfl rfl (by rw [encC_len]; simp [eSeen]; omega) (by have := tail_of (e := eSeen) (D := D) (Z := []) (i := i) (k := D.length - i) (j := (D.drop i).length * 9) hi (Nat.le_refl _) (by simp [eSeen]); simpa [eSeen] using this) (by simp; omega) (by rw [encC_len]; simp [eSeen]; omega) (by have := set_mid (e := eSeen) (A := D.take i ++ v.D) (B := List.replicate (D.length - i) (Seen.mk (fun _ => 0) 0)) (B' := D.drop i) (C := []) (k := (i + v.D.length) * 9) (by simp) (by simp [eSeen]; omega); simpa [insertL] using this) ?_ rfl)
   refine rvc_nil ?_
   refine Awp.cons C (fun _ => .pure) (by kernel_rfl) ?_ -- region 12 false
   refine rvc_prim C rfl rfl rfl rfl (trivial) rfl ?_
   refine rvc_prim C rfl rfl rfl rfl (trivial) rfl ?_
   refine rvc_nil ?_
   refine Awp.weakenR (S := [(6, .sl 1 0 (insertL D i v.D).length 9 false)]) (H := [(1, .cells (encC eSeen (insertL D i v.D)))]) (U := [0, 1]) (fun x => bif x == 1 then 40 else x) (WeakerR.ofLI (I := [0]) (Ks := [1]) hI ⟨⟨sl_to rfl rfl (by rw [insertL_len (D := D) (M := v.D) hi] <;> omega), rfl⟩, trivial⟩ (okH_list rfl rfl rfl okH_nil) rfl rfl) ?_
   refine Awp.ret ?_
   exact ⟨.inl rfl, rfl, rfl⟩
  ·
   have hle : D.length + v.D.length ≤ c := by have := of_decide_eq_false hc; omega
   refine Awp.skip ?_
   refine Awp.cons C (fun _ => .pure) (by kernel_rfl) ?_ -- region 13 false
   refine rvc_prim C rfl rfl rfl rfl (trivial) rfl ?_
   refine rvc_prim C rfl rfl rfl rfl (trivial) rfl ?_
   refine rvc_prim C rfl rfl rfl rfl (trivial) rfl ?_
   refine rvc_un (rexec_primv C { v := .pv (.lit (.int .i64 ((D.length + v.D.length : Nat) : Int))) } rfl rfl rfl rfl trivial (delta_int (by rw [wrapI _ (by omega)]; omega)) rfl ?_)
   refine rvc_un (rexec_sliceHiC C (D.length + v.D.length) rfl rfl rfl rfl rfl rfl (by omega) ?_)
   refine rvc_prim C rfl rfl rfl rfl (trivial) rfl ?_
   refine rvc_nil ?_
   refine Awp.seq ?_
   refine Awp.extend 0 0 (D.length + v.D.length) 9 c (encC eSeen D) rfl rfl (by rw [encC_len]; simp [eSeen]; omega) ?_
   refine Awp.dropCap 0 0 0 (D.length + v.D.length) 9 c rfl ?_
   refine Awp.cons C (fun _ => .writer) (by kernel_rfl) ?_ -- region 14 false
   refine rvc_prim C rfl rfl rfl rfl (trivial) rfl ?_
   refine rvc_prim C rfl rfl rfl rfl (trivial) rfl ?_
   refine rvc_prim C rfl rfl rfl rfl (trivial) rfl ?_
   refine rvc_prim C rfl rfl rfl rfl (trivial) rfl ?_
   refine rvc_un (rexec_primv C { v := .pv (.lit (.int .i64 ((i + v.D.length : Nat) : Int))) } rfl rfl rfl rfl trivial (delta_int (by rw [wrapI _ (by omega)]; omega)) rfl ?_)
   refine rvc_un (rexec_sliceOwn C (l := i + v.D.length) rfl rfl rfl rfl rfl rfl (by omega) ?_)
   refine rvc_un (rexec_overlaps C (fn := Tryd.f64) (t := 22) (tR := 4) rfl rfl (by rw [hP]; exact Tryd.func64) rfl rfl rfl (by kernel_rfl) rfl rfl rfl (fl := some v.nil) (m := v.D.length) (ps := encL eSeen v.D) rfl rfl (encL_ne hv (by decide)) (encC_ne (by omega) (by decide)) ?_)
   refine rvc_prim C rfl rfl rfl rfl (trivial) rfl ?_
   refine rvc_nil ?_
   refine Awp.condT rfl (rfl) ?_
   refine Awp.consP C ?_
   refine rvc_prim C rfl rfl rfl rfl (trivial) rfl ?_
   refine rvc_prim C rfl rfl rfl rfl (trivial) rfl ?_
   refine rvc_prim C rfl rfl rfl rfl (trivial) rfl ?_
   refine rvc_un (rexec_primv C { v := .pv (.lit (.int .i64 ((i + v.D.length : Nat) : Int))) } rfl rfl rfl rfl trivial (delta_int (by rw [wrapI _ (by omega)]; omega)) rfl ?_)
   refine rvc_un (rexec_sliceOwn C (l := i + v.D.length) rfl rfl rfl rfl rfl rfl (by omega) ?_)
   refine rvc_prim C rfl rfl rfl rfl (trivial) rfl ?_
   refine rvc_prim C rfl rfl rfl rfl (trivial) rfl ?_
   refine rvc_un (rexec_sliceOwn C (l := i) rfl rfl rfl rfl rfl rfl (by omega) ?_)
   refine rvc_un (rexec_copyO C rfl rfl rfl rfl rfl rfl (e := eSeen) (D.drop i) (setRange (encC eSeen D ++ List.replicate (c * 9 - (encC eSeen D).length) AV.undef) ((i + v.D.length) * 9) (encC eSeen (D.drop i))) rfl rfl rfl rfl (by rw [List.length_append, encC_len, List.length_replicate]; simp [eSeen]; omega) (by have := tail_of (e := eSeen) (D := D) (Z := List.replicate (c * 9 - (encC eSeen D).length) AV.undef) (i := i) (k := D.length + v.D.length - i) (j := (D.drop i).length * 9) hi (by omega) (by simp [eSeen]); simpa [eSeen] using this) (by simp; omega) (by rw [List.length_append, encC_len, List.length_replicate]; simp [eSeen]; omega) (by congr 1; simp) ?_ rfl)
   refine rvc_nil ?_
   refine Awp.cons C (fun _ => .pure) (by kernel_rfl) ?_ -- region 16 false
   refine rvc_prim C rfl rfl rfl rfl (trivial) rfl ?_
   refine rvc_prim C rfl rfl rfl rfl (trivial) rfl ?_
   refine rvc_un (rexec_sliceOwn C (l := i) rfl rfl rfl rfl rfl rfl (by omega) ?_)
   refine rvc_prim C rfl rfl rfl rfl (trivial) rfl ?_
   refine rvc_un (rexec_copyS C rfl rfl rfl rfl rfl rfl (e := eSeen) v.D (encC eSeen (insertL D i v.D) ++ (List.replicate (c * 9 - (encC eSeen D).length) AV.undef).drop (v.D.length * 9)) rfl rfl rfl (by omega) (by rw [setRange_length (by simp only [encC_len, List.length_append, List.length_replicate, List.length_drop, show eSeen.sz = 9 from rfl]; omega)]; simp only [encC_len, List.length_append, List.length_replicate, show eSeen.sz = 9 from rfl]; omega) (by have := insert_inplace (e := eSeen) (D := D) (M := v.D) (Z := List.replicate (c * 9 - (encC eSeen D).length) AV.undef) (i := i) hi (by rw [List.length_replicate, encC_len]; simp [eSeen]; omega); simpa [eSeen] using this) ?_)
   refine rvc_nil ?_
   refine Awp.cons C (fun _ => .pure) (by kernel_rfl) ?_ -- region 17 false
   refine rvc_prim C rfl rfl rfl rfl (trivial) rfl ?_
   refine rvc_prim C rfl rfl rfl rfl (trivial) rfl ?_
   refine rvc_nil ?_
   refine Awp.trim 0 (encC eSeen (insertL D i v.D)) ((List.replicate (c * 9 - (encC eSeen D).length) AV.undef).drop (v.D.length * 9)) rfl ?_
   refine Awp.weakenR (S := [(6, .sl 1 0 (insertL D i v.D).length 9 false)]) (H := [(1, .cells (encC eSeen (insertL D i v.D)))]) (U := [0, 1]) (fun x => bif x == 1 then 0 else x) (WeakerR.ofLI (I := [0]) (Ks := [1]) hI ⟨⟨sl_to rfl rfl (by rw [insertL_len (D := D) (M := v.D) hi] <;> omega), rfl⟩, trivial⟩ (okH_list rfl rfl rfl okH_nil) rfl rfl) ?_
   refine Awp.ret ?_
   exact ⟨.inl rfl, rfl, rfl⟩
def cloneSeen (s : (Sl Seen)) : (Sl Seen) :=
  (bif s.nil then (Sl.mk true []) else (Sl.mk false s.D))
theorem cloneSeen_calls (s : (Sl Seen)) (hl1 : s.D.length ≤ 1000000) : PCalls Tryd.prog 14 [sS (some s.nil) eSeen s.D] (sS (some (cloneSeen s).nil) eSeen ((cloneSeen s).D)) := by
 generalize hR : cloneSeen s = R
 refine PCalls.of_body tabOk Tryd.func14 rfl rfl rfl rfl rfl mixed fun E hP C hI => ?_
 refine Awp.consP C ?_
 refine rvP C (sS (some true) eSeen []) ?_
 refine rvc_nil ?_
 refine Awp.seq ?_
 refine Awp.consP C ?_
 refine rvP C (sS (some s.nil) eSeen s.D) ?_
 refine rvc_un (rexec_eqNil C (f := s.nil) rfl rfl rfl rfl ?_)
 refine rvc_nil ?_
 refine Awp.cond (b := s.nil) rfl (fun h1 => ?_) (fun h1 => ?_)
 ·
  replace hR := of_true h1 hR
  refine Awp.consP C ?_
  refine rvP C (sS (some true) eSeen []) ?_
  refine rvc_nil ?_
  refine Awp.ret ?_
  subst hR
  exact ⟨.inl rfl, rfl⟩
 ·
  replace hR := of_false h1 hR
  refine Awp.skip ?_
  refine Awp.consP C ?_
  refine rvc_un (rexec_prim C (δ := { v := .sl 5 0 0 9 true, new := [(5, .cells (encC eSeen []))] }) rfl rfl rfl rfl trivial rfl ?_)
  refine rvP C (sS (some s.nil) eSeen s.D) ?_
  refine rvc_un (rexec_append C rfl rfl rfl rfl rfl rfl rfl rfl (fun _ h => by cases h) rfl (en := eSeen) (D0 := []) (D := s.D) rfl rfl rfl rfl (by first | omega | (simp <;> omega)) (by decide) (nn := s.D.length) (by simp) ?_)
  refine rvP C (.sl 7 0 s.D.length 9 false) ?_
  refine rvc_nil ?_
  refine Awp.freezeW 7 (encL eSeen s.D) ?_ [(2, sS (some false) eSeen s.D)] [] ?_ ?_ ?_
  · rfl
  · exact ⟨⟨_, rfl, .inl (.inr ⟨_, _, _, rfl, rfl⟩)⟩, trivial⟩
  · exact trivial
  refine Awp.ret ?_
  subst hR
  exact ⟨.inl rfl, rfl⟩
def cloneSeenO (s : (Sl Seen)) : List Seen :=
  s.D
theorem cloneSeenO_calls (s : (Sl Seen)) (hn : s.nil = false) (hl1 : s.D.length ≤ 1000000) : OCalls Tryd.prog 14 [sS (some s.nil) eSeen s.D] (.sl 0 0 (cloneSeenO s).length 9 false) (.cells (encC eSeen (cloneSeenO s))) := by
 generalize hR : cloneSeenO s = R
 refine OCalls.of_body tabOk Tryd.func14 rfl rfl rfl rfl rfl (encC_within _ _) mixed fun E hP C hI => ?_
 refine Awp.consP C ?_
 refine rvP C (sS (some true) eSeen []) ?_
 refine rvc_nil ?_
 refine Awp.seq ?_
 refine Awp.consP C ?_
 refine rvP C (sS (some s.nil) eSeen s.D) ?_
 refine rvc_un (rexec_eqNil C (f := s.nil) rfl rfl rfl rfl ?_)
 refine rvc_nil ?_
 refine Awp.condF (b := s.nil) rfl hn ?_
 refine Awp.skip ?_
 refine Awp.consP C ?_
 refine rvc_un (rexec_prim C (δ := { v := .sl 5 0 0 9 true, new := [(5, .cells (encC eSeen []))] }) rfl rfl rfl rfl trivial rfl ?_)
 refine rvP C (sS (some s.nil) eSeen s.D) ?_
 refine rvc_un (rexec_append C rfl rfl rfl rfl rfl rfl rfl rfl (fun _ h => by cases h) rfl (en := eSeen) (D0 := []) (D := s.D) rfl rfl rfl rfl (by first | omega | (simp <;> omega)) (by decide) (nn := s.D.length) (by simp) ?_)
 refine rvP C (.sl 7 0 s.D.length 9 false) ?_
 refine rvc_nil ?_
 refine Awp.weakenR (S := [(2, .sl 0 0 s.D.length 9 false)]) (H := [(0, .cells (encC eSeen s.D))]) (U := [0]) (fun x => bif x == 0 then 7 else x) (WeakerR.ofL (Ks := [0]) hI ⟨⟨rfl, rfl⟩, trivial⟩ (okH_list rfl rfl rfl okH_nil) rfl) ?_
 refine Awp.ret ?_
 subst hR
 exact ⟨.inl rfl, rfl, rfl⟩
theorem cloneSeenO_nil (s : Sl Seen) (h : s.nil = true) (hl : s.D.length ≤ 1000000) : PCalls Tryd.prog 14 [sS (some s.nil) eSeen s.D] (sS (some true) eSeen []) := by
  have r := cloneSeen_calls s hl
  rw [show cloneSeen s = Sl.mk true [] by unfold cloneSeen; rw [h]; rfl] at r
  exact r
theorem ne0_of {D : List Seen} (h : 0 < D.length) : ((D.length : Int) == 0) = false := by simp; intro e; rw [e] at h; simp at h
def insNil   (v : (Sl Seen)) : List Seen :=
  v.D
theorem insNil_calls   (v : (Sl Seen)) (hv : 0 < v.D.length) (hl1 : v.D.length ≤ 1000000) : OCalls Tryd.prog 46 [sS (some true) eSeen [], .pv (.lit (.int .i64 0)), sS (some v.nil) eSeen v.D] (.sl 0 0 (insNil   v).length 9 false) (.cells (encC eSeen (insNil   v))) := by
 generalize hR : insNil   v = R
 refine OCalls.of_body tabOk Tryd.func46 rfl rfl rfl rfl rfl (encC_within _ _) mixed fun E hP C hI => ?_
 refine Awp.consP C ?_
 refine rvP C (sS (some true) eSeen []) ?_
 refine rvc_nil ?_
 refine Awp.consP C ?_
 refine rvP C (sS (some true) eSeen []) ?_
 refine rvP C (.pv (.lit (.int .i64 0))) ?_
 refine rvc_un (rexec_sliceS C (e := eSeen) (D := []) 0 0 rfl rfl rfl rfl rfl rfl rfl rfl rfl rfl (by have := ne_of_beq_false (ne0_of hv); omega) (by have := ne_of_beq_false (ne0_of hv); omega) [] (by simp) ?_)
 refine rvc_nil ?_
 refine Awp.consP C ?_
 refine rvP C (sS (some v.nil) eSeen v.D) ?_
 refine rvP C (.pv (.lit (.int .i64 (v.D.length : Int)))) ?_
 refine rvP C (.pv (.lit (.int .i64 (v.D.length : Int)))) ?_
 refine rvc_nil ?_
 refine Awp.seq ?_
 refine Awp.consP C ?_
 refine rvP C (.pv (.lit (.int .i64 (v.D.length : Int)))) ?_
 refine rvP C (.pv (.lit (.bool ((v.D.length : Int) == 0)))) ?_
 refine rvc_nil ?_
 refine Awp.condF (b := ((v.D.length : Int) == 0)) rfl (ne0_of hv) ?_
 refine Awp.skip ?_
 refine Awp.consP C ?_
 refine rvP C (sS (some true) eSeen []) ?_
 refine rvP C (.pv (.lit (.int .i64 0))) ?_
 refine rvP C (.pv (.lit (.int .i64 0))) ?_
 refine rvc_nil ?_
 refine Awp.seq ?_
 refine Awp.consP C ?_
 refine rvP C (.pv (.lit (.int .i64 0))) ?_
 refine rvP C (.pv (.lit (.int .i64 0))) ?_
 refine rvP C (.pv (.lit (.bool true))) ?_
 refine rvc_nil ?_
 refine Awp.condT (b := true) rfl rfl ?_
 refine Awp.consP C ?_
 refine rvP C (sS (some true) eSeen []) ?_
 refine rvP C (sS (some v.nil) eSeen v.D) ?_
 refine rvc_un (rexec_appendN C rfl rfl rfl rfl rfl rfl rfl rfl (fun _ h => by cases h) rfl (en := eSeen) (D := v.D) rfl rfl hv (by have := ne_of_beq_false (ne0_of hv); first | omega | (simp <;> omega)) (by decide) (nn := v.D.length) rfl ?_)
 refine rvP C (.sl 25 0 v.D.length 9 false) ?_
 refine rvc_nil ?_
 refine Awp.weakenR (S := [(6, .sl 0 0 v.D.length 9 false)]) (H := [(0, .cells (encC eSeen v.D))]) (U := [0]) (fun x => bif x == 0 then 25 else x) (WeakerR.ofL (Ks := [0]) hI ⟨⟨rfl, rfl⟩, trivial⟩ (okH_list rfl rfl rfl okH_nil) rfl) ?_
 refine Awp.ret ?_
 subst hR
 exact ⟨.inl rfl, rfl, rfl⟩
theorem insertSI_calls (D : List Seen) (i : Int) (v : Sl Seen) (hi : 0 ≤ i ∧ i ≤ (D.length : Int)) (hv : 0 < v.D.length) (hl1 : D.length ≤ 1000000) (hl2 : v.D.length ≤ 1000000) : TCalls Tryd.prog 46 [.sl 0 0 D.length 9 false, .pv (.lit (.int .i64 i)), sS (some v.nil) eSeen v.D] (.cells (encC eSeen D)) (.sl 1 0 (insertL D i.toNat v.D).length 9 false) (.cells (encC eSeen (insertL D i.toNat v.D))) := by
  have r := insertS_calls D i.toNat v (by omega) hv hl1 hl2
  rw [Int.toNat_of_nonneg hi.1] at r
  exact r
theorem insNilI_calls (i : Int) (v : Sl Seen) (hi : i = 0) (hv : 0 < v.D.length) (hl : v.D.length ≤ 1000000) : OCalls Tryd.prog 46 [sS (some true) eSeen [], .pv (.lit (.int .i64 i)), sS (some v.nil) eSeen v.D] (.sl 0 0 v.D.length 9 false) (.cells (encC eSeen v.D)) := by
  subst hi
  exact insNil_calls v hv hl
theorem place_nil {l : Sl Seen} {k : Nat → Int} (hn : l.D.length ≤ 1000000) (h : l.D = []) : (place l k).1 = 0 := by
  have := place_le l k hn
  rw [h] at this
  simp at this
  omega
theorem place_nil2 {l : Sl Seen} {k : Nat → Int} (hn : l.D.length ≤ 1000000) (h : l.D = []) : (place l k).2 = false := by
  cases e : (place l k).2
  · rfl
  · have := place_lt hn e
    rw [h] at this
    simp at this
    omega
theorem place_toNat {l : Sl Seen} {k : Nat → Int} (hn : l.D.length ≤ 1000000) : ((place l k).1).toNat ≤ l.D.length := by
  have := place_le l k hn
  omega
theorem KB_nil : ∀ x ∈ ([] : List Seen), KeyB x.key := fun _ h => nomatch h
theorem KB_one {k : Nat → Int} {v : Int} (hk : KeyB k) : ∀ x ∈ [Seen.mk k v], KeyB x.key := fun x h => by rw [List.mem_singleton.1 h]; exact hk
theorem K8 {k : Nat → Int} (h : KeyB k) : KeyB (ofL [k 0, k 1, k 2, k 3, k 4, k 5, k 6, k 7]) := fun j hj => by
  rcases (by omega : j = 0 ∨ j = 1 ∨ j = 2 ∨ j = 3 ∨ j = 4 ∨ j = 5 ∨ j = 6 ∨ j = 7) with rfl | rfl | rfl | rfl | rfl | rfl | rfl | rfl <;> exact h _ (by decide)
theorem KB_setk {D : List Seen} {i : Nat} {k : Nat → Int} {v : Int} (h : ∀ x ∈ D, KeyB x.key) (hk : KeyB k) : ∀ x ∈ D.set i (Seen.mk k v), KeyB x.key := fun x hx => by
  rcases List.mem_or_eq_of_mem_set hx with hx | rfl
  · exact h x hx
  · exact hk
theorem KB_ins {D : List Seen} {i : Nat} {k : Nat → Int} {v : Int} (h : ∀ x ∈ D, KeyB x.key) (hk : KeyB k) : ∀ x ∈ insertL D i [Seen.mk k v], KeyB x.key := fun x hx => by
  unfold insertL at hx
  rcases List.mem_append.1 hx with hx | hx
  · rcases List.mem_append.1 hx with hx | hx
    · exact h x (List.mem_of_mem_take hx)
    · exact KB_one hk x hx
  · exact h x (List.mem_of_mem_drop hx)
def pSee (l : (Sl Seen)) (k : (Nat → Int)) (ver : Int) : (Sl Seen) × Int :=
  (bif ((pRight l) != 0) then ((Sl.mk true []), (pRight l)) else (bif ((shRight k) != 0) then ((Sl.mk true []), 100) else (bif (decide (ver < 0)) then ((Sl.mk true []), 100) else (bif (decide (ver > 1099511627776)) then ((Sl.mk true []), 100) else (bif l.nil then (bif (ver == 0) then (bif ((pRight (Sl.mk true [])) != 0) then ((Sl.mk true []), (pRight (Sl.mk true []))) else ((Sl.mk true []), 0)) else (bif ((pRight (Sl.mk false [(Seen.mk k ver)])) != 0) then ((Sl.mk true []), (pRight (Sl.mk false [(Seen.mk k ver)]))) else ((Sl.mk false [(Seen.mk k ver)]), 0))) else (bif (place l k).2 then (bif ((pRight (Sl.mk false (l.D.set (((place l k).1).toNat) (Seen.mk (ofL [(l.D[((place l k).1).toNat]!.key 0), (l.D[((place l k).1).toNat]!.key 1), (l.D[((place l k).1).toNat]!.key 2), (l.D[((place l k).1).toNat]!.key 3), (l.D[((place l k).1).toNat]!.key 4), (l.D[((place l k).1).toNat]!.key 5), (l.D[((place l k).1).toNat]!.key 6), (l.D[((place l k).1).toNat]!.key 7)]) (bif (decide ((l.D[((place l k).1).toNat]!.ver) < ver)) then ver else (l.D[((place l k).1).toNat]!.ver)))))) != 0) then ((Sl.mk true []), (pRight (Sl.mk false (l.D.set (((place l k).1).toNat) (Seen.mk (ofL [(l.D[((place l k).1).toNat]!.key 0), (l.D[((place l k).1).toNat]!.key 1), (l.D[((place l k).1).toNat]!.key 2), (l.D[((place l k).1).toNat]!.key 3), (l.D[((place l k).1).toNat]!.key 4), (l.D[((place l k).1).toNat]!.key 5), (l.D[((place l k).1).toNat]!.key 6), (l.D[((place l k).1).toNat]!.key 7)]) (bif (decide ((l.D[((place l k).1).toNat]!.ver) < ver)) then ver else (l.D[((place l k).1).toNat]!.ver))))))) else ((Sl.mk false (l.D.set (((place l k).1).toNat) (Seen.mk (ofL [(l.D[((place l k).1).toNat]!.key 0), (l.D[((place l k).1).toNat]!.key 1), (l.D[((place l k).1).toNat]!.key 2), (l.D[((place l k).1).toNat]!.key 3), (l.D[((place l k).1).toNat]!.key 4), (l.D[((place l k).1).toNat]!.key 5), (l.D[((place l k).1).toNat]!.key 6), (l.D[((place l k).1).toNat]!.key 7)]) (bif (decide ((l.D[((place l k).1).toNat]!.ver) < ver)) then ver else (l.D[((place l k).1).toNat]!.ver))))), 0)) else (bif (ver == 0) then (bif ((pRight (Sl.mk false l.D)) != 0) then ((Sl.mk true []), (pRight (Sl.mk false l.D))) else ((Sl.mk false l.D), 0)) else (bif ((pRight (Sl.mk false (insertL l.D (((place l k).1).toNat) [(Seen.mk k ver)]))) != 0) then ((Sl.mk true []), (pRight (Sl.mk false (insertL l.D (((place l k).1).toNat) [(Seen.mk k ver)])))) else ((Sl.mk false (insertL l.D (((place l k).1).toNat) [(Seen.mk k ver)])), 0)))))))))
theorem pSee_calls (l : (Sl Seen)) (k : (Nat → Int)) (ver : Int) (hl : ∀ x ∈ l.D, KeyB x.key) (hk : KeyB k) (hn : l.nil = true → l.D = []) (hl1 : l.D.length ≤ 1000) : PCalls Tryd.prog 22 [sS (some l.nil) eSeen l.D, .agg [.pv (.lit (.int .u8 (k 0))), .pv (.lit (.int .u8 (k 1))), .pv (.lit (.int .u8 (k 2))), .pv (.lit (.int .u8 (k 3))), .pv (.lit (.int .u8 (k 4))), .pv (.lit (.int .u8 (k 5))), .pv (.lit (.int .u8 (k 6))), .pv (.lit (.int .u8 (k 7)))], .pv (.lit (.int .i64 ver))] (.tup [sS (some (pSee l k ver).1.nil) eSeen ((pSee l k ver).1.D), .pv (.lit (.int .i64 ((pSee l k ver).2)))]) := by
 generalize hR : pSee l k ver = R
 refine PCalls.of_body tabOk Tryd.func22 rfl rfl rfl rfl rfl mixed fun E hP C hI => ?_
 refine Awp.consP C ?_
 refine rvc_un (rexec_prim C (δ := { v := .ptr 4 0, new := [(4, .cells [.pv (.lit (.int .u8 (k 0))), .pv (.lit (.int .u8 (k 1))), .pv (.lit (.int .u8 (k 2))), .pv (.lit (.int .u8 (k 3))), .pv (.lit (.int .u8 (k 4))), .pv (.lit (.int .u8 (k 5))), .pv (.lit (.int .u8 (k 6))), .pv (.lit (.int .u8 (k 7)))])] }) rfl rfl rfl rfl trivial rfl ?_)
 refine rvP C (sS (some true) eSeen []) ?_
 refine rvP C (.pv (.lit (.int .i64 0))) ?_
 refine rvc_nil ?_
 refine Awp.seq ?_
 refine Awp.consP C ?_
 refine rvP C (sS (some l.nil) eSeen l.D) ?_
 refine rvc_un (rexec_call hP C rfl rfl rfl (pRight_calls l hl (Nat.le_trans hl1 (by decide))) ?_)
 refine rvP C (.pv (.lit (.int .i64 (pRight l)))) ?_
 refine rvc_nil ?_
 refine Awp.consP C ?_
 refine rvP C (.pv (.lit (.int .i64 (pRight l)))) ?_
 refine rvP C (.pv (.lit (.bool ((pRight l) != 0)))) ?_
 refine rvc_nil ?_
 refine Awp.cond (b := ((pRight l) != 0)) rfl (fun h1 => ?_) (fun h1 => ?_)
 ·
  replace hR := of_true h1 hR
  refine Awp.consP C ?_
  refine rvP C (.pv (.lit (.int .i64 (pRight l)))) ?_
  refine rvP C (sS (some true) eSeen []) ?_
  refine rvP C (.pv (.lit (.int .i64 (pRight l)))) ?_
  refine rvc_nil ?_
  refine Awp.ret ?_
  subst hR
  exact ⟨.inl rfl, rfl⟩
 ·
  replace hR := of_false h1 hR
  refine Awp.skip ?_
  refine Awp.seq ?_
  refine Awp.consP C ?_
  refine rvP C (.agg [.pv (.lit (.int .u8 (k 0))), .pv (.lit (.int .u8 (k 1))), .pv (.lit (.int .u8 (k 2))), .pv (.lit (.int .u8 (k 3))), .pv (.lit (.int .u8 (k 4))), .pv (.lit (.int .u8 (k 5))), .pv (.lit (.int .u8 (k 6))), .pv (.lit (.int .u8 (k 7)))]) ?_
  refine rvc_un (rexec_call hP C rfl rfl rfl (shRight_calls k hk) ?_)
  refine rvP C (.pv (.lit (.bool ((shRight k) != 0)))) ?_
  refine rvP C (.pv (.lit (.bool ((shRight k) != 0)))) ?_
  refine rvc_case 21 ((shRight k) != 0) rfl (fun h2 => ?_) (fun h2 => ?_)
  ·
   replace hR := of_true h2 hR
   refine rvS ?_
   refine rvS ?_
   refine rvP C (.pv (.lit (.bool true))) ?_
   refine rvP C (.pv (.lit (.bool true))) ?_
   refine rvS ?_
   refine rvS ?_
   refine rvP C (.pv (.lit (.bool true))) ?_
   refine rvc_nil ?_
   refine Awp.condT (b := true) rfl rfl ?_
   refine Awp.consP C ?_
   refine rvP C (sS (some true) eSeen []) ?_
   refine rvP C (.pv (.lit (.int .i64 100))) ?_
   refine rvc_nil ?_
   refine Awp.ret ?_
   subst hR
   exact ⟨.inl rfl, rfl⟩
  ·
   replace hR := of_false h2 hR
   refine rvO C (.pv (.lit (.int .i64 ver))) ?_
   refine rvO C (.pv (.lit (.bool (decide (ver < 0))))) ?_
   refine rvP C (.pv (.lit (.bool (decide (ver < 0))))) ?_
   refine rvP C (.pv (.lit (.bool (decide (ver < 0))))) ?_
   refine rvc_case 25 (decide (ver < 0)) rfl (fun h3 => ?_) (fun h3 => ?_)
   ·
    replace hR := of_true h3 hR
    refine rvS ?_
    refine rvS ?_
    refine rvP C (.pv (.lit (.bool true))) ?_
    refine rvc_nil ?_
    refine Awp.condT (b := true) rfl rfl ?_
    refine Awp.consP C ?_
    refine rvP C (sS (some true) eSeen []) ?_
    refine rvP C (.pv (.lit (.int .i64 100))) ?_
    refine rvc_nil ?_
    refine Awp.ret ?_
    subst hR
    exact ⟨.inl rfl, rfl⟩
   ·
    replace hR := of_false h3 hR
    refine rvO C (.pv (.lit (.int .i64 ver))) ?_
    refine rvO C (.pv (.lit (.bool (decide (ver > 1099511627776))))) ?_
    refine rvP C (.pv (.lit (.bool (decide (ver > 1099511627776))))) ?_
    refine rvc_nil ?_
    refine Awp.cond (b := (decide (ver > 1099511627776))) rfl (fun h4 => ?_) (fun h4 => ?_)
    ·
     replace hR := of_true h4 hR
     refine Awp.consP C ?_
     refine rvP C (sS (some true) eSeen []) ?_
     refine rvP C (.pv (.lit (.int .i64 100))) ?_
     refine rvc_nil ?_
     refine Awp.ret ?_
     subst hR
     exact ⟨.inl rfl, rfl⟩
    ·
     replace hR := of_false h4 hR
     refine Awp.skip ?_
     refine Awp.cons C (fun _ => .quiet) (by kernel_rfl) ?_
     refine rvP C (sS (some l.nil) eSeen l.D) ?_
     rcases Bool.eq_false_or_eq_true l.nil with h5 | h5
     ·
      replace hR := of_true h5 hR
      refine rvc_un (rexec_call hP C rfl rfl rfl (cloneSeenO_nil l h5 (by have := eq_of_bne_false h1; have := eq_of_bne_false h2; have := of_decide_eq_false h3; have := of_decide_eq_false h4; omega)) ?_)
      refine rvP C (sS (some true) eSeen []) ?_
      refine rvc_nil ?_
      refine Awp.consP C ?_
      refine rvP C (sS (some l.nil) eSeen l.D) ?_
      refine rvP C (.agg [.pv (.lit (.int .u8 (k 0))), .pv (.lit (.int .u8 (k 1))), .pv (.lit (.int .u8 (k 2))), .pv (.lit (.int .u8 (k 3))), .pv (.lit (.int .u8 (k 4))), .pv (.lit (.int .u8 (k 5))), .pv (.lit (.int .u8 (k 6))), .pv (.lit (.int .u8 (k 7)))]) ?_
      refine rvc_un (rexec_call hP C rfl rfl rfl (place_calls l k (Nat.le_trans hl1 (by decide))) ?_)
      refine rvP C (.tup [.pv (.lit (.int .i64 ((place l k).1))), .pv (.lit (.bool ((place l k).2)))]) ?_
      refine rvP C (.pv (.lit (.int .i64 ((place l k).1)))) ?_
      refine rvP C (.pv (.lit (.bool ((place l k).2)))) ?_
      refine rvP C (.pv (.lit (.int .i64 ((place l k).1)))) ?_
      refine rvP C (.pv (.lit (.bool ((place l k).2)))) ?_
      refine rvc_nil ?_
      refine Awp.seq ?_
      refine Awp.block ?_
      refine Awp.consP C ?_
      refine rvP C (.pv (.lit (.bool ((place l k).2)))) ?_
      refine rvP C (.pv (.lit (.bool ((place l k).2)))) ?_
      refine rvc_nil ?_
      refine Awp.condF (b := (place l k).2) rfl (place_nil2 (Nat.le_trans hl1 (by decide)) (hn h5)) ?_
      refine Awp.consP C ?_
      refine rvP C (.pv (.lit (.int .i64 ver))) ?_
      refine rvP C (.pv (.lit (.bool (ver == 0)))) ?_
      refine rvP C (.pv (.lit (.bool (ver == 0)))) ?_
      refine rvc_nil ?_
      refine Awp.cond (b := (ver == 0)) rfl (fun h6 => ?_) (fun h6 => ?_)
      ·
       replace hR := of_true h6 hR
       refine Awp.skip ?_
       refine Awp.seq ?_
       refine Awp.consP C ?_
       refine rvP C (sS (some true) eSeen []) ?_
       refine rvc_un (rexec_call hP C rfl rfl rfl (pRight_calls (Sl.mk true []) (by first | exact hl | exact KB_nil | exact KB_ins hl hk | exact KB_one hk | exact KB_setk hl (K8 (KB.at hl (by omega)))) (by first | (show _ ≤ 1000000; simp; done) | (show l.D.length ≤ 1000000; exact (Nat.le_trans hl1 (by decide))) | (rw [List.length_set]; exact (Nat.le_trans hl1 (by decide))) | (rw [insertL_len (place_toNat (Nat.le_trans hl1 (by decide)))]; simp; omega))) ?_)
       refine rvP C (.pv (.lit (.int .i64 (pRight (Sl.mk true []))))) ?_
       refine rvc_nil ?_
       refine Awp.consP C ?_
       refine rvP C (.pv (.lit (.int .i64 (pRight (Sl.mk true []))))) ?_
       refine rvP C (.pv (.lit (.bool ((pRight (Sl.mk true [])) != 0)))) ?_
       refine rvc_nil ?_
       refine Awp.cond (b := ((pRight (Sl.mk true [])) != 0)) rfl (fun h7 => ?_) (fun h7 => ?_)
       ·
        replace hR := of_true h7 hR
        refine Awp.consP C ?_
        refine rvP C (.pv (.lit (.int .i64 (pRight (Sl.mk true []))))) ?_
        refine rvP C (sS (some true) eSeen []) ?_
        refine rvP C (.pv (.lit (.int .i64 (pRight (Sl.mk true []))))) ?_
        refine rvc_nil ?_
        refine Awp.ret ?_
        subst hR
        exact ⟨.inl rfl, rfl⟩
       ·
        replace hR := of_false h7 hR
        refine Awp.skip ?_
        refine Awp.consP C ?_
        refine rvP C (sS (some true) eSeen []) ?_
        refine rvP C (sS (some true) eSeen []) ?_
        refine rvP C (.pv (.lit (.int .i64 0))) ?_
        refine rvc_nil ?_
        refine Awp.ret ?_
        subst hR
        exact ⟨.inl rfl, rfl⟩
      ·
       replace hR := of_false h6 hR
       refine Awp.region C (fun _ => .writer) (by kernel_rfl) ?_
       refine rvP C (sS (some true) eSeen []) ?_
       refine rvP C (.pv (.lit (.int .i64 ((place l k).1)))) ?_
       refine rvP C (.agg [.pv (.lit (.int .u8 (k 0))), .pv (.lit (.int .u8 (k 1))), .pv (.lit (.int .u8 (k 2))), .pv (.lit (.int .u8 (k 3))), .pv (.lit (.int .u8 (k 4))), .pv (.lit (.int .u8 (k 5))), .pv (.lit (.int .u8 (k 6))), .pv (.lit (.int .u8 (k 7)))]) ?_
       refine rvP C (.pv (.lit (.int .i64 ver))) ?_
       refine rvP C (.agg [.pv (.lit (.int .u8 (k 0))), .pv (.lit (.int .u8 (k 1))), .pv (.lit (.int .u8 (k 2))), .pv (.lit (.int .u8 (k 3))), .pv (.lit (.int .u8 (k 4))), .pv (.lit (.int .u8 (k 5))), .pv (.lit (.int .u8 (k 6))), .pv (.lit (.int .u8 (k 7))), .pv (.lit (.int .i64 ver))]) ?_
       refine rvc_un (rexec_buildSliceF C eSeen [(Seen.mk k ver)] rfl rfl rfl rfl rfl rfl rfl (by decide) rfl ?_)
       refine rvc_un (rexec_callO hP C rfl rfl rfl rfl (insNilI_calls ((place l k).1) (Sl.mk false [(Seen.mk k ver)]) (place_nil (Nat.le_trans hl1 (by decide)) (hn ‹l.nil = true›)) (by simp) (by simp)) ?_)
       refine rvP C (.sl 43 0 ([(Seen.mk k ver)].length) 9 false) ?_
       refine rvc_nil ?_
       refine Awp.seq ?_
       refine Awp.freezeW 43 (encL eSeen [(Seen.mk k ver)]) ?_ [(6, sS (some true) eSeen []), (7, .pv (.lit (.int .i64 0))), (9, sS (some false) eSeen [(Seen.mk k ver)])] [(4, .cells [.pv (.lit (.int .u8 (k 0))), .pv (.lit (.int .u8 (k 1))), .pv (.lit (.int .u8 (k 2))), .pv (.lit (.int .u8 (k 3))), .pv (.lit (.int .u8 (k 4))), .pv (.lit (.int .u8 (k 5))), .pv (.lit (.int .u8 (k 6))), .pv (.lit (.int .u8 (k 7)))])] ?_ ?_ ?_
       · rfl
       · exact ⟨⟨_, rfl, .inl (.inl rfl)⟩, ⟨_, rfl, .inl (.inl rfl)⟩, ⟨_, rfl, .inl (.inr ⟨_, _, _, rfl, rfl⟩)⟩, trivial⟩
       · exact ⟨⟨(by show (4 : Nat) ≠ 43; decide), .inl rfl⟩, trivial⟩
       refine Awp.consP C ?_
       refine rvP C (sS (some false) eSeen [(Seen.mk k ver)]) ?_
       refine rvc_un (rexec_call hP C rfl rfl rfl (pRight_calls (Sl.mk false [(Seen.mk k ver)]) (by first | exact hl | exact KB_nil | exact KB_ins hl hk | exact KB_one hk | exact KB_setk hl (K8 (KB.at hl (by omega)))) (by first | (show _ ≤ 1000000; simp; done) | (show l.D.length ≤ 1000000; exact (Nat.le_trans hl1 (by decide))) | (rw [List.length_set]; exact (Nat.le_trans hl1 (by decide))) | (rw [insertL_len (place_toNat (Nat.le_trans hl1 (by decide)))]; simp; omega))) ?_)
       refine rvP C (.pv (.lit (.int .i64 (pRight (Sl.mk false [(Seen.mk k ver)]))))) ?_
       refine rvc_nil ?_
       refine Awp.consP C ?_
       refine rvP C (.pv (.lit (.int .i64 (pRight (Sl.mk false [(Seen.mk k ver)]))))) ?_
       refine rvP C (.pv (.lit (.bool ((pRight (Sl.mk false [(Seen.mk k ver)])) != 0)))) ?_
       refine rvc_nil ?_
       refine Awp.cond (b := ((pRight (Sl.mk false [(Seen.mk k ver)])) != 0)) rfl (fun h8 => ?_) (fun h8 => ?_)
       ·
        replace hR := of_true h8 hR
        refine Awp.consP C ?_
        refine rvP C (.pv (.lit (.int .i64 (pRight (Sl.mk false [(Seen.mk k ver)]))))) ?_
        refine rvP C (sS (some true) eSeen []) ?_
        refine rvP C (.pv (.lit (.int .i64 (pRight (Sl.mk false [(Seen.mk k ver)]))))) ?_
        refine rvc_nil ?_
        refine Awp.ret ?_
        subst hR
        exact ⟨.inl rfl, rfl⟩
       ·
        replace hR := of_false h8 hR
        refine Awp.skip ?_
        refine Awp.consP C ?_
        refine rvP C (sS (some false) eSeen [(Seen.mk k ver)]) ?_
        refine rvP C (sS (some false) eSeen [(Seen.mk k ver)]) ?_
        refine rvP C (.pv (.lit (.int .i64 0))) ?_
        refine rvc_nil ?_
        refine Awp.ret ?_
        subst hR
        exact ⟨.inl rfl, rfl⟩
     ·
      replace hR := of_false h5 hR
      refine rvc_un (rexec_callO hP C rfl rfl rfl rfl (cloneSeenO_calls l h5 (by have := eq_of_bne_false h1; have := eq_of_bne_false h2; have := of_decide_eq_false h3; have := of_decide_eq_false h4; omega)) ?_)
      refine rvP C (.sl 30 0 l.D.length 9 false) ?_
      refine rvc_nil ?_
      refine Awp.consP C ?_
      refine rvP C (sS (some l.nil) eSeen l.D) ?_
      refine rvP C (.agg [.pv (.lit (.int .u8 (k 0))), .pv (.lit (.int .u8 (k 1))), .pv (.lit (.int .u8 (k 2))), .pv (.lit (.int .u8 (k 3))), .pv (.lit (.int .u8 (k 4))), .pv (.lit (.int .u8 (k 5))), .pv (.lit (.int .u8 (k 6))), .pv (.lit (.int .u8 (k 7)))]) ?_
      refine rvc_un (rexec_call hP C rfl rfl rfl (place_calls l k (Nat.le_trans hl1 (by decide))) ?_)
      refine rvP C (.tup [.pv (.lit (.int .i64 ((place l k).1))), .pv (.lit (.bool ((place l k).2)))]) ?_
      refine rvP C (.pv (.lit (.int .i64 ((place l k).1)))) ?_
      refine rvP C (.pv (.lit (.bool ((place l k).2)))) ?_
      refine rvP C (.pv (.lit (.int .i64 ((place l k).1)))) ?_
      refine rvP C (.pv (.lit (.bool ((place l k).2)))) ?_
      refine rvc_nil ?_
      refine Awp.seq ?_
      refine Awp.block ?_
      refine Awp.consP C ?_
      refine rvP C (.pv (.lit (.bool ((place l k).2)))) ?_
      refine rvP C (.pv (.lit (.bool ((place l k).2)))) ?_
      refine rvc_nil ?_
      refine Awp.cond (b := (place l k).2) rfl (fun h9 => ?_) (fun h9 => ?_)
      ·
       replace hR := of_true h9 hR
       refine Awp.regionP C ?_
       refine rvP C (.sl 30 0 l.D.length 9 false) ?_
       refine rvP C (.pv (.lit (.int .i64 ((place l k).1)))) ?_
       refine rvP C (.sl 30 0 l.D.length 9 false) ?_
       refine rvP C (.pv (.lit (.int .i64 ((place l k).1)))) ?_
       have hpl_ := place_lt (k := k) (Nat.le_trans hl1 (by decide)) ‹(place l k).2 = true›
       have h10 : l.D[((place l k).1).toNat]? = some l.D[((place l k).1).toNat]! := getE (by have h_ := place_lt (k := k) (Nat.le_trans hl1 (by decide)) ‹(place l k).2 = true›; omega)
       refine rvc_un (rexec_prim C (δ := { v := .ptr 30 (0 + ((place l k).1).toNat * 9) }) rfl rfl rfl rfl ⟨(by have := eq_of_bne_false h1; have := eq_of_bne_false h2; have := of_decide_eq_false h3; have := of_decide_eq_false h4; omega), getlt h10 (by first | rfl | omega | (have := eq_of_bne_false h1; have := eq_of_bne_false h2; have := of_decide_eq_false h3; have := of_decide_eq_false h4; omega)) (by first | rfl | omega | simp)⟩ rfl ?_)
       refine rvP C (.ptr 30 (0 + ((place l k).1).toNat * 9 + 8)) ?_
       refine rvc_un (rexec_loadE C (e := eSeen) (((place l k).1).toNat) 8 (l.D[((place l k).1).toNat]!) (.pv (.lit (.int .i64 (l.D[((place l k).1).toNat]!.ver)))) rfl rfl rfl rfl h10 (by simp [eSeen]) (by decide) (by decide) rfl ?_)
       refine rvP C (.pv (.lit (.int .i64 ver))) ?_
       refine rvc_un (rexec_max C rfl rfl rfl ?_)
       refine rvc_un (rexec_prim C (δ := { v := .ptr 30 (0 + ((place l k).1).toNat * 9) }) rfl rfl rfl rfl ⟨(by have := eq_of_bne_false h1; have := eq_of_bne_false h2; have := of_decide_eq_false h3; have := of_decide_eq_false h4; omega), getlt h10 (by first | rfl | omega | (have := eq_of_bne_false h1; have := eq_of_bne_false h2; have := of_decide_eq_false h3; have := of_decide_eq_false h4; omega)) (by first | rfl | omega | simp)⟩ rfl ?_)
       refine rvP C (.ptr 30 (0 + ((place l k).1).toNat * 9 + 8)) ?_
       refine rvc_un (rexec_storeE C (e := eSeen) (((place l k).1).toNat) 8 (l.D[((place l k).1).toNat]!) (Seen.mk (ofL [(l.D[((place l k).1).toNat]!.key 0), (l.D[((place l k).1).toNat]!.key 1), (l.D[((place l k).1).toNat]!.key 2), (l.D[((place l k).1).toNat]!.key 3), (l.D[((place l k).1).toNat]!.key 4), (l.D[((place l k).1).toNat]!.key 5), (l.D[((place l k).1).toNat]!.key 6), (l.D[((place l k).1).toNat]!.key 7)]) (bif (decide ((l.D[((place l k).1).toNat]!.ver) < ver)) then ver else (l.D[((place l k).1).toNat]!.ver))) rfl rfl rfl rfl h10 (by simp [eSeen]) rfl rfl rfl (of_decide_eq_true rfl) rfl ?_)
       refine rvc_nil ?_
       refine Awp.seq ?_
       refine Awp.freezeW 30 (encL eSeen (l.D.set (((place l k).1).toNat) (Seen.mk (ofL [(l.D[((place l k).1).toNat]!.key 0), (l.D[((place l k).1).toNat]!.key 1), (l.D[((place l k).1).toNat]!.key 2), (l.D[((place l k).1).toNat]!.key 3), (l.D[((place l k).1).toNat]!.key 4), (l.D[((place l k).1).toNat]!.key 5), (l.D[((place l k).1).toNat]!.key 6), (l.D[((place l k).1).toNat]!.key 7)]) (bif (decide ((l.D[((place l k).1).toNat]!.ver) < ver)) then ver else (l.D[((place l k).1).toNat]!.ver))))) ?_ [(6, sS (some true) eSeen []), (7, .pv (.lit (.int .i64 0))), (9, sS (some false) eSeen (l.D.set (((place l k).1).toNat) (Seen.mk (ofL [(l.D[((place l k).1).toNat]!.key 0), (l.D[((place l k).1).toNat]!.key 1), (l.D[((place l k).1).toNat]!.key 2), (l.D[((place l k).1).toNat]!.key 3), (l.D[((place l k).1).toNat]!.key 4), (l.D[((place l k).1).toNat]!.key 5), (l.D[((place l k).1).toNat]!.key 6), (l.D[((place l k).1).toNat]!.key 7)]) (bif (decide ((l.D[((place l k).1).toNat]!.ver) < ver)) then ver else (l.D[((place l k).1).toNat]!.ver)))))] [(4, .cells [.pv (.lit (.int .u8 (k 0))), .pv (.lit (.int .u8 (k 1))), .pv (.lit (.int .u8 (k 2))), .pv (.lit (.int .u8 (k 3))), .pv (.lit (.int .u8 (k 4))), .pv (.lit (.int .u8 (k 5))), .pv (.lit (.int .u8 (k 6))), .pv (.lit (.int .u8 (k 7)))])] ?_ ?_ ?_
       · rfl
       · exact ⟨⟨_, rfl, .inl (.inl rfl)⟩, ⟨_, rfl, .inl (.inl rfl)⟩, ⟨_, rfl, .inl (.inr ⟨_, _, _, rfl, by simp [sS] <;> omega⟩)⟩, trivial⟩
       · exact ⟨⟨(by show (4 : Nat) ≠ 30; decide), .inl rfl⟩, trivial⟩
       refine Awp.consP C ?_
       refine rvP C (sS (some false) eSeen (l.D.set (((place l k).1).toNat) (Seen.mk (ofL [(l.D[((place l k).1).toNat]!.key 0), (l.D[((place l k).1).toNat]!.key 1), (l.D[((place l k).1).toNat]!.key 2), (l.D[((place l k).1).toNat]!.key 3), (l.D[((place l k).1).toNat]!.key 4), (l.D[((place l k).1).toNat]!.key 5), (l.D[((place l k).1).toNat]!.key 6), (l.D[((place l k).1).toNat]!.key 7)]) (bif (decide ((l.D[((place l k).1).toNat]!.ver) < ver)) then ver else (l.D[((place l k).1).toNat]!.ver))))) ?_
       refine rvc_un (rexec_call hP C rfl rfl rfl (pRight_calls (Sl.mk false (l.D.set (((place l k).1).toNat) (Seen.mk (ofL [(l.D[((place l k).1).toNat]!.key 0), (l.D[((place l k).1).toNat]!.key 1), (l.D[((place l k).1).toNat]!.key 2), (l.D[((place l k).1).toNat]!.key 3), (l.D[((place l k).1).toNat]!.key 4), (l.D[((place l k).1).toNat]!.key 5), (l.D[((place l k).1).toNat]!.key 6), (l.D[((place l k).1).toNat]!.key 7)]) (bif (decide ((l.D[((place l k).1).toNat]!.ver) < ver)) then ver else (l.D[((place l k).1).toNat]!.ver))))) (by first | exact hl | exact KB_nil | exact KB_ins hl hk | exact KB_one hk | exact KB_setk hl (K8 (KB.at hl (by omega)))) (by first | (show _ ≤ 1000000; simp; done) | (show l.D.length ≤ 1000000; exact (Nat.le_trans hl1 (by decide))) | (rw [List.length_set]; exact (Nat.le_trans hl1 (by decide))) | (rw [insertL_len (place_toNat (Nat.le_trans hl1 (by decide)))]; simp; omega))) ?_)
       refine rvP C (.pv (.lit (.int .i64 (pRight (Sl.mk false (l.D.set (((place l k).1).toNat) (Seen.mk (ofL [(l.D[((place l k).1).toNat]!.key 0), (l.D[((place l k).1).toNat]!.key 1), (l.D[((place l k).1).toNat]!.key 2), (l.D[((place l k).1).toNat]!.key 3), (l.D[((place l k).1).toNat]!.key 4), (l.D[((place l k).1).toNat]!.key 5), (l.D[((place l k).1).toNat]!.key 6), (l.D[((place l k).1).toNat]!.key 7)]) (bif (decide ((l.D[((place l k).1).toNat]!.ver) < ver)) then ver else (l.D[((place l k).1).toNat]!.ver))))))))) ?_
       refine rvc_nil ?_
       refine Awp.consP C ?_
       refine rvP C (.pv (.lit (.int .i64 (pRight (Sl.mk false (l.D.set (((place l k).1).toNat) (Seen.mk (ofL [(l.D[((place l k).1).toNat]!.key 0), (l.D[((place l k).1).toNat]!.key 1), (l.D[((place l k).1).toNat]!.key 2), (l.D[((place l k).1).toNat]!.key 3), (l.D[((place l k).1).toNat]!.key 4), (l.D[((place l k).1).toNat]!.key 5), (l.D[((place l k).1).toNat]!.key 6), (l.D[((place l k).1).toNat]!.key 7)]) (bif (decide ((l.D[((place l k).1).toNat]!.ver) < ver)) then ver else (l.D[((place l k).1).toNat]!.ver))))))))) ?_
       refine rvP C (.pv (.lit (.bool ((pRight (Sl.mk false (l.D.set (((place l k).1).toNat) (Seen.mk (ofL [(l.D[((place l k).1).toNat]!.key 0), (l.D[((place l k).1).toNat]!.key 1), (l.D[((place l k).1).toNat]!.key 2), (l.D[((place l k).1).toNat]!.key 3), (l.D[((place l k).1).toNat]!.key 4), (l.D[((place l k).1).toNat]!.key 5), (l.D[((place l k).1).toNat]!.key 6), (l.D[((place l k).1).toNat]!.key 7)]) (bif (decide ((l.D[((place l k).1).toNat]!.ver) < ver)) then ver else (l.D[((place l k).1).toNat]!.ver)))))) != 0)))) ?_
       refine rvc_nil ?_
       refine Awp.cond (b := ((pRight (Sl.mk false (l.D.set (((place l k).1).toNat) (Seen.mk (ofL [(l.D[((place l k).1).toNat]!.key 0), (l.D[((place l k).1).toNat]!.key 1), (l.D[((place l k).1).toNat]!.key 2), (l.D[((place l k).1).toNat]!.key 3), (l.D[((place l k).1).toNat]!.key 4), (l.D[((place l k).1).toNat]!.key 5), (l.D[((place l k).1).toNat]!.key 6), (l.D[((place l k).1).toNat]!.key 7)]) (bif (decide ((l.D[((place l k).1).toNat]!.ver) < ver)) then ver else (l.D[((place l k).1).toNat]!.ver)))))) != 0)) rfl (fun h11 => ?_) (fun h11 => ?_)
       ·
        replace hR := of_true h11 hR
        refine Awp.consP C ?_
        refine rvP C (.pv (.lit (.int .i64 (pRight (Sl.mk false (l.D.set (((place l k).1).toNat) (Seen.mk (ofL [(l.D[((place l k).1).toNat]!.key 0), (l.D[((place l k).1).toNat]!.key 1), (l.D[((place l k).1).toNat]!.key 2), (l.D[((place l k).1).toNat]!.key 3), (l.D[((place l k).1).toNat]!.key 4), (l.D[((place l k).1).toNat]!.key 5), (l.D[((place l k).1).toNat]!.key 6), (l.D[((place l k).1).toNat]!.key 7)]) (bif (decide ((l.D[((place l k).1).toNat]!.ver) < ver)) then ver else (l.D[((place l k).1).toNat]!.ver))))))))) ?_
        refine rvP C (sS (some true) eSeen []) ?_
        refine rvP C (.pv (.lit (.int .i64 (pRight (Sl.mk false (l.D.set (((place l k).1).toNat) (Seen.mk (ofL [(l.D[((place l k).1).toNat]!.key 0), (l.D[((place l k).1).toNat]!.key 1), (l.D[((place l k).1).toNat]!.key 2), (l.D[((place l k).1).toNat]!.key 3), (l.D[((place l k).1).toNat]!.key 4), (l.D[((place l k).1).toNat]!.key 5), (l.D[((place l k).1).toNat]!.key 6), (l.D[((place l k).1).toNat]!.key 7)]) (bif (decide ((l.D[((place l k).1).toNat]!.ver) < ver)) then ver else (l.D[((place l k).1).toNat]!.ver))))))))) ?_
        refine rvc_nil ?_
        refine Awp.ret ?_
        subst hR
        exact ⟨.inl rfl, rfl⟩
       ·
        replace hR := of_false h11 hR
        refine Awp.skip ?_
        refine Awp.consP C ?_
        refine rvP C (sS (some false) eSeen (l.D.set (((place l k).1).toNat) (Seen.mk (ofL [(l.D[((place l k).1).toNat]!.key 0), (l.D[((place l k).1).toNat]!.key 1), (l.D[((place l k).1).toNat]!.key 2), (l.D[((place l k).1).toNat]!.key 3), (l.D[((place l k).1).toNat]!.key 4), (l.D[((place l k).1).toNat]!.key 5), (l.D[((place l k).1).toNat]!.key 6), (l.D[((place l k).1).toNat]!.key 7)]) (bif (decide ((l.D[((place l k).1).toNat]!.ver) < ver)) then ver else (l.D[((place l k).1).toNat]!.ver))))) ?_
        refine rvP C (sS (some false) eSeen (l.D.set (((place l k).1).toNat) (Seen.mk (ofL [(l.D[((place l k).1).toNat]!.key 0), (l.D[((place l k).1).toNat]!.key 1), (l.D[((place l k).1).toNat]!.key 2), (l.D[((place l k).1).toNat]!.key 3), (l.D[((place l k).1).toNat]!.key 4), (l.D[((place l k).1).toNat]!.key 5), (l.D[((place l k).1).toNat]!.key 6), (l.D[((place l k).1).toNat]!.key 7)]) (bif (decide ((l.D[((place l k).1).toNat]!.ver) < ver)) then ver else (l.D[((place l k).1).toNat]!.ver))))) ?_
        refine rvP C (.pv (.lit (.int .i64 0))) ?_
        refine rvc_nil ?_
        refine Awp.ret ?_
        subst hR
        exact ⟨.inl rfl, rfl⟩
      ·
       replace hR := of_false h9 hR
       refine Awp.consP C ?_
       refine rvP C (.pv (.lit (.int .i64 ver))) ?_
       refine rvP C (.pv (.lit (.bool (ver == 0)))) ?_
       refine rvP C (.pv (.lit (.bool (ver == 0)))) ?_
       refine rvc_nil ?_
       refine Awp.cond (b := (ver == 0)) rfl (fun h12 => ?_) (fun h12 => ?_)
       ·
        replace hR := of_true h12 hR
        refine Awp.skip ?_
        refine Awp.seq ?_
        refine Awp.freezeW 30 (encL eSeen l.D) ?_ [(6, sS (some true) eSeen []), (7, .pv (.lit (.int .i64 0))), (9, sS (some false) eSeen l.D)] [(4, .cells [.pv (.lit (.int .u8 (k 0))), .pv (.lit (.int .u8 (k 1))), .pv (.lit (.int .u8 (k 2))), .pv (.lit (.int .u8 (k 3))), .pv (.lit (.int .u8 (k 4))), .pv (.lit (.int .u8 (k 5))), .pv (.lit (.int .u8 (k 6))), .pv (.lit (.int .u8 (k 7)))])] ?_ ?_ ?_
        · rfl
        · exact ⟨⟨_, rfl, .inl (.inl rfl)⟩, ⟨_, rfl, .inl (.inl rfl)⟩, ⟨_, rfl, .inl (.inr ⟨_, _, _, rfl, rfl⟩)⟩, trivial⟩
        · exact ⟨⟨(by show (4 : Nat) ≠ 30; decide), .inl rfl⟩, trivial⟩
        refine Awp.consP C ?_
        refine rvP C (sS (some false) eSeen l.D) ?_
        refine rvc_un (rexec_call hP C rfl rfl rfl (pRight_calls (Sl.mk false l.D) (by first | exact hl | exact KB_nil | exact KB_ins hl hk | exact KB_one hk | exact KB_setk hl (K8 (KB.at hl (by omega)))) (by first | (show _ ≤ 1000000; simp; done) | (show l.D.length ≤ 1000000; exact (Nat.le_trans hl1 (by decide))) | (rw [List.length_set]; exact (Nat.le_trans hl1 (by decide))) | (rw [insertL_len (place_toNat (Nat.le_trans hl1 (by decide)))]; simp; omega))) ?_)
        refine rvP C (.pv (.lit (.int .i64 (pRight (Sl.mk false l.D))))) ?_
        refine rvc_nil ?_
        refine Awp.consP C ?_
        refine rvP C (.pv (.lit (.int .i64 (pRight (Sl.mk false l.D))))) ?_
        refine rvP C (.pv (.lit (.bool ((pRight (Sl.mk false l.D)) != 0)))) ?_
        refine rvc_nil ?_
        refine Awp.cond (b := ((pRight (Sl.mk false l.D)) != 0)) rfl (fun h13 => ?_) (fun h13 => ?_)
        ·
         replace hR := of_true h13 hR
         refine Awp.consP C ?_
         refine rvP C (.pv (.lit (.int .i64 (pRight (Sl.mk false l.D))))) ?_
         refine rvP C (sS (some true) eSeen []) ?_
         refine rvP C (.pv (.lit (.int .i64 (pRight (Sl.mk false l.D))))) ?_
         refine rvc_nil ?_
         refine Awp.ret ?_
         subst hR
         exact ⟨.inl rfl, rfl⟩
        ·
         replace hR := of_false h13 hR
         refine Awp.skip ?_
         refine Awp.consP C ?_
         refine rvP C (sS (some false) eSeen l.D) ?_
         refine rvP C (sS (some false) eSeen l.D) ?_
         refine rvP C (.pv (.lit (.int .i64 0))) ?_
         refine rvc_nil ?_
         refine Awp.ret ?_
         subst hR
         exact ⟨.inl rfl, rfl⟩
       ·
        replace hR := of_false h12 hR
        refine Awp.region C (fun _ => .writer) (by kernel_rfl) ?_
        refine rvP C (.sl 30 0 l.D.length 9 false) ?_
        refine rvP C (.pv (.lit (.int .i64 ((place l k).1)))) ?_
        refine rvP C (.agg [.pv (.lit (.int .u8 (k 0))), .pv (.lit (.int .u8 (k 1))), .pv (.lit (.int .u8 (k 2))), .pv (.lit (.int .u8 (k 3))), .pv (.lit (.int .u8 (k 4))), .pv (.lit (.int .u8 (k 5))), .pv (.lit (.int .u8 (k 6))), .pv (.lit (.int .u8 (k 7)))]) ?_
        refine rvP C (.pv (.lit (.int .i64 ver))) ?_
        refine rvP C (.agg [.pv (.lit (.int .u8 (k 0))), .pv (.lit (.int .u8 (k 1))), .pv (.lit (.int .u8 (k 2))), .pv (.lit (.int .u8 (k 3))), .pv (.lit (.int .u8 (k 4))), .pv (.lit (.int .u8 (k 5))), .pv (.lit (.int .u8 (k 6))), .pv (.lit (.int .u8 (k 7))), .pv (.lit (.int .i64 ver))]) ?_
        refine rvc_un (rexec_buildSliceF C eSeen [(Seen.mk k ver)] rfl rfl rfl rfl rfl rfl rfl (by decide) rfl ?_)
        refine rvc_un (rexec_callT hP C (b := 30) rfl rfl rfl rfl (insertSI_calls l.D ((place l k).1) (Sl.mk false [(Seen.mk k ver)]) (place_le l k (Nat.le_trans hl1 (by decide))) (by simp) (Nat.le_trans hl1 (by decide)) (by simp)) rfl rfl ?_)
        refine rvP C (.sl 43 0 ((insertL l.D (((place l k).1).toNat) [(Seen.mk k ver)]).length) 9 false) ?_
        refine rvc_nil ?_
        refine Awp.seq ?_
        refine Awp.freezeW 43 (encL eSeen (insertL l.D (((place l k).1).toNat) [(Seen.mk k ver)])) ?_ [(6, sS (some true) eSeen []), (7, .pv (.lit (.int .i64 0))), (9, sS (some false) eSeen (insertL l.D (((place l k).1).toNat) [(Seen.mk k ver)]))] [(4, .cells [.pv (.lit (.int .u8 (k 0))), .pv (.lit (.int .u8 (k 1))), .pv (.lit (.int .u8 (k 2))), .pv (.lit (.int .u8 (k 3))), .pv (.lit (.int .u8 (k 4))), .pv (.lit (.int .u8 (k 5))), .pv (.lit (.int .u8 (k 6))), .pv (.lit (.int .u8 (k 7)))])] ?_ ?_ ?_
        · rfl
        · exact ⟨⟨_, rfl, .inl (.inl rfl)⟩, ⟨_, rfl, .inl (.inl rfl)⟩, ⟨_, rfl, .inl (.inr ⟨_, _, _, rfl, rfl⟩)⟩, trivial⟩
        · exact ⟨⟨(by show (4 : Nat) ≠ 43; decide), .inl rfl⟩, trivial⟩
        refine Awp.consP C ?_
        refine rvP C (sS (some false) eSeen (insertL l.D (((place l k).1).toNat) [(Seen.mk k ver)])) ?_
        refine rvc_un (rexec_call hP C rfl rfl rfl (pRight_calls (Sl.mk false (insertL l.D (((place l k).1).toNat) [(Seen.mk k ver)])) (by first | exact hl | exact KB_nil | exact KB_ins hl hk | exact KB_one hk | exact KB_setk hl (K8 (KB.at hl (by omega)))) (by first | (show _ ≤ 1000000; simp; done) | (show l.D.length ≤ 1000000; exact (Nat.le_trans hl1 (by decide))) | (rw [List.length_set]; exact (Nat.le_trans hl1 (by decide))) | (rw [insertL_len (place_toNat (Nat.le_trans hl1 (by decide)))]; simp; omega))) ?_)
        refine rvP C (.pv (.lit (.int .i64 (pRight (Sl.mk false (insertL l.D (((place l k).1).toNat) [(Seen.mk k ver)])))))) ?_
        refine rvc_nil ?_
        refine Awp.consP C ?_
        refine rvP C (.pv (.lit (.int .i64 (pRight (Sl.mk false (insertL l.D (((place l k).1).toNat) [(Seen.mk k ver)])))))) ?_
        refine rvP C (.pv (.lit (.bool ((pRight (Sl.mk false (insertL l.D (((place l k).1).toNat) [(Seen.mk k ver)]))) != 0)))) ?_
        refine rvc_nil ?_
        refine Awp.cond (b := ((pRight (Sl.mk false (insertL l.D (((place l k).1).toNat) [(Seen.mk k ver)]))) != 0)) rfl (fun h14 => ?_) (fun h14 => ?_)
        ·
         replace hR := of_true h14 hR
         refine Awp.consP C ?_
         refine rvP C (.pv (.lit (.int .i64 (pRight (Sl.mk false (insertL l.D (((place l k).1).toNat) [(Seen.mk k ver)])))))) ?_
         refine rvP C (sS (some true) eSeen []) ?_
         refine rvP C (.pv (.lit (.int .i64 (pRight (Sl.mk false (insertL l.D (((place l k).1).toNat) [(Seen.mk k ver)])))))) ?_
         refine rvc_nil ?_
         refine Awp.ret ?_
         subst hR
         exact ⟨.inl rfl, rfl⟩
        ·
         replace hR := of_false h14 hR
         refine Awp.skip ?_
         refine Awp.consP C ?_
         refine rvP C (sS (some false) eSeen (insertL l.D (((place l k).1).toNat) [(Seen.mk k ver)])) ?_
         refine rvP C (sS (some false) eSeen (insertL l.D (((place l k).1).toNat) [(Seen.mk k ver)])) ?_
         refine rvP C (.pv (.lit (.int .i64 0))) ?_
         refine rvc_nil ?_
         refine Awp.ret ?_
         subst hR
         exact ⟨.inl rfl, rfl⟩
def rpSee_l0 (l : (Sl Seen)) (k : (Nat → Int)) (ver : Int) : List Seen → Nat → (List Seen) → Bool → (Sl Seen) × Int
  | [], _, out, put => (bif (!put) then (bif (decide ((((out ++ [(Seen.mk k (bif (decide (ver < (rpFloor l k))) then (rpFloor l k) else ver))]).length) : Int) > 6)) then ((Sl.mk true []), 7) else ((Sl.mk false (out ++ [(Seen.mk k (bif (decide (ver < (rpFloor l k))) then (rpFloor l k) else ver))])), 0)) else (bif (decide ((out.length : Int) > 6)) then ((Sl.mk true []), 7) else ((Sl.mk out.isEmpty out), 0)))
  | x :: xs, i, out, put => (bif (!put) then (bif (!(rLess x.key k)) then (bif (!(((x.key 0) == (k 0)) && (((x.key 1) == (k 1)) && (((x.key 2) == (k 2)) && (((x.key 3) == (k 3)) && (((x.key 4) == (k 4)) && (((x.key 5) == (k 5)) && (((x.key 6) == (k 6)) && (((x.key 7) == (k 7)) && true))))))))) then rpSee_l0 l k ver xs (i + 1) ((out ++ [(Seen.mk k (bif (decide (ver < (rpFloor l k))) then (rpFloor l k) else ver))]) ++ [x]) true else rpSee_l0 l k ver xs (i + 1) (out ++ [(Seen.mk k (bif (decide (ver < (rpFloor l k))) then (rpFloor l k) else ver))]) true) else (bif (!(((x.key 0) == (k 0)) && (((x.key 1) == (k 1)) && (((x.key 2) == (k 2)) && (((x.key 3) == (k 3)) && (((x.key 4) == (k 4)) && (((x.key 5) == (k 5)) && (((x.key 6) == (k 6)) && (((x.key 7) == (k 7)) && true))))))))) then rpSee_l0 l k ver xs (i + 1) (out ++ [x]) put else rpSee_l0 l k ver xs (i + 1) out put)) else (bif (!(((x.key 0) == (k 0)) && (((x.key 1) == (k 1)) && (((x.key 2) == (k 2)) && (((x.key 3) == (k 3)) && (((x.key 4) == (k 4)) && (((x.key 5) == (k 5)) && (((x.key 6) == (k 6)) && (((x.key 7) == (k 7)) && true))))))))) then rpSee_l0 l k ver xs (i + 1) (out ++ [x]) put else rpSee_l0 l k ver xs (i + 1) out put))
def rpSee (l : (Sl Seen)) (k : (Nat → Int)) (ver : Int) : (Sl Seen) × Int :=
  (bif ((rpRight l) != 0) then ((Sl.mk true []), (rpRight l)) else (bif (!(rKey k)) then ((Sl.mk true []), 100) else (bif (decide (ver < 0)) then ((Sl.mk true []), 100) else (bif (decide (ver > 1099511627776)) then ((Sl.mk true []), 100) else rpSee_l0 l k ver l.D 0 [] ((bif (decide (ver < (rpFloor l k))) then (rpFloor l k) else ver) == 0)))))
theorem rpSee_calls (l : (Sl Seen)) (k : (Nat → Int)) (ver : Int) (hl : ∀ x ∈ l.D, KeyB x.key) (hk : KeyB k) (hl1 : l.D.length ≤ 1000) : PCalls Tryd.prog 23 [sS (some l.nil) eSeen l.D, .agg [.pv (.lit (.int .u8 (k 0))), .pv (.lit (.int .u8 (k 1))), .pv (.lit (.int .u8 (k 2))), .pv (.lit (.int .u8 (k 3))), .pv (.lit (.int .u8 (k 4))), .pv (.lit (.int .u8 (k 5))), .pv (.lit (.int .u8 (k 6))), .pv (.lit (.int .u8 (k 7)))], .pv (.lit (.int .i64 ver))] (.tup [sS (some (rpSee l k ver).1.nil) eSeen ((rpSee l k ver).1.D), .pv (.lit (.int .i64 ((rpSee l k ver).2)))]) := by
 generalize hR : rpSee l k ver = R
 refine PCalls.of_body tabOk Tryd.func23 rfl rfl rfl rfl rfl mixed fun E hP C hI => ?_
 refine Awp.consP C ?_
 refine rvc_un (rexec_prim C (δ := { v := .ptr 4 0, new := [(4, .cells [.pv (.lit (.int .u8 (k 0))), .pv (.lit (.int .u8 (k 1))), .pv (.lit (.int .u8 (k 2))), .pv (.lit (.int .u8 (k 3))), .pv (.lit (.int .u8 (k 4))), .pv (.lit (.int .u8 (k 5))), .pv (.lit (.int .u8 (k 6))), .pv (.lit (.int .u8 (k 7)))])] }) rfl rfl rfl rfl trivial rfl ?_)
 refine rvP C (sS (some true) eSeen []) ?_
 refine rvP C (.pv (.lit (.int .i64 0))) ?_
 refine rvc_nil ?_
 refine Awp.seq ?_
 refine Awp.consP C ?_
 refine rvP C (sS (some l.nil) eSeen l.D) ?_
 refine rvc_un (rexec_call hP C rfl rfl rfl (rpRight_calls l hl (Nat.le_trans hl1 (by decide))) ?_)
 refine rvP C (.pv (.lit (.int .i64 (rpRight l)))) ?_
 refine rvc_nil ?_
 refine Awp.consP C ?_
 refine rvP C (.pv (.lit (.int .i64 (rpRight l)))) ?_
 refine rvP C (.pv (.lit (.bool ((rpRight l) != 0)))) ?_
 refine rvc_nil ?_
 refine Awp.cond (b := ((rpRight l) != 0)) rfl (fun h1 => ?_) (fun h1 => ?_)
 ·
  replace hR := of_true h1 hR
  refine Awp.consP C ?_
  refine rvP C (.pv (.lit (.int .i64 (rpRight l)))) ?_
  refine rvP C (sS (some true) eSeen []) ?_
  refine rvP C (.pv (.lit (.int .i64 (rpRight l)))) ?_
  refine rvc_nil ?_
  refine Awp.ret ?_
  subst hR
  exact ⟨.inl rfl, rfl⟩
 ·
  replace hR := of_false h1 hR
  refine Awp.skip ?_
  refine Awp.seq ?_
  refine Awp.consP C ?_
  refine rvP C (.agg [.pv (.lit (.int .u8 (k 0))), .pv (.lit (.int .u8 (k 1))), .pv (.lit (.int .u8 (k 2))), .pv (.lit (.int .u8 (k 3))), .pv (.lit (.int .u8 (k 4))), .pv (.lit (.int .u8 (k 5))), .pv (.lit (.int .u8 (k 6))), .pv (.lit (.int .u8 (k 7)))]) ?_
  refine rvc_un (rexec_call hP C rfl rfl rfl (rKey_calls k hk) ?_)
  refine rvP C (.pv (.lit (.bool (!(rKey k))))) ?_
  refine rvP C (.pv (.lit (.bool (!(rKey k))))) ?_
  refine rvc_case 21 (!(rKey k)) rfl (fun h2 => ?_) (fun h2 => ?_)
  ·
   replace hR := of_true h2 hR
   refine rvS ?_
   refine rvS ?_
   refine rvP C (.pv (.lit (.bool true))) ?_
   refine rvP C (.pv (.lit (.bool true))) ?_
   refine rvS ?_
   refine rvS ?_
   refine rvP C (.pv (.lit (.bool true))) ?_
   refine rvc_nil ?_
   refine Awp.condT (b := true) rfl rfl ?_
   refine Awp.consP C ?_
   refine rvP C (sS (some true) eSeen []) ?_
   refine rvP C (.pv (.lit (.int .i64 100))) ?_
   refine rvc_nil ?_
   refine Awp.ret ?_
   subst hR
   exact ⟨.inl rfl, rfl⟩
  ·
   replace hR := of_false h2 hR
   refine rvO C (.pv (.lit (.int .i64 ver))) ?_
   refine rvO C (.pv (.lit (.bool (decide (ver < 0))))) ?_
   refine rvP C (.pv (.lit (.bool (decide (ver < 0))))) ?_
   refine rvP C (.pv (.lit (.bool (decide (ver < 0))))) ?_
   refine rvc_case 25 (decide (ver < 0)) rfl (fun h3 => ?_) (fun h3 => ?_)
   ·
    replace hR := of_true h3 hR
    refine rvS ?_
    refine rvS ?_
    refine rvP C (.pv (.lit (.bool true))) ?_
    refine rvc_nil ?_
    refine Awp.condT (b := true) rfl rfl ?_
    refine Awp.consP C ?_
    refine rvP C (sS (some true) eSeen []) ?_
    refine rvP C (.pv (.lit (.int .i64 100))) ?_
    refine rvc_nil ?_
    refine Awp.ret ?_
    subst hR
    exact ⟨.inl rfl, rfl⟩
   ·
    replace hR := of_false h3 hR
    refine rvO C (.pv (.lit (.int .i64 ver))) ?_
    refine rvO C (.pv (.lit (.bool (decide (ver > 1099511627776))))) ?_
    refine rvP C (.pv (.lit (.bool (decide (ver > 1099511627776))))) ?_
    refine rvc_nil ?_
    refine Awp.cond (b := (decide (ver > 1099511627776))) rfl (fun h4 => ?_) (fun h4 => ?_)
    ·
     replace hR := of_true h4 hR
     refine Awp.consP C ?_
     refine rvP C (sS (some true) eSeen []) ?_
     refine rvP C (.pv (.lit (.int .i64 100))) ?_
     refine rvc_nil ?_
     refine Awp.ret ?_
     subst hR
     exact ⟨.inl rfl, rfl⟩
    ·
     replace hR := of_false h4 hR
     refine Awp.skip ?_
     refine Awp.consP C ?_
     refine rvP C (.pv (.lit (.int .i64 ver))) ?_
     refine rvP C (sS (some l.nil) eSeen l.D) ?_
     refine rvP C (.agg [.pv (.lit (.int .u8 (k 0))), .pv (.lit (.int .u8 (k 1))), .pv (.lit (.int .u8 (k 2))), .pv (.lit (.int .u8 (k 3))), .pv (.lit (.int .u8 (k 4))), .pv (.lit (.int .u8 (k 5))), .pv (.lit (.int .u8 (k 6))), .pv (.lit (.int .u8 (k 7)))]) ?_
     refine rvc_un (rexec_call hP C rfl rfl rfl (rpFloor_calls l k hl (Nat.le_trans hl1 (by decide))) ?_)
     refine rvc_un (rexec_max C rfl rfl rfl ?_)
     refine rvP C (.pv (.lit (.int .i64 (bif (decide (ver < (rpFloor l k))) then (rpFloor l k) else ver)))) ?_
     refine rvc_nil ?_
     refine Awp.consP C ?_
     refine rvP C (sS (some true) eSeen []) ?_
     refine rvc_nil ?_
     refine Awp.consP C ?_
     refine rvP C (.pv (.lit (.int .i64 (bif (decide (ver < (rpFloor l k))) then (rpFloor l k) else ver)))) ?_
     refine rvP C (.pv (.lit (.bool ((bif (decide (ver < (rpFloor l k))) then (rpFloor l k) else ver) == 0)))) ?_
     refine rvP C (.pv (.lit (.bool ((bif (decide (ver < (rpFloor l k))) then (rpFloor l k) else ver) == 0)))) ?_
     refine rvc_nil ?_
     refine Awp.seq ?_
     refine Awp.consP C ?_
     refine rvP C (sS (some l.nil) eSeen l.D) ?_
     refine rvP C (.pv (.lit (.int .i64 (l.D.length : Int)))) ?_
     refine rvP C (.pv (.lit (.int .i64 0))) ?_
     refine rvc_nil ?_
     refine Awp.block ?_
     refine Awp.forR (σ := ((List Seen)) × Bool) (l.D.length) (fun i v => [(2, .pv (.lit (.int .i64 (bif (decide (ver < (rpFloor l k))) then (rpFloor l k) else ver)))), (4, .ptr 4 0), (9, grow 900 eSeen v.1), (10, .pv (.lit (.bool v.2))), (36, sS (some l.nil) eSeen l.D), (37, .pv (.lit (.int .i64 (l.D.length : Int)))), (38, .pv (.lit (.int .i64 (i : Int))))]) (fun i v => (growH 900 eSeen v.1 ++ ([(4, .cells [.pv (.lit (.int .u8 (k 0))), .pv (.lit (.int .u8 (k 1))), .pv (.lit (.int .u8 (k 2))), .pv (.lit (.int .u8 (k 3))), .pv (.lit (.int .u8 (k 4))), .pv (.lit (.int .u8 (k 5))), .pv (.lit (.int .u8 (k 6))), .pv (.lit (.int .u8 (k 7)))])]))) [4, 900] (fun i v => (rpSee_l0 l k ver (l.D.drop i) i v.1 v.2 = R) ∧ (v.1.length ≤ i * 2)) ([], ((bif (decide (ver < (rpFloor l k))) then (rpFloor l k) else ver) == 0)) ?_ ?_ (fun i v h5 hR => ?_)
     · exact ⟨hR, (by first | omega | (simp <;> omega))⟩
     · exact ⟨fun b => b, WeakerR.ofL (Ks := [4, 900]) hI ⟨⟨rfl, rfl⟩, ⟨rfl, rfl⟩, ⟨rfl, rfl⟩, ⟨rfl, rfl⟩, ⟨rfl, rfl⟩, ⟨rfl, rfl⟩, ⟨rfl, rfl⟩, trivial⟩ (okH_grow (fun hne => absurd rfl hne) rfl rfl (okH_cons rfl rfl rfl rfl (okH_nil))) rfl⟩
     obtain ⟨out, put⟩ := v
     obtain ⟨hR, hi_out⟩ := hR
     replace hi_out : out.length ≤ i * 2 := hi_out
     by_cases h6 : out = []
     ·
      refine Awp.wordsR [(2, .pv (.lit (.int .i64 (bif (decide (ver < (rpFloor l k))) then (rpFloor l k) else ver)))), (4, .ptr 4 0), (9, sS (some out.isEmpty) eSeen out), (10, .pv (.lit (.bool put))), (36, sS (some l.nil) eSeen l.D), (37, .pv (.lit (.int .i64 (l.D.length : Int)))), (38, .pv (.lit (.int .i64 (i : Int))))] [(4, .cells [.pv (.lit (.int .u8 (k 0))), .pv (.lit (.int .u8 (k 1))), .pv (.lit (.int .u8 (k 2))), .pv (.lit (.int .u8 (k 3))), .pv (.lit (.int .u8 (k 4))), .pv (.lit (.int .u8 (k 5))), .pv (.lit (.int .u8 (k 6))), .pv (.lit (.int .u8 (k 7)))])] [4] (WeakerR.ofL (Ks := [4]) hI ⟨⟨rfl, rfl⟩, ⟨rfl, rfl⟩, ⟨(by exact grow_at_nil (b := 900) (e := eSeen) (l := out) rfl h6), rfl⟩, ⟨rfl, rfl⟩, ⟨rfl, rfl⟩, ⟨rfl, rfl⟩, ⟨rfl, rfl⟩, trivial⟩ (okH_cons (look_nil h6 rfl) rfl rfl rfl (okH_nil)) rfl) ?_
      refine Awp.consP C ?_
      refine rvP C (.pv (.lit (.bool (decide ((i : Int) < (l.D.length : Int)))))) ?_
      refine rvc_nil ?_
      refine Awp.seq ?_
      refine Awp.cond (b := (decide ((i : Int) < (l.D.length : Int)))) rfl (fun h7 => ?_) (fun h7 => ?_)
      ·
       have h8 : i < l.D.length := by have := of_decide_eq_true h7; omega
       obtain ⟨x, h9⟩ := getX h8
       rw [drop_at h9] at hR
       refine Awp.skip ?_
       refine Awp.seq ?_
       refine Awp.block ?_
       refine Awp.consP C ?_
       refine rvc_un (rexec_idxS C rfl rfl rfl rfl rfl rfl x (Int.natCast_nonneg _) h9 ?_)
       refine rvP C (.agg [.pv (.lit (.int .u8 (x.key 0))), .pv (.lit (.int .u8 (x.key 1))), .pv (.lit (.int .u8 (x.key 2))), .pv (.lit (.int .u8 (x.key 3))), .pv (.lit (.int .u8 (x.key 4))), .pv (.lit (.int .u8 (x.key 5))), .pv (.lit (.int .u8 (x.key 6))), .pv (.lit (.int .u8 (x.key 7))), .pv (.lit (.int .i64 x.ver))]) ?_
       refine rvc_un (rexec_prim C (δ := { v := .ptr 12 0, new := [(12, .cells [.pv (.lit (.int .u8 0)), .pv (.lit (.int .u8 0)), .pv (.lit (.int .u8 0)), .pv (.lit (.int .u8 0)), .pv (.lit (.int .u8 0)), .pv (.lit (.int .u8 0)), .pv (.lit (.int .u8 0)), .pv (.lit (.int .u8 0)), .pv (.lit (.int .i64 0))])] }) rfl rfl rfl rfl trivial rfl ?_)
       refine rvc_un (rexec_prim C (δ := { v := .undef, wr := [(12, some (.cells [.pv (.lit (.int .u8 (x.key 0))), .pv (.lit (.int .u8 (x.key 1))), .pv (.lit (.int .u8 (x.key 2))), .pv (.lit (.int .u8 (x.key 3))), .pv (.lit (.int .u8 (x.key 4))), .pv (.lit (.int .u8 (x.key 5))), .pv (.lit (.int .u8 (x.key 6))), .pv (.lit (.int .u8 (x.key 7))), .pv (.lit (.int .i64 x.ver))]))] }) rfl rfl rfl rfl trivial rfl ?_)
       refine rvc_nil ?_
       refine Awp.seq ?_
       refine Awp.consP C ?_
       refine rvP C (.pv (.lit (.bool put))) ?_
       refine rvP C (.pv (.lit (.bool (!put)))) ?_
       refine rvP C (.pv (.lit (.bool (!put)))) ?_
       refine rvc_case 44 (!put) rfl (fun h10 => ?_) (fun h10 => ?_)
       ·
        replace hR := of_true h10 hR
        refine rvO C (.ptr 12 0) ?_
        refine rvO C (.agg [.pv (.lit (.int .u8 (x.key 0))), .pv (.lit (.int .u8 (x.key 1))), .pv (.lit (.int .u8 (x.key 2))), .pv (.lit (.int .u8 (x.key 3))), .pv (.lit (.int .u8 (x.key 4))), .pv (.lit (.int .u8 (x.key 5))), .pv (.lit (.int .u8 (x.key 6))), .pv (.lit (.int .u8 (x.key 7)))]) ?_
        refine rvO C (.agg [.pv (.lit (.int .u8 (k 0))), .pv (.lit (.int .u8 (k 1))), .pv (.lit (.int .u8 (k 2))), .pv (.lit (.int .u8 (k 3))), .pv (.lit (.int .u8 (k 4))), .pv (.lit (.int .u8 (k 5))), .pv (.lit (.int .u8 (k 6))), .pv (.lit (.int .u8 (k 7)))]) ?_
        refine rvc_open rfl rfl rfl (rexec_call hP C rfl rfl rfl (rLess_calls x.key k) ?_)
        refine rvO C (.pv (.lit (.bool (!(rLess x.key k))))) ?_
        refine rvP C (.pv (.lit (.bool (!(rLess x.key k))))) ?_
        refine rvc_nil ?_
        refine Awp.cond (b := (!(rLess x.key k))) rfl (fun h11 => ?_) (fun h11 => ?_)
        ·
         replace hR := of_true h11 hR
         refine Awp.consP C ?_
         refine rvP C (sS (some out.isEmpty) eSeen out) ?_
         refine rvP C (.agg [.pv (.lit (.int .u8 (k 0))), .pv (.lit (.int .u8 (k 1))), .pv (.lit (.int .u8 (k 2))), .pv (.lit (.int .u8 (k 3))), .pv (.lit (.int .u8 (k 4))), .pv (.lit (.int .u8 (k 5))), .pv (.lit (.int .u8 (k 6))), .pv (.lit (.int .u8 (k 7)))]) ?_
         refine rvP C (.pv (.lit (.int .i64 (bif (decide (ver < (rpFloor l k))) then (rpFloor l k) else ver)))) ?_
         refine rvP C (.agg [.pv (.lit (.int .u8 (k 0))), .pv (.lit (.int .u8 (k 1))), .pv (.lit (.int .u8 (k 2))), .pv (.lit (.int .u8 (k 3))), .pv (.lit (.int .u8 (k 4))), .pv (.lit (.int .u8 (k 5))), .pv (.lit (.int .u8 (k 6))), .pv (.lit (.int .u8 (k 7))), .pv (.lit (.int .i64 (bif (decide (ver < (rpFloor l k))) then (rpFloor l k) else ver)))]) ?_
         refine rvc_un (rexec_buildSliceF C eSeen [(Seen.mk k (bif (decide (ver < (rpFloor l k))) then (rpFloor l k) else ver))] rfl rfl rfl rfl rfl rfl rfl (by decide) rfl ?_)
         refine rvc_un (rexec_appendG C rfl rfl rfl rfl rfl rfl rfl rfl (fun _ h => by cases h) rfl (en := eSeen) (l := out) (D := [(Seen.mk k (bif (decide (ver < (rpFloor l k))) then (rpFloor l k) else ver))]) rfl rfl h6 (by rw [h6]; rfl) (by simp) (by have := eq_of_bne_false h1; have := of_decide_eq_false h3; have := of_decide_eq_false h4; have := of_decide_eq_true h7; first | omega | (simp <;> omega)) (by decide) (nn := (out ++ [(Seen.mk k (bif (decide (ver < (rpFloor l k))) then (rpFloor l k) else ver))]).length) (by simp) ?_)
         refine rvP C (.sl 56 0 ((out ++ [(Seen.mk k (bif (decide (ver < (rpFloor l k))) then (rpFloor l k) else ver))]).length) 9 false) ?_
         refine rvc_nil ?_
         refine Awp.regionP C ?_
         refine rvP C (.pv (.lit (.bool true))) ?_
         refine rvc_nil ?_
         refine Awp.consP C ?_
         refine rvP C (.ptr 12 0) ?_
         refine rvP C (.agg [.pv (.lit (.int .u8 (x.key 0))), .pv (.lit (.int .u8 (x.key 1))), .pv (.lit (.int .u8 (x.key 2))), .pv (.lit (.int .u8 (x.key 3))), .pv (.lit (.int .u8 (x.key 4))), .pv (.lit (.int .u8 (x.key 5))), .pv (.lit (.int .u8 (x.key 6))), .pv (.lit (.int .u8 (x.key 7)))]) ?_
         refine rvP C (.agg [.pv (.lit (.int .u8 (k 0))), .pv (.lit (.int .u8 (k 1))), .pv (.lit (.int .u8 (k 2))), .pv (.lit (.int .u8 (k 3))), .pv (.lit (.int .u8 (k 4))), .pv (.lit (.int .u8 (k 5))), .pv (.lit (.int .u8 (k 6))), .pv (.lit (.int .u8 (k 7)))]) ?_
         refine rvP C (.pv (.lit (.bool (!(((x.key 0) == (k 0)) && (((x.key 1) == (k 1)) && (((x.key 2) == (k 2)) && (((x.key 3) == (k 3)) && (((x.key 4) == (k 4)) && (((x.key 5) == (k 5)) && (((x.key 6) == (k 6)) && (((x.key 7) == (k 7)) && true)))))))))))) ?_
         refine rvc_nil ?_
         refine Awp.cond (b := (!(((x.key 0) == (k 0)) && (((x.key 1) == (k 1)) && (((x.key 2) == (k 2)) && (((x.key 3) == (k 3)) && (((x.key 4) == (k 4)) && (((x.key 5) == (k 5)) && (((x.key 6) == (k 6)) && (((x.key 7) == (k 7)) && true)))))))))) rfl (fun h12 => ?_) (fun h12 => ?_)
         ·
          replace hR := of_true h12 hR
          refine Awp.regionP C ?_
          refine rvP C (.sl 56 0 ((out ++ [(Seen.mk k (bif (decide (ver < (rpFloor l k))) then (rpFloor l k) else ver))]).length) 9 false) ?_
          refine rvP C (.agg [.pv (.lit (.int .u8 (x.key 0))), .pv (.lit (.int .u8 (x.key 1))), .pv (.lit (.int .u8 (x.key 2))), .pv (.lit (.int .u8 (x.key 3))), .pv (.lit (.int .u8 (x.key 4))), .pv (.lit (.int .u8 (x.key 5))), .pv (.lit (.int .u8 (x.key 6))), .pv (.lit (.int .u8 (x.key 7))), .pv (.lit (.int .i64 x.ver))]) ?_
          refine rvc_un (rexec_buildSliceF C eSeen [x] rfl rfl rfl rfl rfl rfl rfl (by decide) rfl ?_)
          refine rvc_un (rexec_append C rfl rfl rfl rfl rfl rfl rfl rfl (fun _ h => by cases h) rfl (en := eSeen) (D0 := (out ++ [(Seen.mk k (bif (decide (ver < (rpFloor l k))) then (rpFloor l k) else ver))])) (D := [x]) rfl rfl rfl rfl (by have := eq_of_bne_false h1; have := of_decide_eq_false h3; have := of_decide_eq_false h4; have := of_decide_eq_true h7; first | omega | (simp <;> omega)) (by decide) (nn := ((out ++ [(Seen.mk k (bif (decide (ver < (rpFloor l k))) then (rpFloor l k) else ver))]) ++ [x]).length) (by simp) ?_)
          refine rvP C (.sl 64 0 (((out ++ [(Seen.mk k (bif (decide (ver < (rpFloor l k))) then (rpFloor l k) else ver))]) ++ [x]).length) 9 false) ?_
          refine rvc_nil ?_
          refine Awp.regionP C ?_
          refine rvP C (.pv (.lit (.int .i64 (IntKind.i64.wrap ((i : Int) + 1))))) ?_
          refine rvP C (.pv (.lit (.int .i64 (IntKind.i64.wrap ((i : Int) + 1))))) ?_
          refine rvc_nil ?_
          refine ⟨h8, (((out ++ [(Seen.mk k (bif (decide (ver < (rpFloor l k))) then (rpFloor l k) else ver))]) ++ [x]), true), ?_, ?_⟩
          · exact ⟨hR, (by first | omega | (simp <;> omega))⟩
          · exact ⟨fun b => bif b == 900 then 64 else (fun b => b) b, WeakerR.ofL (Ks := [4, 900]) hI ⟨⟨rfl, rfl⟩, ⟨rfl, rfl⟩, ⟨grow_to rfl rfl app_ne rfl rfl, grow_within rfl⟩, ⟨rfl, rfl⟩, ⟨rfl, rfl⟩, ⟨rfl, rfl⟩, ⟨lit_cast (wrap_i64 (by omega) (by omega)), rfl⟩, trivial⟩ (okH_grow (fun _ => rfl) rfl rfl (okH_cons rfl rfl rfl rfl (okH_nil))) rfl⟩
         ·
          replace hR := of_false h12 hR
          refine Awp.skip ?_
          refine Awp.regionP C ?_
          refine rvP C (.pv (.lit (.int .i64 (IntKind.i64.wrap ((i : Int) + 1))))) ?_
          refine rvP C (.pv (.lit (.int .i64 (IntKind.i64.wrap ((i : Int) + 1))))) ?_
          refine rvc_nil ?_
          refine ⟨h8, ((out ++ [(Seen.mk k (bif (decide (ver < (rpFloor l k))) then (rpFloor l k) else ver))]), true), ?_, ?_⟩
          · exact ⟨hR, (by first | omega | (simp <;> omega))⟩
          · exact ⟨fun b => bif b == 900 then 56 else (fun b => b) b, WeakerR.ofL (Ks := [4, 900]) hI ⟨⟨rfl, rfl⟩, ⟨rfl, rfl⟩, ⟨grow_to rfl rfl app_ne rfl rfl, grow_within rfl⟩, ⟨rfl, rfl⟩, ⟨rfl, rfl⟩, ⟨rfl, rfl⟩, ⟨lit_cast (wrap_i64 (by omega) (by omega)), rfl⟩, trivial⟩ (okH_grow (fun _ => rfl) rfl rfl (okH_cons rfl rfl rfl rfl (okH_nil))) rfl⟩
        ·
         replace hR := of_false h11 hR
         refine Awp.skip ?_
         refine Awp.consP C ?_
         refine rvP C (.ptr 12 0) ?_
         refine rvP C (.agg [.pv (.lit (.int .u8 (x.key 0))), .pv (.lit (.int .u8 (x.key 1))), .pv (.lit (.int .u8 (x.key 2))), .pv (.lit (.int .u8 (x.key 3))), .pv (.lit (.int .u8 (x.key 4))), .pv (.lit (.int .u8 (x.key 5))), .pv (.lit (.int .u8 (x.key 6))), .pv (.lit (.int .u8 (x.key 7)))]) ?_
         refine rvP C (.agg [.pv (.lit (.int .u8 (k 0))), .pv (.lit (.int .u8 (k 1))), .pv (.lit (.int .u8 (k 2))), .pv (.lit (.int .u8 (k 3))), .pv (.lit (.int .u8 (k 4))), .pv (.lit (.int .u8 (k 5))), .pv (.lit (.int .u8 (k 6))), .pv (.lit (.int .u8 (k 7)))]) ?_
         refine rvP C (.pv (.lit (.bool (!(((x.key 0) == (k 0)) && (((x.key 1) == (k 1)) && (((x.key 2) == (k 2)) && (((x.key 3) == (k 3)) && (((x.key 4) == (k 4)) && (((x.key 5) == (k 5)) && (((x.key 6) == (k 6)) && (((x.key 7) == (k 7)) && true)))))))))))) ?_
         refine rvc_nil ?_
         refine Awp.cond (b := (!(((x.key 0) == (k 0)) && (((x.key 1) == (k 1)) && (((x.key 2) == (k 2)) && (((x.key 3) == (k 3)) && (((x.key 4) == (k 4)) && (((x.key 5) == (k 5)) && (((x.key 6) == (k 6)) && (((x.key 7) == (k 7)) && true)))))))))) rfl (fun h13 => ?_) (fun h13 => ?_)
         ·
          replace hR := of_true h13 hR
          refine Awp.regionP C ?_
          refine rvP C (sS (some out.isEmpty) eSeen out) ?_
          refine rvP C (.agg [.pv (.lit (.int .u8 (x.key 0))), .pv (.lit (.int .u8 (x.key 1))), .pv (.lit (.int .u8 (x.key 2))), .pv (.lit (.int .u8 (x.key 3))), .pv (.lit (.int .u8 (x.key 4))), .pv (.lit (.int .u8 (x.key 5))), .pv (.lit (.int .u8 (x.key 6))), .pv (.lit (.int .u8 (x.key 7))), .pv (.lit (.int .i64 x.ver))]) ?_
          refine rvc_un (rexec_buildSliceF C eSeen [x] rfl rfl rfl rfl rfl rfl rfl (by decide) rfl ?_)
          refine rvc_un (rexec_appendG C rfl rfl rfl rfl rfl rfl rfl rfl (fun _ h => by cases h) rfl (en := eSeen) (l := out) (D := [x]) rfl rfl h6 (by rw [h6]; rfl) (by simp) (by have := eq_of_bne_false h1; have := of_decide_eq_false h3; have := of_decide_eq_false h4; have := of_decide_eq_true h7; first | omega | (simp <;> omega)) (by decide) (nn := (out ++ [x]).length) (by simp) ?_)
          refine rvP C (.sl 64 0 ((out ++ [x]).length) 9 false) ?_
          refine rvc_nil ?_
          refine Awp.regionP C ?_
          refine rvP C (.pv (.lit (.int .i64 (IntKind.i64.wrap ((i : Int) + 1))))) ?_
          refine rvP C (.pv (.lit (.int .i64 (IntKind.i64.wrap ((i : Int) + 1))))) ?_
          refine rvc_nil ?_
          refine ⟨h8, ((out ++ [x]), put), ?_, ?_⟩
          · exact ⟨hR, (by first | omega | (simp <;> omega))⟩
          · exact ⟨fun b => bif b == 900 then 64 else (fun b => b) b, WeakerR.ofL (Ks := [4, 900]) hI ⟨⟨rfl, rfl⟩, ⟨rfl, rfl⟩, ⟨grow_to rfl rfl app_ne rfl rfl, grow_within rfl⟩, ⟨rfl, rfl⟩, ⟨rfl, rfl⟩, ⟨rfl, rfl⟩, ⟨lit_cast (wrap_i64 (by omega) (by omega)), rfl⟩, trivial⟩ (okH_grow (fun _ => rfl) rfl rfl (okH_cons rfl rfl rfl rfl (okH_nil))) rfl⟩
         ·
          replace hR := of_false h13 hR
          refine Awp.skip ?_
          refine Awp.regionP C ?_
          refine rvP C (.pv (.lit (.int .i64 (IntKind.i64.wrap ((i : Int) + 1))))) ?_
          refine rvP C (.pv (.lit (.int .i64 (IntKind.i64.wrap ((i : Int) + 1))))) ?_
          refine rvc_nil ?_
          refine ⟨h8, (out, put), ?_, ?_⟩
          · exact ⟨hR, (by first | omega | (simp <;> omega))⟩
          · exact ⟨fun b => b, WeakerR.ofL (Ks := [4, 900]) hI ⟨⟨rfl, rfl⟩, ⟨rfl, rfl⟩, ⟨grow_to_nil rfl h6 (.inr rfl), grow_within rfl⟩, ⟨rfl, rfl⟩, ⟨rfl, rfl⟩, ⟨rfl, rfl⟩, ⟨lit_cast (wrap_i64 (by omega) (by omega)), rfl⟩, trivial⟩ (okH_grow (fun hne => absurd h6 hne) rfl rfl (okH_cons rfl rfl rfl rfl (okH_nil))) rfl⟩
       ·
        replace hR := of_false h10 hR
        refine rvS ?_
        refine rvS ?_
        refine rvS ?_
        refine rvS ?_
        refine rvS ?_
        refine rvP C (.pv (.lit (.bool false))) ?_
        refine rvc_nil ?_
        refine Awp.condF (b := false) rfl rfl ?_
        refine Awp.skip ?_
        refine Awp.consP C ?_
        refine rvP C (.ptr 12 0) ?_
        refine rvP C (.agg [.pv (.lit (.int .u8 (x.key 0))), .pv (.lit (.int .u8 (x.key 1))), .pv (.lit (.int .u8 (x.key 2))), .pv (.lit (.int .u8 (x.key 3))), .pv (.lit (.int .u8 (x.key 4))), .pv (.lit (.int .u8 (x.key 5))), .pv (.lit (.int .u8 (x.key 6))), .pv (.lit (.int .u8 (x.key 7)))]) ?_
        refine rvP C (.agg [.pv (.lit (.int .u8 (k 0))), .pv (.lit (.int .u8 (k 1))), .pv (.lit (.int .u8 (k 2))), .pv (.lit (.int .u8 (k 3))), .pv (.lit (.int .u8 (k 4))), .pv (.lit (.int .u8 (k 5))), .pv (.lit (.int .u8 (k 6))), .pv (.lit (.int .u8 (k 7)))]) ?_
        refine rvP C (.pv (.lit (.bool (!(((x.key 0) == (k 0)) && (((x.key 1) == (k 1)) && (((x.key 2) == (k 2)) && (((x.key 3) == (k 3)) && (((x.key 4) == (k 4)) && (((x.key 5) == (k 5)) && (((x.key 6) == (k 6)) && (((x.key 7) == (k 7)) && true)))))))))))) ?_
        refine rvc_nil ?_
        refine Awp.cond (b := (!(((x.key 0) == (k 0)) && (((x.key 1) == (k 1)) && (((x.key 2) == (k 2)) && (((x.key 3) == (k 3)) && (((x.key 4) == (k 4)) && (((x.key 5) == (k 5)) && (((x.key 6) == (k 6)) && (((x.key 7) == (k 7)) && true)))))))))) rfl (fun h14 => ?_) (fun h14 => ?_)
        ·
         replace hR := of_true h14 hR
         refine Awp.regionP C ?_
         refine rvP C (sS (some out.isEmpty) eSeen out) ?_
         refine rvP C (.agg [.pv (.lit (.int .u8 (x.key 0))), .pv (.lit (.int .u8 (x.key 1))), .pv (.lit (.int .u8 (x.key 2))), .pv (.lit (.int .u8 (x.key 3))), .pv (.lit (.int .u8 (x.key 4))), .pv (.lit (.int .u8 (x.key 5))), .pv (.lit (.int .u8 (x.key 6))), .pv (.lit (.int .u8 (x.key 7))), .pv (.lit (.int .i64 x.ver))]) ?_
         refine rvc_un (rexec_buildSliceF C eSeen [x] rfl rfl rfl rfl rfl rfl rfl (by decide) rfl ?_)
         refine rvc_un (rexec_appendG C rfl rfl rfl rfl rfl rfl rfl rfl (fun _ h => by cases h) rfl (en := eSeen) (l := out) (D := [x]) rfl rfl h6 (by rw [h6]; rfl) (by simp) (by have := eq_of_bne_false h1; have := of_decide_eq_false h3; have := of_decide_eq_false h4; have := of_decide_eq_true h7; first | omega | (simp <;> omega)) (by decide) (nn := (out ++ [x]).length) (by simp) ?_)
         refine rvP C (.sl 64 0 ((out ++ [x]).length) 9 false) ?_
         refine rvc_nil ?_
         refine Awp.regionP C ?_
         refine rvP C (.pv (.lit (.int .i64 (IntKind.i64.wrap ((i : Int) + 1))))) ?_
         refine rvP C (.pv (.lit (.int .i64 (IntKind.i64.wrap ((i : Int) + 1))))) ?_
         refine rvc_nil ?_
         refine ⟨h8, ((out ++ [x]), put), ?_, ?_⟩
         · exact ⟨hR, (by first | omega | (simp <;> omega))⟩
         · exact ⟨fun b => bif b == 900 then 64 else (fun b => b) b, WeakerR.ofL (Ks := [4, 900]) hI ⟨⟨rfl, rfl⟩, ⟨rfl, rfl⟩, ⟨grow_to rfl rfl app_ne rfl rfl, grow_within rfl⟩, ⟨rfl, rfl⟩, ⟨rfl, rfl⟩, ⟨rfl, rfl⟩, ⟨lit_cast (wrap_i64 (by omega) (by omega)), rfl⟩, trivial⟩ (okH_grow (fun _ => rfl) rfl rfl (okH_cons rfl rfl rfl rfl (okH_nil))) rfl⟩
        ·
         replace hR := of_false h14 hR
         refine Awp.skip ?_
         refine Awp.regionP C ?_
         refine rvP C (.pv (.lit (.int .i64 (IntKind.i64.wrap ((i : Int) + 1))))) ?_
         refine rvP C (.pv (.lit (.int .i64 (IntKind.i64.wrap ((i : Int) + 1))))) ?_
         refine rvc_nil ?_
         refine ⟨h8, (out, put), ?_, ?_⟩
         · exact ⟨hR, (by first | omega | (simp <;> omega))⟩
         · exact ⟨fun b => b, WeakerR.ofL (Ks := [4, 900]) hI ⟨⟨rfl, rfl⟩, ⟨rfl, rfl⟩, ⟨grow_to_nil rfl h6 (.inr rfl), grow_within rfl⟩, ⟨rfl, rfl⟩, ⟨rfl, rfl⟩, ⟨rfl, rfl⟩, ⟨lit_cast (wrap_i64 (by omega) (by omega)), rfl⟩, trivial⟩ (okH_grow (fun hne => absurd h6 hne) rfl rfl (okH_cons rfl rfl rfl rfl (okH_nil))) rfl⟩
      ·
       have h8 : ¬ i < l.D.length := by have := of_decide_eq_false h7; omega
       rw [drop_end h8] at hR
       refine Awp.exit ?_
       refine Awp.seq ?_
       refine Awp.consP C ?_
       refine rvP C (.pv (.lit (.bool put))) ?_
       refine rvP C (.pv (.lit (.bool (!put)))) ?_
       refine rvc_nil ?_
       refine Awp.cond (b := (!put)) rfl (fun h15 => ?_) (fun h15 => ?_)
       ·
        replace hR := of_true h15 hR
        refine Awp.regionP C ?_
        refine rvP C (sS (some out.isEmpty) eSeen out) ?_
        refine rvP C (.agg [.pv (.lit (.int .u8 (k 0))), .pv (.lit (.int .u8 (k 1))), .pv (.lit (.int .u8 (k 2))), .pv (.lit (.int .u8 (k 3))), .pv (.lit (.int .u8 (k 4))), .pv (.lit (.int .u8 (k 5))), .pv (.lit (.int .u8 (k 6))), .pv (.lit (.int .u8 (k 7)))]) ?_
        refine rvP C (.pv (.lit (.int .i64 (bif (decide (ver < (rpFloor l k))) then (rpFloor l k) else ver)))) ?_
        refine rvP C (.agg [.pv (.lit (.int .u8 (k 0))), .pv (.lit (.int .u8 (k 1))), .pv (.lit (.int .u8 (k 2))), .pv (.lit (.int .u8 (k 3))), .pv (.lit (.int .u8 (k 4))), .pv (.lit (.int .u8 (k 5))), .pv (.lit (.int .u8 (k 6))), .pv (.lit (.int .u8 (k 7))), .pv (.lit (.int .i64 (bif (decide (ver < (rpFloor l k))) then (rpFloor l k) else ver)))]) ?_
        refine rvc_un (rexec_buildSliceF C eSeen [(Seen.mk k (bif (decide (ver < (rpFloor l k))) then (rpFloor l k) else ver))] rfl rfl rfl rfl rfl rfl rfl (by decide) rfl ?_)
        refine rvc_un (rexec_appendG C rfl rfl rfl rfl rfl rfl rfl rfl (fun _ h => by cases h) rfl (en := eSeen) (l := out) (D := [(Seen.mk k (bif (decide (ver < (rpFloor l k))) then (rpFloor l k) else ver))]) rfl rfl h6 (by rw [h6]; rfl) (by simp) (by have := eq_of_bne_false h1; have := of_decide_eq_false h3; have := of_decide_eq_false h4; have := of_decide_eq_false h7; first | omega | (simp <;> omega)) (by decide) (nn := (out ++ [(Seen.mk k (bif (decide (ver < (rpFloor l k))) then (rpFloor l k) else ver))]).length) (by simp) ?_)
        refine rvP C (.sl 73 0 ((out ++ [(Seen.mk k (bif (decide (ver < (rpFloor l k))) then (rpFloor l k) else ver))]).length) 9 false) ?_
        refine rvc_nil ?_
        refine Awp.seq ?_
        refine Awp.consP C ?_
        refine rvP C (.sl 73 0 ((out ++ [(Seen.mk k (bif (decide (ver < (rpFloor l k))) then (rpFloor l k) else ver))]).length) 9 false) ?_
        refine rvP C (.pv (.lit (.int .i64 (((out ++ [(Seen.mk k (bif (decide (ver < (rpFloor l k))) then (rpFloor l k) else ver))]).length) : Int)))) ?_
        refine rvP C (.pv (.lit (.bool (decide ((((out ++ [(Seen.mk k (bif (decide (ver < (rpFloor l k))) then (rpFloor l k) else ver))]).length) : Int) > 6))))) ?_
        refine rvc_nil ?_
        refine Awp.cond (b := (decide ((((out ++ [(Seen.mk k (bif (decide (ver < (rpFloor l k))) then (rpFloor l k) else ver))]).length) : Int) > 6))) rfl (fun h16 => ?_) (fun h16 => ?_)
        ·
         replace hR := of_true h16 hR
         refine Awp.consP C ?_
         refine rvP C (sS (some true) eSeen []) ?_
         refine rvP C (.pv (.lit (.int .i64 7))) ?_
         refine rvc_nil ?_
         refine Awp.ret ?_
         subst hR
         exact ⟨.inl rfl, rfl⟩
        ·
         replace hR := of_false h16 hR
         refine Awp.skip ?_
         refine Awp.consP C ?_
         refine rvP C (.sl 73 0 ((out ++ [(Seen.mk k (bif (decide (ver < (rpFloor l k))) then (rpFloor l k) else ver))]).length) 9 false) ?_
         refine rvP C (.sl 73 0 ((out ++ [(Seen.mk k (bif (decide (ver < (rpFloor l k))) then (rpFloor l k) else ver))]).length) 9 false) ?_
         refine rvP C (.pv (.lit (.int .i64 0))) ?_
         refine rvc_nil ?_
         refine Awp.freezeW 73 (encL eSeen (out ++ [(Seen.mk k (bif (decide (ver < (rpFloor l k))) then (rpFloor l k) else ver))])) ?_ [(6, sS (some false) eSeen (out ++ [(Seen.mk k (bif (decide (ver < (rpFloor l k))) then (rpFloor l k) else ver))])), (7, .pv (.lit (.int .i64 0)))] [(4, .cells [.pv (.lit (.int .u8 (k 0))), .pv (.lit (.int .u8 (k 1))), .pv (.lit (.int .u8 (k 2))), .pv (.lit (.int .u8 (k 3))), .pv (.lit (.int .u8 (k 4))), .pv (.lit (.int .u8 (k 5))), .pv (.lit (.int .u8 (k 6))), .pv (.lit (.int .u8 (k 7)))])] ?_ ?_ ?_
         · rfl
         · exact ⟨⟨_, rfl, .inl (.inr ⟨_, _, _, rfl, rfl⟩)⟩, ⟨_, rfl, .inl (.inl rfl)⟩, trivial⟩
         · exact ⟨⟨(by show (4 : Nat) ≠ 73; decide), .inl rfl⟩, trivial⟩
         refine Awp.ret ?_
         subst hR
         exact ⟨.inl rfl, rfl⟩
       ·
        replace hR := of_false h15 hR
        refine Awp.skip ?_
        refine Awp.seq ?_
        refine Awp.consP C ?_
        refine rvP C (sS (some out.isEmpty) eSeen out) ?_
        refine rvP C (.pv (.lit (.int .i64 (out.length : Int)))) ?_
        refine rvP C (.pv (.lit (.bool (decide ((out.length : Int) > 6))))) ?_
        refine rvc_nil ?_
        refine Awp.cond (b := (decide ((out.length : Int) > 6))) rfl (fun h17 => ?_) (fun h17 => ?_)
        ·
         replace hR := of_true h17 hR
         refine Awp.consP C ?_
         refine rvP C (sS (some true) eSeen []) ?_
         refine rvP C (.pv (.lit (.int .i64 7))) ?_
         refine rvc_nil ?_
         refine Awp.ret ?_
         subst hR
         exact ⟨.inl rfl, rfl⟩
        ·
         replace hR := of_false h17 hR
         refine Awp.skip ?_
         refine Awp.consP C ?_
         refine rvP C (sS (some out.isEmpty) eSeen out) ?_
         refine rvP C (sS (some out.isEmpty) eSeen out) ?_
         refine rvP C (.pv (.lit (.int .i64 0))) ?_
         refine rvc_nil ?_
         refine Awp.ret ?_
         subst hR
         exact ⟨.inl rfl, rfl⟩
     ·
      refine Awp.wordsR [(2, .pv (.lit (.int .i64 (bif (decide (ver < (rpFloor l k))) then (rpFloor l k) else ver)))), (4, .ptr 4 0), (9, .sl 900 0 out.length 9 false), (10, .pv (.lit (.bool put))), (36, sS (some l.nil) eSeen l.D), (37, .pv (.lit (.int .i64 (l.D.length : Int)))), (38, .pv (.lit (.int .i64 (i : Int))))] [(900, .cells (encC eSeen out)), (4, .cells [.pv (.lit (.int .u8 (k 0))), .pv (.lit (.int .u8 (k 1))), .pv (.lit (.int .u8 (k 2))), .pv (.lit (.int .u8 (k 3))), .pv (.lit (.int .u8 (k 4))), .pv (.lit (.int .u8 (k 5))), .pv (.lit (.int .u8 (k 6))), .pv (.lit (.int .u8 (k 7)))])] [4, 900] (WeakerR.ofL (Ks := [4, 900]) hI ⟨⟨rfl, rfl⟩, ⟨rfl, rfl⟩, ⟨(by exact grow_at_cons (b := 900) (b' := 900) (e := eSeen) (l := out) rfl h6 rfl rfl rfl), rfl⟩, ⟨rfl, rfl⟩, ⟨rfl, rfl⟩, ⟨rfl, rfl⟩, ⟨rfl, rfl⟩, trivial⟩ (okH_list (look_cons h6 rfl) rfl rfl (okH_cons (look_cons h6 rfl) rfl rfl rfl (okH_nil))) rfl) ?_
      refine Awp.consP C ?_
      refine rvP C (.pv (.lit (.bool (decide ((i : Int) < (l.D.length : Int)))))) ?_
      refine rvc_nil ?_
      refine Awp.seq ?_
      refine Awp.cond (b := (decide ((i : Int) < (l.D.length : Int)))) rfl (fun h18 => ?_) (fun h18 => ?_)
      ·
       have h19 : i < l.D.length := by have := of_decide_eq_true h18; omega
       obtain ⟨x, h20⟩ := getX h19
       rw [drop_at h20] at hR
       refine Awp.skip ?_
       refine Awp.seq ?_
       refine Awp.block ?_
       refine Awp.consP C ?_
       refine rvc_un (rexec_idxS C rfl rfl rfl rfl rfl rfl x (Int.natCast_nonneg _) h20 ?_)
       refine rvP C (.agg [.pv (.lit (.int .u8 (x.key 0))), .pv (.lit (.int .u8 (x.key 1))), .pv (.lit (.int .u8 (x.key 2))), .pv (.lit (.int .u8 (x.key 3))), .pv (.lit (.int .u8 (x.key 4))), .pv (.lit (.int .u8 (x.key 5))), .pv (.lit (.int .u8 (x.key 6))), .pv (.lit (.int .u8 (x.key 7))), .pv (.lit (.int .i64 x.ver))]) ?_
       refine rvc_un (rexec_prim C (δ := { v := .ptr 12 0, new := [(12, .cells [.pv (.lit (.int .u8 0)), .pv (.lit (.int .u8 0)), .pv (.lit (.int .u8 0)), .pv (.lit (.int .u8 0)), .pv (.lit (.int .u8 0)), .pv (.lit (.int .u8 0)), .pv (.lit (.int .u8 0)), .pv (.lit (.int .u8 0)), .pv (.lit (.int .i64 0))])] }) rfl rfl rfl rfl trivial rfl ?_)
       refine rvc_un (rexec_prim C (δ := { v := .undef, wr := [(12, some (.cells [.pv (.lit (.int .u8 (x.key 0))), .pv (.lit (.int .u8 (x.key 1))), .pv (.lit (.int .u8 (x.key 2))), .pv (.lit (.int .u8 (x.key 3))), .pv (.lit (.int .u8 (x.key 4))), .pv (.lit (.int .u8 (x.key 5))), .pv (.lit (.int .u8 (x.key 6))), .pv (.lit (.int .u8 (x.key 7))), .pv (.lit (.int .i64 x.ver))]))] }) rfl rfl rfl rfl trivial rfl ?_)
       refine rvc_nil ?_
       refine Awp.seq ?_
       refine Awp.consP C ?_
       refine rvP C (.pv (.lit (.bool put))) ?_
       refine rvP C (.pv (.lit (.bool (!put)))) ?_
       refine rvP C (.pv (.lit (.bool (!put)))) ?_
       refine rvc_case 44 (!put) rfl (fun h21 => ?_) (fun h21 => ?_)
       ·
        replace hR := of_true h21 hR
        refine rvO C (.ptr 12 0) ?_
        refine rvO C (.agg [.pv (.lit (.int .u8 (x.key 0))), .pv (.lit (.int .u8 (x.key 1))), .pv (.lit (.int .u8 (x.key 2))), .pv (.lit (.int .u8 (x.key 3))), .pv (.lit (.int .u8 (x.key 4))), .pv (.lit (.int .u8 (x.key 5))), .pv (.lit (.int .u8 (x.key 6))), .pv (.lit (.int .u8 (x.key 7)))]) ?_
        refine rvO C (.agg [.pv (.lit (.int .u8 (k 0))), .pv (.lit (.int .u8 (k 1))), .pv (.lit (.int .u8 (k 2))), .pv (.lit (.int .u8 (k 3))), .pv (.lit (.int .u8 (k 4))), .pv (.lit (.int .u8 (k 5))), .pv (.lit (.int .u8 (k 6))), .pv (.lit (.int .u8 (k 7)))]) ?_
        refine rvc_open rfl rfl rfl (rexec_call hP C rfl rfl rfl (rLess_calls x.key k) ?_)
        refine rvO C (.pv (.lit (.bool (!(rLess x.key k))))) ?_
        refine rvP C (.pv (.lit (.bool (!(rLess x.key k))))) ?_
        refine rvc_nil ?_
        refine Awp.cond (b := (!(rLess x.key k))) rfl (fun h22 => ?_) (fun h22 => ?_)
        ·
         replace hR := of_true h22 hR
         refine Awp.consP C ?_
         refine rvP C (.sl 900 0 out.length 9 false) ?_
         refine rvP C (.agg [.pv (.lit (.int .u8 (k 0))), .pv (.lit (.int .u8 (k 1))), .pv (.lit (.int .u8 (k 2))), .pv (.lit (.int .u8 (k 3))), .pv (.lit (.int .u8 (k 4))), .pv (.lit (.int .u8 (k 5))), .pv (.lit (.int .u8 (k 6))), .pv (.lit (.int .u8 (k 7)))]) ?_
         refine rvP C (.pv (.lit (.int .i64 (bif (decide (ver < (rpFloor l k))) then (rpFloor l k) else ver)))) ?_
         refine rvP C (.agg [.pv (.lit (.int .u8 (k 0))), .pv (.lit (.int .u8 (k 1))), .pv (.lit (.int .u8 (k 2))), .pv (.lit (.int .u8 (k 3))), .pv (.lit (.int .u8 (k 4))), .pv (.lit (.int .u8 (k 5))), .pv (.lit (.int .u8 (k 6))), .pv (.lit (.int .u8 (k 7))), .pv (.lit (.int .i64 (bif (decide (ver < (rpFloor l k))) then (rpFloor l k) else ver)))]) ?_
         refine rvc_un (rexec_buildSliceF C eSeen [(Seen.mk k (bif (decide (ver < (rpFloor l k))) then (rpFloor l k) else ver))] rfl rfl rfl rfl rfl rfl rfl (by decide) rfl ?_)
         refine rvc_un (rexec_append C rfl rfl rfl rfl rfl rfl rfl rfl (fun _ h => by cases h) rfl (en := eSeen) (D0 := out) (D := [(Seen.mk k (bif (decide (ver < (rpFloor l k))) then (rpFloor l k) else ver))]) rfl rfl rfl rfl (by have := eq_of_bne_false h1; have := of_decide_eq_false h3; have := of_decide_eq_false h4; have := of_decide_eq_true h18; first | omega | (simp <;> omega)) (by decide) (nn := (out ++ [(Seen.mk k (bif (decide (ver < (rpFloor l k))) then (rpFloor l k) else ver))]).length) (by simp) ?_)
         refine rvP C (.sl 56 0 ((out ++ [(Seen.mk k (bif (decide (ver < (rpFloor l k))) then (rpFloor l k) else ver))]).length) 9 false) ?_
         refine rvc_nil ?_
         refine Awp.regionP C ?_
         refine rvP C (.pv (.lit (.bool true))) ?_
         refine rvc_nil ?_
         refine Awp.consP C ?_
         refine rvP C (.ptr 12 0) ?_
         refine rvP C (.agg [.pv (.lit (.int .u8 (x.key 0))), .pv (.lit (.int .u8 (x.key 1))), .pv (.lit (.int .u8 (x.key 2))), .pv (.lit (.int .u8 (x.key 3))), .pv (.lit (.int .u8 (x.key 4))), .pv (.lit (.int .u8 (x.key 5))), .pv (.lit (.int .u8 (x.key 6))), .pv (.lit (.int .u8 (x.key 7)))]) ?_
         refine rvP C (.agg [.pv (.lit (.int .u8 (k 0))), .pv (.lit (.int .u8 (k 1))), .pv (.lit (.int .u8 (k 2))), .pv (.lit (.int .u8 (k 3))), .pv (.lit (.int .u8 (k 4))), .pv (.lit (.int .u8 (k 5))), .pv (.lit (.int .u8 (k 6))), .pv (.lit (.int .u8 (k 7)))]) ?_
         refine rvP C (.pv (.lit (.bool (!(((x.key 0) == (k 0)) && (((x.key 1) == (k 1)) && (((x.key 2) == (k 2)) && (((x.key 3) == (k 3)) && (((x.key 4) == (k 4)) && (((x.key 5) == (k 5)) && (((x.key 6) == (k 6)) && (((x.key 7) == (k 7)) && true)))))))))))) ?_
         refine rvc_nil ?_
         refine Awp.cond (b := (!(((x.key 0) == (k 0)) && (((x.key 1) == (k 1)) && (((x.key 2) == (k 2)) && (((x.key 3) == (k 3)) && (((x.key 4) == (k 4)) && (((x.key 5) == (k 5)) && (((x.key 6) == (k 6)) && (((x.key 7) == (k 7)) && true)))))))))) rfl (fun h23 => ?_) (fun h23 => ?_)
         ·
          replace hR := of_true h23 hR
          refine Awp.regionP C ?_
          refine rvP C (.sl 56 0 ((out ++ [(Seen.mk k (bif (decide (ver < (rpFloor l k))) then (rpFloor l k) else ver))]).length) 9 false) ?_
          refine rvP C (.agg [.pv (.lit (.int .u8 (x.key 0))), .pv (.lit (.int .u8 (x.key 1))), .pv (.lit (.int .u8 (x.key 2))), .pv (.lit (.int .u8 (x.key 3))), .pv (.lit (.int .u8 (x.key 4))), .pv (.lit (.int .u8 (x.key 5))), .pv (.lit (.int .u8 (x.key 6))), .pv (.lit (.int .u8 (x.key 7))), .pv (.lit (.int .i64 x.ver))]) ?_
          refine rvc_un (rexec_buildSliceF C eSeen [x] rfl rfl rfl rfl rfl rfl rfl (by decide) rfl ?_)
          refine rvc_un (rexec_append C rfl rfl rfl rfl rfl rfl rfl rfl (fun _ h => by cases h) rfl (en := eSeen) (D0 := (out ++ [(Seen.mk k (bif (decide (ver < (rpFloor l k))) then (rpFloor l k) else ver))])) (D := [x]) rfl rfl rfl rfl (by have := eq_of_bne_false h1; have := of_decide_eq_false h3; have := of_decide_eq_false h4; have := of_decide_eq_true h18; first | omega | (simp <;> omega)) (by decide) (nn := ((out ++ [(Seen.mk k (bif (decide (ver < (rpFloor l k))) then (rpFloor l k) else ver))]) ++ [x]).length) (by simp) ?_)
          refine rvP C (.sl 64 0 (((out ++ [(Seen.mk k (bif (decide (ver < (rpFloor l k))) then (rpFloor l k) else ver))]) ++ [x]).length) 9 false) ?_
          refine rvc_nil ?_
          refine Awp.regionP C ?_
          refine rvP C (.pv (.lit (.int .i64 (IntKind.i64.wrap ((i : Int) + 1))))) ?_
          refine rvP C (.pv (.lit (.int .i64 (IntKind.i64.wrap ((i : Int) + 1))))) ?_
          refine rvc_nil ?_
          refine ⟨h19, (((out ++ [(Seen.mk k (bif (decide (ver < (rpFloor l k))) then (rpFloor l k) else ver))]) ++ [x]), true), ?_, ?_⟩
          · exact ⟨hR, (by first | omega | (simp <;> omega))⟩
          · exact ⟨fun b => bif b == 900 then 64 else (fun b => b) b, WeakerR.ofL (Ks := [4, 900]) hI ⟨⟨rfl, rfl⟩, ⟨rfl, rfl⟩, ⟨grow_to rfl rfl app_ne rfl rfl, grow_within rfl⟩, ⟨rfl, rfl⟩, ⟨rfl, rfl⟩, ⟨rfl, rfl⟩, ⟨lit_cast (wrap_i64 (by omega) (by omega)), rfl⟩, trivial⟩ (okH_grow (fun _ => rfl) rfl rfl (okH_cons rfl rfl rfl rfl (okH_nil))) rfl⟩
         ·
          replace hR := of_false h23 hR
          refine Awp.skip ?_
          refine Awp.regionP C ?_
          refine rvP C (.pv (.lit (.int .i64 (IntKind.i64.wrap ((i : Int) + 1))))) ?_
          refine rvP C (.pv (.lit (.int .i64 (IntKind.i64.wrap ((i : Int) + 1))))) ?_
          refine rvc_nil ?_
          refine ⟨h19, ((out ++ [(Seen.mk k (bif (decide (ver < (rpFloor l k))) then (rpFloor l k) else ver))]), true), ?_, ?_⟩
          · exact ⟨hR, (by first | omega | (simp <;> omega))⟩
          · exact ⟨fun b => bif b == 900 then 56 else (fun b => b) b, WeakerR.ofL (Ks := [4, 900]) hI ⟨⟨rfl, rfl⟩, ⟨rfl, rfl⟩, ⟨grow_to rfl rfl app_ne rfl rfl, grow_within rfl⟩, ⟨rfl, rfl⟩, ⟨rfl, rfl⟩, ⟨rfl, rfl⟩, ⟨lit_cast (wrap_i64 (by omega) (by omega)), rfl⟩, trivial⟩ (okH_grow (fun _ => rfl) rfl rfl (okH_cons rfl rfl rfl rfl (okH_nil))) rfl⟩
        ·
         replace hR := of_false h22 hR
         refine Awp.skip ?_
         refine Awp.consP C ?_
         refine rvP C (.ptr 12 0) ?_
         refine rvP C (.agg [.pv (.lit (.int .u8 (x.key 0))), .pv (.lit (.int .u8 (x.key 1))), .pv (.lit (.int .u8 (x.key 2))), .pv (.lit (.int .u8 (x.key 3))), .pv (.lit (.int .u8 (x.key 4))), .pv (.lit (.int .u8 (x.key 5))), .pv (.lit (.int .u8 (x.key 6))), .pv (.lit (.int .u8 (x.key 7)))]) ?_
         refine rvP C (.agg [.pv (.lit (.int .u8 (k 0))), .pv (.lit (.int .u8 (k 1))), .pv (.lit (.int .u8 (k 2))), .pv (.lit (.int .u8 (k 3))), .pv (.lit (.int .u8 (k 4))), .pv (.lit (.int .u8 (k 5))), .pv (.lit (.int .u8 (k 6))), .pv (.lit (.int .u8 (k 7)))]) ?_
         refine rvP C (.pv (.lit (.bool (!(((x.key 0) == (k 0)) && (((x.key 1) == (k 1)) && (((x.key 2) == (k 2)) && (((x.key 3) == (k 3)) && (((x.key 4) == (k 4)) && (((x.key 5) == (k 5)) && (((x.key 6) == (k 6)) && (((x.key 7) == (k 7)) && true)))))))))))) ?_
         refine rvc_nil ?_
         refine Awp.cond (b := (!(((x.key 0) == (k 0)) && (((x.key 1) == (k 1)) && (((x.key 2) == (k 2)) && (((x.key 3) == (k 3)) && (((x.key 4) == (k 4)) && (((x.key 5) == (k 5)) && (((x.key 6) == (k 6)) && (((x.key 7) == (k 7)) && true)))))))))) rfl (fun h24 => ?_) (fun h24 => ?_)
         ·
          replace hR := of_true h24 hR
          refine Awp.regionP C ?_
          refine rvP C (.sl 900 0 out.length 9 false) ?_
          refine rvP C (.agg [.pv (.lit (.int .u8 (x.key 0))), .pv (.lit (.int .u8 (x.key 1))), .pv (.lit (.int .u8 (x.key 2))), .pv (.lit (.int .u8 (x.key 3))), .pv (.lit (.int .u8 (x.key 4))), .pv (.lit (.int .u8 (x.key 5))), .pv (.lit (.int .u8 (x.key 6))), .pv (.lit (.int .u8 (x.key 7))), .pv (.lit (.int .i64 x.ver))]) ?_
          refine rvc_un (rexec_buildSliceF C eSeen [x] rfl rfl rfl rfl rfl rfl rfl (by decide) rfl ?_)
          refine rvc_un (rexec_append C rfl rfl rfl rfl rfl rfl rfl rfl (fun _ h => by cases h) rfl (en := eSeen) (D0 := out) (D := [x]) rfl rfl rfl rfl (by have := eq_of_bne_false h1; have := of_decide_eq_false h3; have := of_decide_eq_false h4; have := of_decide_eq_true h18; first | omega | (simp <;> omega)) (by decide) (nn := (out ++ [x]).length) (by simp) ?_)
          refine rvP C (.sl 64 0 ((out ++ [x]).length) 9 false) ?_
          refine rvc_nil ?_
          refine Awp.regionP C ?_
          refine rvP C (.pv (.lit (.int .i64 (IntKind.i64.wrap ((i : Int) + 1))))) ?_
          refine rvP C (.pv (.lit (.int .i64 (IntKind.i64.wrap ((i : Int) + 1))))) ?_
          refine rvc_nil ?_
          refine ⟨h19, ((out ++ [x]), put), ?_, ?_⟩
          · exact ⟨hR, (by first | omega | (simp <;> omega))⟩
          · exact ⟨fun b => bif b == 900 then 64 else (fun b => b) b, WeakerR.ofL (Ks := [4, 900]) hI ⟨⟨rfl, rfl⟩, ⟨rfl, rfl⟩, ⟨grow_to rfl rfl app_ne rfl rfl, grow_within rfl⟩, ⟨rfl, rfl⟩, ⟨rfl, rfl⟩, ⟨rfl, rfl⟩, ⟨lit_cast (wrap_i64 (by omega) (by omega)), rfl⟩, trivial⟩ (okH_grow (fun _ => rfl) rfl rfl (okH_cons rfl rfl rfl rfl (okH_nil))) rfl⟩
         ·
          replace hR := of_false h24 hR
          refine Awp.skip ?_
          refine Awp.regionP C ?_
          refine rvP C (.pv (.lit (.int .i64 (IntKind.i64.wrap ((i : Int) + 1))))) ?_
          refine rvP C (.pv (.lit (.int .i64 (IntKind.i64.wrap ((i : Int) + 1))))) ?_
          refine rvc_nil ?_
          refine ⟨h19, (out, put), ?_, ?_⟩
          · exact ⟨hR, (by first | omega | (simp <;> omega))⟩
          · exact ⟨fun b => b, WeakerR.ofL (Ks := [4, 900]) hI ⟨⟨rfl, rfl⟩, ⟨rfl, rfl⟩, ⟨grow_to rfl rfl h6 rfl rfl, grow_within rfl⟩, ⟨rfl, rfl⟩, ⟨rfl, rfl⟩, ⟨rfl, rfl⟩, ⟨lit_cast (wrap_i64 (by omega) (by omega)), rfl⟩, trivial⟩ (okH_grow (fun _ => rfl) rfl rfl (okH_cons rfl rfl rfl rfl (okH_nil))) rfl⟩
       ·
        replace hR := of_false h21 hR
        refine rvS ?_
        refine rvS ?_
        refine rvS ?_
        refine rvS ?_
        refine rvS ?_
        refine rvP C (.pv (.lit (.bool false))) ?_
        refine rvc_nil ?_
        refine Awp.condF (b := false) rfl rfl ?_
        refine Awp.skip ?_
        refine Awp.consP C ?_
        refine rvP C (.ptr 12 0) ?_
        refine rvP C (.agg [.pv (.lit (.int .u8 (x.key 0))), .pv (.lit (.int .u8 (x.key 1))), .pv (.lit (.int .u8 (x.key 2))), .pv (.lit (.int .u8 (x.key 3))), .pv (.lit (.int .u8 (x.key 4))), .pv (.lit (.int .u8 (x.key 5))), .pv (.lit (.int .u8 (x.key 6))), .pv (.lit (.int .u8 (x.key 7)))]) ?_
        refine rvP C (.agg [.pv (.lit (.int .u8 (k 0))), .pv (.lit (.int .u8 (k 1))), .pv (.lit (.int .u8 (k 2))), .pv (.lit (.int .u8 (k 3))), .pv (.lit (.int .u8 (k 4))), .pv (.lit (.int .u8 (k 5))), .pv (.lit (.int .u8 (k 6))), .pv (.lit (.int .u8 (k 7)))]) ?_
        refine rvP C (.pv (.lit (.bool (!(((x.key 0) == (k 0)) && (((x.key 1) == (k 1)) && (((x.key 2) == (k 2)) && (((x.key 3) == (k 3)) && (((x.key 4) == (k 4)) && (((x.key 5) == (k 5)) && (((x.key 6) == (k 6)) && (((x.key 7) == (k 7)) && true)))))))))))) ?_
        refine rvc_nil ?_
        refine Awp.cond (b := (!(((x.key 0) == (k 0)) && (((x.key 1) == (k 1)) && (((x.key 2) == (k 2)) && (((x.key 3) == (k 3)) && (((x.key 4) == (k 4)) && (((x.key 5) == (k 5)) && (((x.key 6) == (k 6)) && (((x.key 7) == (k 7)) && true)))))))))) rfl (fun h25 => ?_) (fun h25 => ?_)
        ·
         replace hR := of_true h25 hR
         refine Awp.regionP C ?_
         refine rvP C (.sl 900 0 out.length 9 false) ?_
         refine rvP C (.agg [.pv (.lit (.int .u8 (x.key 0))), .pv (.lit (.int .u8 (x.key 1))), .pv (.lit (.int .u8 (x.key 2))), .pv (.lit (.int .u8 (x.key 3))), .pv (.lit (.int .u8 (x.key 4))), .pv (.lit (.int .u8 (x.key 5))), .pv (.lit (.int .u8 (x.key 6))), .pv (.lit (.int .u8 (x.key 7))), .pv (.lit (.int .i64 x.ver))]) ?_
         refine rvc_un (rexec_buildSliceF C eSeen [x] rfl rfl rfl rfl rfl rfl rfl (by decide) rfl ?_)
         refine rvc_un (rexec_append C rfl rfl rfl rfl rfl rfl rfl rfl (fun _ h => by cases h) rfl (en := eSeen) (D0 := out) (D := [x]) rfl rfl rfl rfl (by have := eq_of_bne_false h1; have := of_decide_eq_false h3; have := of_decide_eq_false h4; have := of_decide_eq_true h18; first | omega | (simp <;> omega)) (by decide) (nn := (out ++ [x]).length) (by simp) ?_)
         refine rvP C (.sl 64 0 ((out ++ [x]).length) 9 false) ?_
         refine rvc_nil ?_
         refine Awp.regionP C ?_
         refine rvP C (.pv (.lit (.int .i64 (IntKind.i64.wrap ((i : Int) + 1))))) ?_
         refine rvP C (.pv (.lit (.int .i64 (IntKind.i64.wrap ((i : Int) + 1))))) ?_
         refine rvc_nil ?_
         refine ⟨h19, ((out ++ [x]), put), ?_, ?_⟩
         · exact ⟨hR, (by first | omega | (simp <;> omega))⟩
         · exact ⟨fun b => bif b == 900 then 64 else (fun b => b) b, WeakerR.ofL (Ks := [4, 900]) hI ⟨⟨rfl, rfl⟩, ⟨rfl, rfl⟩, ⟨grow_to rfl rfl app_ne rfl rfl, grow_within rfl⟩, ⟨rfl, rfl⟩, ⟨rfl, rfl⟩, ⟨rfl, rfl⟩, ⟨lit_cast (wrap_i64 (by omega) (by omega)), rfl⟩, trivial⟩ (okH_grow (fun _ => rfl) rfl rfl (okH_cons rfl rfl rfl rfl (okH_nil))) rfl⟩
        ·
         replace hR := of_false h25 hR
         refine Awp.skip ?_
         refine Awp.regionP C ?_
         refine rvP C (.pv (.lit (.int .i64 (IntKind.i64.wrap ((i : Int) + 1))))) ?_
         refine rvP C (.pv (.lit (.int .i64 (IntKind.i64.wrap ((i : Int) + 1))))) ?_
         refine rvc_nil ?_
         refine ⟨h19, (out, put), ?_, ?_⟩
         · exact ⟨hR, (by first | omega | (simp <;> omega))⟩
         · exact ⟨fun b => b, WeakerR.ofL (Ks := [4, 900]) hI ⟨⟨rfl, rfl⟩, ⟨rfl, rfl⟩, ⟨grow_to rfl rfl h6 rfl rfl, grow_within rfl⟩, ⟨rfl, rfl⟩, ⟨rfl, rfl⟩, ⟨rfl, rfl⟩, ⟨lit_cast (wrap_i64 (by omega) (by omega)), rfl⟩, trivial⟩ (okH_grow (fun _ => rfl) rfl rfl (okH_cons rfl rfl rfl rfl (okH_nil))) rfl⟩
      ·
       have h19 : ¬ i < l.D.length := by have := of_decide_eq_false h18; omega
       rw [drop_end h19] at hR
       refine Awp.exit ?_
       refine Awp.seq ?_
       refine Awp.consP C ?_
       refine rvP C (.pv (.lit (.bool put))) ?_
       refine rvP C (.pv (.lit (.bool (!put)))) ?_
       refine rvc_nil ?_
       refine Awp.cond (b := (!put)) rfl (fun h26 => ?_) (fun h26 => ?_)
       ·
        replace hR := of_true h26 hR
        refine Awp.regionP C ?_
        refine rvP C (.sl 900 0 out.length 9 false) ?_
        refine rvP C (.agg [.pv (.lit (.int .u8 (k 0))), .pv (.lit (.int .u8 (k 1))), .pv (.lit (.int .u8 (k 2))), .pv (.lit (.int .u8 (k 3))), .pv (.lit (.int .u8 (k 4))), .pv (.lit (.int .u8 (k 5))), .pv (.lit (.int .u8 (k 6))), .pv (.lit (.int .u8 (k 7)))]) ?_
        refine rvP C (.pv (.lit (.int .i64 (bif (decide (ver < (rpFloor l k))) then (rpFloor l k) else ver)))) ?_
        refine rvP C (.agg [.pv (.lit (.int .u8 (k 0))), .pv (.lit (.int .u8 (k 1))), .pv (.lit (.int .u8 (k 2))), .pv (.lit (.int .u8 (k 3))), .pv (.lit (.int .u8 (k 4))), .pv (.lit (.int .u8 (k 5))), .pv (.lit (.int .u8 (k 6))), .pv (.lit (.int .u8 (k 7))), .pv (.lit (.int .i64 (bif (decide (ver < (rpFloor l k))) then (rpFloor l k) else ver)))]) ?_
        refine rvc_un (rexec_buildSliceF C eSeen [(Seen.mk k (bif (decide (ver < (rpFloor l k))) then (rpFloor l k) else ver))] rfl rfl rfl rfl rfl rfl rfl (by decide) rfl ?_)
        refine rvc_un (rexec_append C rfl rfl rfl rfl rfl rfl rfl rfl (fun _ h => by cases h) rfl (en := eSeen) (D0 := out) (D := [(Seen.mk k (bif (decide (ver < (rpFloor l k))) then (rpFloor l k) else ver))]) rfl rfl rfl rfl (by have := eq_of_bne_false h1; have := of_decide_eq_false h3; have := of_decide_eq_false h4; have := of_decide_eq_false h18; first | omega | (simp <;> omega)) (by decide) (nn := (out ++ [(Seen.mk k (bif (decide (ver < (rpFloor l k))) then (rpFloor l k) else ver))]).length) (by simp) ?_)
        refine rvP C (.sl 73 0 ((out ++ [(Seen.mk k (bif (decide (ver < (rpFloor l k))) then (rpFloor l k) else ver))]).length) 9 false) ?_
        refine rvc_nil ?_
        refine Awp.seq ?_
        refine Awp.consP C ?_
        refine rvP C (.sl 73 0 ((out ++ [(Seen.mk k (bif (decide (ver < (rpFloor l k))) then (rpFloor l k) else ver))]).length) 9 false) ?_
        refine rvP C (.pv (.lit (.int .i64 (((out ++ [(Seen.mk k (bif (decide (ver < (rpFloor l k))) then (rpFloor l k) else ver))]).length) : Int)))) ?_
        refine rvP C (.pv (.lit (.bool (decide ((((out ++ [(Seen.mk k (bif (decide (ver < (rpFloor l k))) then (rpFloor l k) else ver))]).length) : Int) > 6))))) ?_
        refine rvc_nil ?_
        refine Awp.cond (b := (decide ((((out ++ [(Seen.mk k (bif (decide (ver < (rpFloor l k))) then (rpFloor l k) else ver))]).length) : Int) > 6))) rfl (fun h27 => ?_) (fun h27 => ?_)
        ·
         replace hR := of_true h27 hR
         refine Awp.consP C ?_
         refine rvP C (sS (some true) eSeen []) ?_
         refine rvP C (.pv (.lit (.int .i64 7))) ?_
         refine rvc_nil ?_
         refine Awp.ret ?_
         subst hR
         exact ⟨.inl rfl, rfl⟩
        ·
         replace hR := of_false h27 hR
         refine Awp.skip ?_
         refine Awp.consP C ?_
         refine rvP C (.sl 73 0 ((out ++ [(Seen.mk k (bif (decide (ver < (rpFloor l k))) then (rpFloor l k) else ver))]).length) 9 false) ?_
         refine rvP C (.sl 73 0 ((out ++ [(Seen.mk k (bif (decide (ver < (rpFloor l k))) then (rpFloor l k) else ver))]).length) 9 false) ?_
         refine rvP C (.pv (.lit (.int .i64 0))) ?_
         refine rvc_nil ?_
         refine Awp.freezeW 73 (encL eSeen (out ++ [(Seen.mk k (bif (decide (ver < (rpFloor l k))) then (rpFloor l k) else ver))])) ?_ [(6, sS (some false) eSeen (out ++ [(Seen.mk k (bif (decide (ver < (rpFloor l k))) then (rpFloor l k) else ver))])), (7, .pv (.lit (.int .i64 0)))] [(4, .cells [.pv (.lit (.int .u8 (k 0))), .pv (.lit (.int .u8 (k 1))), .pv (.lit (.int .u8 (k 2))), .pv (.lit (.int .u8 (k 3))), .pv (.lit (.int .u8 (k 4))), .pv (.lit (.int .u8 (k 5))), .pv (.lit (.int .u8 (k 6))), .pv (.lit (.int .u8 (k 7)))])] ?_ ?_ ?_
         · rfl
         · exact ⟨⟨_, rfl, .inl (.inr ⟨_, _, _, rfl, rfl⟩)⟩, ⟨_, rfl, .inl (.inl rfl)⟩, trivial⟩
         · exact ⟨⟨(by show (4 : Nat) ≠ 73; decide), .inl rfl⟩, trivial⟩
         refine Awp.ret ?_
         subst hR
         exact ⟨.inl rfl, rfl⟩
       ·
        replace hR := of_false h26 hR
        refine Awp.skip ?_
        refine Awp.seq ?_
        refine Awp.consP C ?_
        refine rvP C (.sl 900 0 out.length 9 false) ?_
        refine rvP C (.pv (.lit (.int .i64 (out.length : Int)))) ?_
        refine rvP C (.pv (.lit (.bool (decide ((out.length : Int) > 6))))) ?_
        refine rvc_nil ?_
        refine Awp.cond (b := (decide ((out.length : Int) > 6))) rfl (fun h28 => ?_) (fun h28 => ?_)
        ·
         replace hR := of_true h28 hR
         refine Awp.consP C ?_
         refine rvP C (sS (some true) eSeen []) ?_
         refine rvP C (.pv (.lit (.int .i64 7))) ?_
         refine rvc_nil ?_
         refine Awp.ret ?_
         subst hR
         exact ⟨.inl rfl, rfl⟩
        ·
         replace hR := of_false h28 hR
         refine Awp.skip ?_
         refine Awp.consP C ?_
         refine rvP C (.sl 900 0 out.length 9 false) ?_
         refine rvP C (.sl 900 0 out.length 9 false) ?_
         refine rvP C (.pv (.lit (.int .i64 0))) ?_
         refine rvc_nil ?_
         refine Awp.freezeW 900 (encL eSeen out) ?_ [(6, sS (some out.isEmpty) eSeen out), (7, .pv (.lit (.int .i64 0)))] [(4, .cells [.pv (.lit (.int .u8 (k 0))), .pv (.lit (.int .u8 (k 1))), .pv (.lit (.int .u8 (k 2))), .pv (.lit (.int .u8 (k 3))), .pv (.lit (.int .u8 (k 4))), .pv (.lit (.int .u8 (k 5))), .pv (.lit (.int .u8 (k 6))), .pv (.lit (.int .u8 (k 7)))])] ?_ ?_ ?_
         · rfl
         · exact ⟨⟨_, rfl, .inl (.inr ⟨_, _, _, rfl, by rw [ne_isEmpty h6]; rfl⟩)⟩, ⟨_, rfl, .inl (.inl rfl)⟩, trivial⟩
         · exact ⟨⟨(by show (4 : Nat) ≠ 900; decide), .inl rfl⟩, trivial⟩
         refine Awp.ret ?_
         subst hR
         exact ⟨.inl rfl, rfl⟩
theorem sOk_rd {x y : Seen} (h : rd x = rd y) : sOk x = sOk y := by
  have h2 : x.ver = y.ver := congrArg Prod.snd h
  unfold sOk
  rw [sOk_congr h, h2]
theorem rt_rd : ∀ {a b : List Seen} (o : Option (List Int)), a.map rd = b.map rd → rt o a = rt o b
  | [], [], _, _ => rfl
  | [], _ :: _, _, h => by simp at h
  | _ :: _, [], _, h => by simp at h
  | x :: xs, y :: ys, o, h => by
    simp only [List.map_cons, List.cons.injEq] at h
    have h1 : kL x.key = kL y.key := congrArg Prod.fst h.1
    cases o with
    | none => rw [rt_c0, rt_c0, sOk_rd h.1, h1, rt_rd _ h.2]
    | some q => rw [rt_c1, rt_c1, sOk_rd h.1, h1, rt_rd _ h.2]
theorem len_rd {a b : List Seen} (h : a.map rd = b.map rd) : a.length = b.length := by
  have := congrArg List.length h
  simpa using this
theorem pRight_rd {X Y : Sl Seen} (hX : KB X.D) (hY : KB Y.D) (hn : X.D.length ≤ 1000000) (h : X.D.map rd = Y.D.map rd) : pRight X = pRight Y := by
  rw [pRight_eq hX hn, pRight_eq hY (by rw [← len_rd h]; exact hn), len_rd h, rt_rd none h]
/-- What is handed back, if it may be. -/
def chk (X : Sl Seen) : Sl Seen × Int := bif (pRight X) != 0 then (Sl.mk true [], pRight X) else (X, 0)
def Good (r : Sl Seen × Int) : Prop := KB r.1.D ∧ (r.1.nil = true → r.1.D = []) ∧ r.1.D.length ≤ 6
theorem good_nil (e : Int) : Good (Sl.mk true [], e) := ⟨(fun _ h => nomatch h), fun _ => rfl, Nat.zero_le _⟩
theorem chk_good {X : Sl Seen} (hX : KB X.D) (hn : X.nil = true → X.D = []) (hl : X.D.length ≤ 1000000) : Good (chk X) := by
  unfold chk
  cases e : (pRight X != 0)
  · have e0 : pRight X = 0 := by simpa using e
    exact ⟨hX, hn, ((pRight_zero hX hl).1 e0).1⟩
  · exact good_nil _
/-- The list that See makes. -/
def seeX (l : Sl Seen) (k : Nat → Int) (v : Int) : Sl Seen :=
  bif l.nil then (bif v == 0 then Sl.mk true [] else Sl.mk false [Seen.mk k v])
  else bif (place l k).2 then Sl.mk false (l.D.set ((place l k).1).toNat (Seen.mk (ofL [(l.D[((place l k).1).toNat]!.key 0), (l.D[((place l k).1).toNat]!.key 1), (l.D[((place l k).1).toNat]!.key 2), (l.D[((place l k).1).toNat]!.key 3), (l.D[((place l k).1).toNat]!.key 4), (l.D[((place l k).1).toNat]!.key 5), (l.D[((place l k).1).toNat]!.key 6), (l.D[((place l k).1).toNat]!.key 7)]) (bif (decide ((l.D[((place l k).1).toNat]!.ver) < v)) then v else (l.D[((place l k).1).toNat]!.ver))))
  else bif v == 0 then Sl.mk false l.D else Sl.mk false (insertL l.D ((place l k).1).toNat [Seen.mk k v])
def badKV (k : Nat → Int) (v : Int) : Bool := (shRight k != 0) || (decide (v < 0) || decide (v > 1099511627776))
theorem pSee_eq (l : Sl Seen) (k : Nat → Int) (v : Int) : pSee l k v = bif (pRight l) != 0 then (Sl.mk true [], pRight l) else bif badKV k v then (Sl.mk true [], 100) else chk (seeX l k v) := by
  unfold pSee badKV
  cases (pRight l != 0)
  · cases (shRight k != 0)
    · cases decide (v < 0)
      · cases decide (v > 1099511627776)
        · unfold seeX
          cases l.nil
          · cases (place l k).2
            · cases (v == 0) <;> rfl
            · rfl
          · cases (v == 0) <;> rfl
        · rfl
      · rfl
    · rfl
  · rfl
theorem seeX_ok {l : Sl Seen} {k : Nat → Int} (v : Int) (hl : KB l.D) (hk : KeyB k) (hl1 : l.D.length ≤ 1000) : KB (seeX l k v).D ∧ ((seeX l k v).nil = true → (seeX l k v).D = []) ∧ (seeX l k v).D.length ≤ 1001 := by
  have h6 : l.D.length ≤ 1000000 := by omega
  unfold seeX
  cases l.nil
  · rw [cond_false]
    cases e : (place l k).2
    · rw [cond_false]
      cases (v == 0)
      · exact ⟨KB_ins hl hk, (fun h => nomatch h), by show (insertL _ _ _).length ≤ _; rw [insertL_len (place_toNat h6)]; simp; omega⟩
      · exact ⟨hl, (fun h => nomatch h), by show l.D.length ≤ _; omega⟩
    · have := place_lt h6 e
      exact ⟨KB_setk hl (K8 (KB.at hl (by omega))), (fun h => nomatch h), by show (l.D.set _ _).length ≤ _; rw [List.length_set]; omega⟩
  · rw [cond_true]
    cases (v == 0)
    · exact ⟨KB_one hk, (fun h => nomatch h), by show ([_] : List Seen).length ≤ _; simp⟩
    · exact ⟨KB_nil, (fun _ => rfl), Nat.zero_le _⟩
theorem pSee_good {l : Sl Seen} {k : Nat → Int} {v : Int} (hl : KB l.D) (hk : KeyB k) (hl1 : l.D.length ≤ 1000) : Good (pSee l k v) := by
  rw [pSee_eq]
  cases (pRight l != 0)
  · cases badKV k v
    · obtain ⟨h1, h2, h3⟩ := seeX_ok v hl hk hl1
      exact chk_good h1 h2 (by omega)
    · exact good_nil _
  · exact good_nil _
theorem pSee_ok {l : Sl Seen} {k : Nat → Int} {v : Int} (hl : KB l.D) (hk : KeyB k) (_hn : l.nil = true → l.D = []) (hl1 : l.D.length ≤ 1000) : KB (pSee l k v).1.D ∧ ((pSee l k v).1.nil = true → (pSee l k v).1.D = []) ∧ (pSee l k v).1.D.length ≤ 1000 := by
  obtain ⟨h1, h2, h3⟩ := pSee_good (v := v) hl hk hl1
  exact ⟨h1, h2, by omega⟩
/-- What it comes to. -/
def seeL (k : Nat → Int) (v : Int) (l : List Seen) : List Seen := if v = 0 then l else insS k v l
theorem seeX_rd {l : Sl Seen} {k : Nat → Int} {v : Int} (hl : KB l.D) (hk : KeyB k) (hn : l.nil = true → l.D = []) (h6 : l.D.length ≤ 1000000) (hr : rt none l.D = true) : (seeX l k v).D.map rd = (seeL k v l.D).map rd := by
  unfold seeX seeL
  cases en : l.nil
  · rw [cond_false]
    obtain ⟨A, B, e, hp, hA, hB⟩ := place_split h6 hl hk hr
    have hpn : ((place l k).1).toNat = A.length := by omega
    rcases hB with ⟨y, ys, rfl, hy, h2⟩ | ⟨h2, hB⟩
    · rw [h2, cond_true, hpn]
      have hget : l.D[A.length]! = y := by rw [e]; simp
      rw [hget]
      have hset : ∀ Y : Seen, l.D.set A.length Y = A ++ Y :: ys := fun Y => by
        rw [e, List.set_append_right _ _ (Nat.le_refl _), Nat.sub_self]; rfl
      dsimp only
      rw [hset, List.map_append, List.map_cons]
      have hY : rd (Seen.mk (ofL [y.key 0, y.key 1, y.key 2, y.key 3, y.key 4, y.key 5, y.key 6, y.key 7]) (bif decide (y.ver < v) then v else y.ver)) = (kL y.key, max y.ver v) := by
        show (kL y.key, (bif decide (y.ver < v) then v else y.ver)) = _
        congr 1
        cases ed : decide (y.ver < v)
        · have := of_decide_eq_false ed
          rw [cond_false]; omega
        · have := of_decide_eq_true ed
          rw [cond_true]; omega
      rw [hY]
      by_cases hv0 : v = 0
      · rw [if_pos hv0, e, List.map_append, List.map_cons]
        have hvy : 1 ≤ y.ver := (ver_ok (rt_mem hr y (by rw [e]; simp))).1
        congr 2
        show (kL y.key, max y.ver v) = (kL y.key, y.ver)
        congr 1; omega
      · rw [if_neg hv0, e, insS_split hA]
        have : insS k v (y :: ys) = Seen.mk y.key (max y.ver v) :: ys := by
          rw [insS, if_neg (by rw [hy, ll_irrefl]; decide), if_pos hy]
        rw [this, List.map_append, List.map_cons]; rfl
    · rw [h2, cond_false]
      by_cases hv0 : v = 0
      · rw [if_pos hv0, hv0]; rfl
      · rw [if_neg hv0, show (v == 0) = false by simpa using hv0, cond_false, hpn]
        dsimp only
        rw [e, insS_split hA]
        have : insS k v B = Seen.mk k v :: B := by
          cases B with
          | nil => rfl
          | cons y ys =>
            have h := hB y (by simp)
            rw [insS, if_neg (by rw [ll_asym h]; decide), if_neg (fun q => ll_ne h q.symm)]
        rw [this]
        unfold insertL
        rw [List.take_left, List.drop_left, List.append_assoc]; rfl
  · rw [cond_true, hn en]
    by_cases hv0 : v = 0
    · rw [if_pos hv0, hv0]; rfl
    · rw [if_neg hv0, show (v == 0) = false by simpa using hv0, cond_false]; rfl
theorem badKV_false {k : Nat → Int} {v : Int} (h : badKV k v = false) : shRight k = 0 ∧ 0 ≤ v ∧ v ≤ 1099511627776 := by
  unfold badKV at h
  simp only [Bool.or_eq_false_iff, decide_eq_false_iff_not] at h
  have h1 : shRight k = 0 := by simpa using h.1
  omega
theorem seeL_rt {k : Nat → Int} {v : Int} {l : List Seen} (hb : badKV k v = false) (hr : rt none l = true) : rt none (seeL k v l) = true := by
  obtain ⟨h1, h2, h3⟩ := badKV_false hb
  unfold seeL
  split
  · exact hr
  · exact insS_rt (by omega) h3 h1 hr
theorem seeL_KB {k : Nat → Int} {v : Int} {l : List Seen} (hk : KeyB k) (hl : KB l) : KB (seeL k v l) := by
  unfold seeL
  split
  · exact hl
  · exact insS_KB hk hl
/-- What See answers. -/
structure SeeSpec (r : Sl Seen × Int) (l : Sl Seen) (k : Nat → Int) (v : Int) : Prop where
  bad : pRight l ≠ 0 → r = (Sl.mk true [], pRight l)
  arg : pRight l = 0 → badKV k v = true → r = (Sl.mk true [], 100)
  full : pRight l = 0 → badKV k v = false → 6 < (seeL k v l.D).length → r = (Sl.mk true [], 7)
  good : pRight l = 0 → badKV k v = false → (seeL k v l.D).length ≤ 6 → r.2 = 0 ∧ r.1.D.map rd = (seeL k v l.D).map rd
theorem pSee_spec {l : Sl Seen} {k : Nat → Int} (v : Int) (hl : KB l.D) (hk : KeyB k) (hn : l.nil = true → l.D = []) (hl1 : l.D.length ≤ 1000) : SeeSpec (pSee l k v) l k v := by
  have h6 : l.D.length ≤ 1000000 := by omega
  obtain ⟨x1, x2, x3⟩ := seeX_ok v hl hk hl1
  have key : pRight l = 0 → badKV k v = false → rt none l.D = true ∧ (seeX l k v).D.map rd = (seeL k v l.D).map rd ∧ pRight (seeX l k v) = bif decide ((seeL k v l.D).length ≤ 6) then 0 else 7 := fun h0 hb => by
    have hr := ((pRight_zero hl h6).1 h0).2
    have hrd := seeX_rd (v := v) hl hk hn h6 hr
    refine ⟨hr, hrd, ?_⟩
    rw [pRight_eq x1 (by omega), len_rd hrd, rt_rd none hrd, seeL_rt hb hr]; rfl
  refine ⟨fun h => ?_, fun h hb => ?_, fun h hb hlen => ?_, fun h hb hlen => ?_⟩
  · rw [pSee_eq, show (pRight l != 0) = true by simpa using h]; rfl
  · rw [pSee_eq, show (pRight l != 0) = false by simpa using h, hb]; rfl
  · rw [pSee_eq, show (pRight l != 0) = false by simpa using h, hb, cond_false, cond_false]
    unfold chk
    rw [(key h hb).2.2, decide_eq_false (by omega)]; rfl
  · rw [pSee_eq, show (pRight l != 0) = false by simpa using h, hb, cond_false, cond_false]
    unfold chk
    rw [(key h hb).2.2, decide_eq_true hlen]
    exact ⟨rfl, (key h hb).2.1⟩
/-- The document's list. -/
def refL (w : Int) (k : Nat → Int) : List Seen → Bool → List Seen
  | [], put => if put = true then [] else [Seen.mk k w]
  | x :: xs, put => (if put = false ∧ ll (kL x.key) (kL k) = false then [Seen.mk k w] else []) ++ ((if kL x.key = kL k then [] else [x]) ++ refL w k xs (put || !ll (kL x.key) (kL k)))
def fin7 (D : List Seen) (r : Sl Seen × Int) : Prop := (D.length ≤ 6 → r.2 = 0 ∧ r.1.D = D) ∧ (6 < D.length → r = (Sl.mk true [], 7))
theorem fin7_of {D : List Seen} {b : Bool} : fin7 D (bif decide ((D.length : Int) > 6) then (Sl.mk true [], 7) else (Sl.mk b D, 0)) := by
  refine ⟨fun h => ?_, fun h => ?_⟩
  · rw [decide_eq_false (by omega)]; exact ⟨rfl, rfl⟩
  · rw [decide_eq_true (by omega)]; rfl
theorem rpSee_l0_eq {l : Sl Seen} {k : Nat → Int} {ver w : Int} (hk : KeyB k) (hw : (bif decide (ver < rpFloor l k) then rpFloor l k else ver) = w) : ∀ (xs : List Seen) (i : Nat) (out : List Seen) (put : Bool), KB xs → fin7 (out ++ refL w k xs put) (rpSee_l0 l k ver xs i out put)
  | [], i, out, put, _ => by
    unfold rpSee_l0 refL
    rw [hw]
    cases put
    · rw [if_neg (by decide)]; exact fin7_of
    · rw [if_pos rfl, List.append_nil]; exact fin7_of
  | x :: xs, i, out, put, hx => by
    obtain ⟨hx1, hx2⟩ := hx.cons
    have ih := fun out put => rpSee_l0_eq hk hw xs (i + 1) out put hx2
    unfold rpSee_l0
    rw [eq8, rLess_eq hx1 hk, hw]
    unfold refL
    cases put
    · rw [show (!false) = true from rfl, cond_true]
      cases h1 : ll (kL x.key) (kL k)
      · rw [show (!false) = true from rfl, cond_true, if_pos ⟨rfl, rfl⟩]
        by_cases h2 : kL x.key = kL k
        · rw [decide_eq_true h2, if_pos h2]
          have := ih (out ++ [Seen.mk k w]) true
          rw [List.append_assoc] at this
          exact this
        · rw [decide_eq_false h2, if_neg h2]
          have := ih ((out ++ [Seen.mk k w]) ++ [x]) true
          rw [List.append_assoc, List.append_assoc] at this
          exact this
      · rw [show (!true) = false from rfl, cond_false, if_neg (fun q => nomatch q.2)]
        by_cases h2 : kL x.key = kL k
        · rw [decide_eq_true h2, if_pos h2]
          exact ih out false
        · rw [decide_eq_false h2, if_neg h2]
          have := ih (out ++ [x]) false
          rw [List.append_assoc] at this
          exact this
    · rw [show (!true) = false from rfl, cond_false, if_neg (fun q => nomatch q.1)]
      by_cases h2 : kL x.key = kL k
      · rw [decide_eq_true h2, if_pos h2]
        exact ih out true
      · rw [decide_eq_false h2, if_neg h2]
        have := ih (out ++ [x]) true
        rw [List.append_assoc] at this
        exact this
theorem refL_true {w : Int} {k : Nat → Int} : ∀ {xs : List Seen}, (∀ x ∈ xs, kL x.key ≠ kL k) → refL w k xs true = xs
  | [], _ => rfl
  | x :: xs, h => by
    unfold refL
    rw [if_neg (fun q => nomatch q.1), if_neg (h x (by simp))]
    show x :: refL w k xs true = _
    rw [refL_true fun y hy => h y (by simp [hy])]
theorem flr_zero {q : List Int} : ∀ {xs : List Seen}, rt none xs = true → flr q xs = 0 → ∀ x ∈ xs, kL x.key ≠ q
  | [], _, _, _, h => nomatch h
  | y :: ys, hr, h0, x, hx => by
    obtain ⟨h1, h2, _⟩ := rt_cons.1 hr
    rw [flr_cons] at h0
    by_cases e : kL y.key = q
    · rw [if_pos e] at h0
      have := ver_ok h1
      omega
    · rw [if_neg e] at h0
      rcases List.mem_cons.1 hx with rfl | hx
      · exact e
      · exact flr_zero h2 h0 x hx
theorem refL_eq {k : Nat → Int} {v w : Int} (hv : 0 ≤ v) : ∀ {xs : List Seen}, rt none xs = true → w = max v (flr (kL k) xs) → 1 ≤ w → (refL w k xs false).map rd = (seeL k v xs).map rd
  | [], _, hw, h1 => by
    have hwv : w = v := by
      rw [hw]; show max v 0 = v; omega
    unfold seeL
    rw [if_neg (by omega), hwv]; rfl
  | x :: xs, hr, hw, h1 => by
    obtain ⟨r1, r2, r3⟩ := rt_cons.1 hr
    rw [flr_cons] at hw
    unfold refL
    cases hl : ll (kL x.key) (kL k)
    · rw [if_pos ⟨rfl, rfl⟩]
      by_cases he : kL x.key = kL k
      · rw [if_pos he] at hw
        rw [if_pos he]
        show (Seen.mk k w :: refL w k xs true).map rd = _
        rw [refL_true fun y hy => by rw [← he]; exact fun q => ll_ne (r3 y hy) q.symm]
        have hxv := ver_ok r1
        unfold seeL
        by_cases hv0 : v = 0
        · rw [if_pos hv0, List.map_cons, List.map_cons]
          congr 1
          show (kL k, w) = (kL x.key, x.ver)
          rw [he, hw, hv0]
          congr 1; omega
        · rw [if_neg hv0, insS, if_neg (by rw [hl]; decide), if_pos he, List.map_cons, List.map_cons]
          congr 1
          show (kL k, w) = (kL x.key, max x.ver v)
          rw [he, hw]
          congr 1; omega
      · rw [if_neg he] at hw
        have hgt : ll (kL k) (kL x.key) = true := ll_tri hl he
        have h0 : flr (kL k) xs = 0 := flr_none fun y hy => ll_trans hgt (r3 y hy)
        rw [if_neg he]
        show (Seen.mk k w :: x :: refL w k xs true).map rd = _
        rw [refL_true fun y hy => fun q => ll_ne (ll_trans hgt (r3 y hy)) q.symm]
        have hwv : w = v := by rw [hw, h0]; omega
        unfold seeL
        rw [if_neg (by omega), insS, if_neg (by rw [hl]; decide), if_neg he, hwv]
    · have he : kL x.key ≠ kL k := ll_ne hl
      rw [if_neg he] at hw
      rw [if_neg (fun q => nomatch q.2), if_neg he]
      show (x :: refL w k xs false).map rd = _
      rw [List.map_cons, refL_eq hv r2 hw h1]
      unfold seeL
      by_cases hv0 : v = 0
      · rw [if_pos hv0, if_pos hv0]; rfl
      · rw [if_neg hv0, if_neg hv0, insS, if_pos hl]; rfl
theorem rpFloor_l0_eq (k : Nat → Int) : ∀ (xs : List Seen) (i : Nat), rpFloor_l0 k xs i = flr (kL k) xs
  | [], _ => rfl
  | x :: xs, i => by
    unfold rpFloor_l0
    rw [eq8, rpFloor_l0_eq k xs (i + 1), flr_cons]
    by_cases h : kL x.key = kL k
    · rw [decide_eq_true h, if_pos h]; rfl
    · rw [decide_eq_false h, if_neg h]; rfl
theorem rpFloor_eq {l : Sl Seen} {k : Nat → Int} (hl : KB l.D) (h6 : l.D.length ≤ 1000000) : rpFloor l k = if pRight l = 0 then flr (kL k) l.D else 0 := by
  unfold rpFloor
  rw [rpRight_eq hl h6, rpFloor_l0_eq]
  by_cases h : pRight l = 0
  · rw [if_pos h, h]; rfl
  · rw [if_neg h, show (pRight l != 0) = true by simpa using h]; rfl
theorem pFloor_eq {l : Sl Seen} {k : Nat → Int} (hl : KB l.D) (hk : KeyB k) (h6 : l.D.length ≤ 1000000) : pFloor l k = if pRight l = 0 then flr (kL k) l.D else 0 := by
  unfold pFloor
  by_cases h : pRight l = 0
  · have hr := ((pRight_zero hl h6).1 h).2
    obtain ⟨A, B, e, hp, hA, hB⟩ := place_split h6 hl hk hr
    rw [if_pos h, h]
    rcases hB with ⟨y, ys, rfl, hy, h2⟩ | ⟨h2, hB⟩
    · rw [h2, hp, Int.toNat_natCast]
      have hget : l.D[A.length]! = y := by rw [e]; simp
      rw [hget, e, flr_split hA, flr_cons, if_pos hy]; rfl
    · rw [h2, e, flr_split hA, flr_none hB]; rfl
  · rw [if_neg h, show (pRight l == 0) = false by simpa using h]
    cases (place l k).2 <;> rfl
theorem rpSee_spec {l : Sl Seen} {k : Nat → Int} (v : Int) (hl : KB l.D) (hk : KeyB k) (hl1 : l.D.length ≤ 1000) : SeeSpec (rpSee l k v) l k v := by
  have h6 : l.D.length ≤ 1000000 := by omega
  have e : rpSee l k v = bif (pRight l) != 0 then (Sl.mk true [], pRight l) else bif badKV k v then (Sl.mk true [], 100) else rpSee_l0 l k v l.D 0 [] ((bif (decide (v < (rpFloor l k))) then (rpFloor l k) else v) == 0) := by
    unfold rpSee badKV
    rw [rpRight_eq hl h6, rKey_eq hk, show (!(shRight k == 0)) = (shRight k != 0) from rfl]
    cases (pRight l != 0) <;> cases (shRight k != 0) <;> cases decide (v < 0) <;> cases decide (v > 1099511627776) <;> rfl
  have key : pRight l = 0 → badKV k v = false → ∃ D, D.map rd = (seeL k v l.D).map rd ∧ fin7 D (rpSee_l0 l k v l.D 0 [] ((bif (decide (v < (rpFloor l k))) then (rpFloor l k) else v) == 0)) := fun h0 hb => by
    have hr := ((pRight_zero hl h6).1 h0).2
    have hv := (badKV_false hb).2.1
    have hf : rpFloor l k = flr (kL k) l.D := by rw [rpFloor_eq hl h6, if_pos h0]
    have hnn := flr_nonneg (q := kL k) hr
    obtain ⟨w, hw⟩ : ∃ w, (bif decide (v < rpFloor l k) then rpFloor l k else v) = w := ⟨_, rfl⟩
    have hwm : w = max v (flr (kL k) l.D) := by
      rw [← hw, hf]
      cases ed : decide (v < flr (kL k) l.D)
      · have := of_decide_eq_false ed
        rw [cond_false]; omega
      · have := of_decide_eq_true ed
        rw [cond_true]; omega
    have hs := rpSee_l0_eq hk hw l.D 0 [] (w == 0) hl
    rw [hw]
    rw [List.nil_append] at hs
    refine ⟨_, ?_, hs⟩
    by_cases hw0 : w = 0
    · rw [show (w == 0) = true by simpa using hw0, refL_true (flr_zero hr (by omega))]
      unfold seeL
      rw [if_pos (by omega)]
    · rw [show (w == 0) = false by simpa using hw0]
      exact refL_eq hv hr hwm (by omega)
  rw [e]
  refine ⟨fun h => ?_, fun h hb => ?_, fun h hb hlen => ?_, fun h hb hlen => ?_⟩
  · rw [show (pRight l != 0) = true by simpa using h]; rfl
  · rw [show (pRight l != 0) = false by simpa using h, hb]; rfl
  · rw [show (pRight l != 0) = false by simpa using h, hb, cond_false, cond_false]
    obtain ⟨D, d1, d2, d3⟩ := key h hb
    exact d3 (by rw [len_rd d1]; exact hlen)
  · rw [show (pRight l != 0) = false by simpa using h, hb, cond_false, cond_false]
    obtain ⟨D, d1, d2, d3⟩ := key h hb
    obtain ⟨q1, q2⟩ := d2 (by rw [len_rd d1]; exact hlen)
    exact ⟨q1, by rw [q2]; exact d1⟩
theorem KeyB_congr {j k : Nat → Int} (h : kL j = kL k) (hj : KeyB j) : KeyB k := fun t ht => by
  have hx := hj t ht
  simp only [kL_def, List.cons.injEq, and_true] at h
  rcases (by omega : t = 0 ∨ t = 1 ∨ t = 2 ∨ t = 3 ∨ t = 4 ∨ t = 5 ∨ t = 6 ∨ t = 7) with rfl | rfl | rfl | rfl | rfl | rfl | rfl | rfl
  · rw [← h.1]; exact hx
  · rw [← h.2.1]; exact hx
  · rw [← h.2.2.1]; exact hx
  · rw [← h.2.2.2.1]; exact hx
  · rw [← h.2.2.2.2.1]; exact hx
  · rw [← h.2.2.2.2.2.1]; exact hx
  · rw [← h.2.2.2.2.2.2.1]; exact hx
  · rw [← h.2.2.2.2.2.2.2]; exact hx
theorem rpSee_ok {l : Sl Seen} {k : Nat → Int} {v : Int} (hl : KB l.D) (hk : KeyB k) (hl1 : l.D.length ≤ 1000) : KB (rpSee l k v).1.D ∧ (rpSee l k v).1.D.length ≤ 1000 := by
  have h6 : l.D.length ≤ 1000000 := by omega
  have hs := rpSee_spec v hl hk hl1
  have hnil : ∀ e : Int, KB (Sl.mk true [], e).1.D ∧ ((Sl.mk true [], e) : Sl Seen × Int).1.D.length ≤ 1000 := fun e => ⟨KB_nil, Nat.zero_le _⟩
  by_cases h0 : pRight l = 0
  · cases hb : badKV k v
    · rcases Nat.lt_or_ge 6 (seeL k v l.D).length with h7 | h7
      · rw [hs.full h0 hb h7]; exact hnil 7
      · obtain ⟨q1, q2⟩ := hs.good h0 hb h7
        refine ⟨fun x hx => ?_, by rw [len_rd q2]; omega⟩
        have hm : rd x ∈ (seeL k v l.D).map rd := by rw [← q2]; exact List.mem_map_of_mem hx
        obtain ⟨y, hy, hxy⟩ := List.mem_map.1 hm
        have hyk : KeyB y.key := seeL_KB hk hl y hy
        have hkl : kL y.key = kL x.key := congrArg Prod.fst hxy
        exact KeyB_congr hkl hyk
    · rw [hs.arg h0 hb]; exact hnil 100
  · rw [hs.bad h0]; exact hnil _
theorem SeeSpec.same {r r' : Sl Seen × Int} {l : Sl Seen} {k : Nat → Int} {v : Int} (h : SeeSpec r l k v) (h' : SeeSpec r' l k v) : r.2 = r'.2 ∧ r.1.D.map rd = r'.1.D.map rd := by
  by_cases hb : pRight l = 0
  · cases ha : badKV k v
    · rcases Nat.lt_or_ge 6 (seeL k v l.D).length with h7 | h7
      · rw [h.full hb ha h7, h'.full hb ha h7]; exact ⟨rfl, rfl⟩
      · obtain ⟨q1, q2⟩ := h.good hb ha h7
        obtain ⟨q3, q4⟩ := h'.good hb ha h7
        exact ⟨q1.trans q3.symm, q2.trans q4.symm⟩
    · rw [h.arg hb ha, h'.arg hb ha]; exact ⟨rfl, rfl⟩
  · rw [h.bad hb, h'.bad hb]; exact ⟨rfl, rfl⟩
def nameK (D : List Int) : (Nat → Int) :=
  (cpF D 8 (ofL [(0 : Int), 0, 0, 0, 0, 0, 0, 0]))
theorem nameK_calls (D : List Int) (hD : ∀ x ∈ D, 0 ≤ x ∧ x < 256) : PCalls Tryd.prog 32 [.pv (.lit (.string (strOf D)))] (.agg [.pv (.lit (.int .u8 ((nameK D) 0))), .pv (.lit (.int .u8 ((nameK D) 1))), .pv (.lit (.int .u8 ((nameK D) 2))), .pv (.lit (.int .u8 ((nameK D) 3))), .pv (.lit (.int .u8 ((nameK D) 4))), .pv (.lit (.int .u8 ((nameK D) 5))), .pv (.lit (.int .u8 ((nameK D) 6))), .pv (.lit (.int .u8 ((nameK D) 7)))]) := by
 generalize hR : nameK D = R
 refine PCalls.of_body tabOk Tryd.func32 rfl rfl rfl rfl rfl mixed fun E hP C hI => ?_
 refine Awp.consP C ?_
 refine rvc_un (rexec_prim C (δ := { v := .ptr 2 0, new := [(2, .cells [.pv (.lit (.int .u8 0)), .pv (.lit (.int .u8 0)), .pv (.lit (.int .u8 0)), .pv (.lit (.int .u8 0)), .pv (.lit (.int .u8 0)), .pv (.lit (.int .u8 0)), .pv (.lit (.int .u8 0)), .pv (.lit (.int .u8 0))])] }) rfl rfl rfl rfl trivial rfl ?_)
 refine rvc_nil ?_
 refine Awp.consP C ?_
 refine rvc_un (rexec_prim C (δ := { v := .ptr 3 0, new := [(3, .cells [.pv (.lit (.int .u8 0)), .pv (.lit (.int .u8 0)), .pv (.lit (.int .u8 0)), .pv (.lit (.int .u8 0)), .pv (.lit (.int .u8 0)), .pv (.lit (.int .u8 0)), .pv (.lit (.int .u8 0)), .pv (.lit (.int .u8 0))])] }) rfl rfl rfl rfl trivial rfl ?_)
 refine rvc_nil ?_
 refine Awp.consP C ?_
 refine rvc_un (rexec_prim C (δ := { v := .sl 3 0 8 1 true }) rfl rfl rfl rfl ⟨by decide, Nat.le_of_ble_eq_true rfl, .inl rfl⟩ rfl ?_)
 refine rvP C (.pv (.lit (.string (strOf D)))) ?_
 refine rvc_un (rexec_copyStr C rfl rfl rfl rfl rfl rfl rfl (f := (ofL [(0 : Int), 0, 0, 0, 0, 0, 0, 0])) (D := D) hD rfl rfl ?_)
 refine rvc_nil ?_
 refine Awp.consP C ?_
 refine rvP C (.agg [.pv (.lit (.int .u8 ((cpF D 8 (ofL [(0 : Int), 0, 0, 0, 0, 0, 0, 0])) 0))), .pv (.lit (.int .u8 ((cpF D 8 (ofL [(0 : Int), 0, 0, 0, 0, 0, 0, 0])) 1))), .pv (.lit (.int .u8 ((cpF D 8 (ofL [(0 : Int), 0, 0, 0, 0, 0, 0, 0])) 2))), .pv (.lit (.int .u8 ((cpF D 8 (ofL [(0 : Int), 0, 0, 0, 0, 0, 0, 0])) 3))), .pv (.lit (.int .u8 ((cpF D 8 (ofL [(0 : Int), 0, 0, 0, 0, 0, 0, 0])) 4))), .pv (.lit (.int .u8 ((cpF D 8 (ofL [(0 : Int), 0, 0, 0, 0, 0, 0, 0])) 5))), .pv (.lit (.int .u8 ((cpF D 8 (ofL [(0 : Int), 0, 0, 0, 0, 0, 0, 0])) 6))), .pv (.lit (.int .u8 ((cpF D 8 (ofL [(0 : Int), 0, 0, 0, 0, 0, 0, 0])) 7)))]) ?_
 refine rvc_un (rexec_prim C (δ := { v := .undef, wr := [(2, some (.cells [.pv (.lit (.int .u8 ((cpF D 8 (ofL [(0 : Int), 0, 0, 0, 0, 0, 0, 0])) 0))), .pv (.lit (.int .u8 ((cpF D 8 (ofL [(0 : Int), 0, 0, 0, 0, 0, 0, 0])) 1))), .pv (.lit (.int .u8 ((cpF D 8 (ofL [(0 : Int), 0, 0, 0, 0, 0, 0, 0])) 2))), .pv (.lit (.int .u8 ((cpF D 8 (ofL [(0 : Int), 0, 0, 0, 0, 0, 0, 0])) 3))), .pv (.lit (.int .u8 ((cpF D 8 (ofL [(0 : Int), 0, 0, 0, 0, 0, 0, 0])) 4))), .pv (.lit (.int .u8 ((cpF D 8 (ofL [(0 : Int), 0, 0, 0, 0, 0, 0, 0])) 5))), .pv (.lit (.int .u8 ((cpF D 8 (ofL [(0 : Int), 0, 0, 0, 0, 0, 0, 0])) 6))), .pv (.lit (.int .u8 ((cpF D 8 (ofL [(0 : Int), 0, 0, 0, 0, 0, 0, 0])) 7)))]))] }) rfl rfl rfl rfl trivial rfl ?_)
 refine rvc_nil ?_
 refine Awp.ret ?_
 subst hR
 exact ⟨.inl rfl, rfl⟩
def eqSeen_l0 (s2 : (Sl Seen)) : List Seen → Nat → Bool
  | [], _ => true
  | x :: xs, i => (bif (!((((x.key 0) == (s2.D[(i : Int).toNat]!.key 0)) && (((x.key 1) == (s2.D[(i : Int).toNat]!.key 1)) && (((x.key 2) == (s2.D[(i : Int).toNat]!.key 2)) && (((x.key 3) == (s2.D[(i : Int).toNat]!.key 3)) && (((x.key 4) == (s2.D[(i : Int).toNat]!.key 4)) && (((x.key 5) == (s2.D[(i : Int).toNat]!.key 5)) && (((x.key 6) == (s2.D[(i : Int).toNat]!.key 6)) && (((x.key 7) == (s2.D[(i : Int).toNat]!.key 7)) && true)))))))) && ((x.ver == (s2.D[(i : Int).toNat]!.ver)) && true))) then false else eqSeen_l0 s2 xs (i + 1) )
def eqSeen (s1 : (Sl Seen)) (s2 : (Sl Seen)) : Bool :=
  (bif ((s1.D.length : Int) != (s2.D.length : Int)) then false else eqSeen_l0 s2 s1.D 0 )
theorem eqSeen_calls (s1 : (Sl Seen)) (s2 : (Sl Seen)) (hl1 : s1.D.length ≤ 1000000) : PCalls Tryd.prog 18 [sS (some s1.nil) eSeen s1.D, sS (some s2.nil) eSeen s2.D] (.pv (.lit (.bool (eqSeen s1 s2)))) := by
 generalize hR : eqSeen s1 s2 = R
 refine PCalls.of_body tabOk Tryd.func18 rfl rfl rfl rfl rfl mixed fun E hP C hI => ?_
 refine Awp.consP C ?_
 refine rvP C (.pv (.lit (.bool false))) ?_
 refine rvc_nil ?_
 refine Awp.seq ?_
 refine Awp.consP C ?_
 refine rvP C (sS (some s1.nil) eSeen s1.D) ?_
 refine rvP C (.pv (.lit (.int .i64 (s1.D.length : Int)))) ?_
 refine rvP C (sS (some s2.nil) eSeen s2.D) ?_
 refine rvP C (.pv (.lit (.int .i64 (s2.D.length : Int)))) ?_
 refine rvP C (.pv (.lit (.bool ((s1.D.length : Int) != (s2.D.length : Int))))) ?_
 refine rvc_nil ?_
 refine Awp.cond (b := ((s1.D.length : Int) != (s2.D.length : Int))) rfl (fun h1 => ?_) (fun h1 => ?_)
 ·
  replace hR := of_true h1 hR
  refine Awp.consP C ?_
  refine rvP C (.pv (.lit (.bool false))) ?_
  refine rvc_nil ?_
  refine Awp.ret ?_
  subst hR
  exact ⟨.inl rfl, rfl⟩
 ·
  replace hR := of_false h1 hR
  refine Awp.skip ?_
  refine Awp.seq ?_
  refine Awp.consP C ?_
  refine rvP C (sS (some s1.nil) eSeen s1.D) ?_
  refine rvP C (.pv (.lit (.int .i64 (s1.D.length : Int)))) ?_
  refine rvP C (.pv (.lit (.int .i64 0))) ?_
  refine rvc_nil ?_
  refine Awp.block ?_
  refine Awp.forR (σ := Unit) (s1.D.length) (fun i _v => [(0, sS (some s1.nil) eSeen s1.D), (1, sS (some s2.nil) eSeen s2.D), (12, .pv (.lit (.int .i64 (s1.D.length : Int)))), (13, .pv (.lit (.int .i64 (i : Int))))]) (fun i _v => []) [] (fun i _v => eqSeen_l0 s2 (s1.D.drop i) i  = R) () ?_ ?_ (fun i _v h2 hR => ?_)
  · exact hR
  · exact ⟨fun b => b, WeakerR.ofL (Ks := []) hI ⟨⟨rfl, rfl⟩, ⟨rfl, rfl⟩, ⟨rfl, rfl⟩, ⟨rfl, rfl⟩, trivial⟩ (okH_nil) rfl⟩
  refine Awp.consP C ?_
  refine rvP C (.pv (.lit (.bool (decide ((i : Int) < (s1.D.length : Int)))))) ?_
  refine rvc_nil ?_
  refine Awp.seq ?_
  refine Awp.cond (b := (decide ((i : Int) < (s1.D.length : Int)))) rfl (fun h3 => ?_) (fun h3 => ?_)
  ·
   have h4 : i < s1.D.length := by have := of_decide_eq_true h3; omega
   obtain ⟨x, h5⟩ := getX h4
   rw [drop_at h5] at hR
   refine Awp.skip ?_
   refine Awp.seq ?_
   refine Awp.block ?_
   refine Awp.consP C ?_
   refine rvP C (.pv (.lit (.int .i64 (i : Int)))) ?_
   refine rvP C (.pv (.lit (.int .i64 (i : Int)))) ?_
   refine rvc_nil ?_
   refine Awp.consP C ?_
   refine rvP C (sS (some s1.nil) eSeen s1.D) ?_
   refine rvP C (.pv (.lit (.int .i64 (i : Int)))) ?_
   refine rvc_un (rexec_idxS C rfl rfl rfl rfl rfl rfl x (Int.natCast_nonneg _) h5 ?_)
   refine rvP C (.agg [.pv (.lit (.int .u8 (x.key 0))), .pv (.lit (.int .u8 (x.key 1))), .pv (.lit (.int .u8 (x.key 2))), .pv (.lit (.int .u8 (x.key 3))), .pv (.lit (.int .u8 (x.key 4))), .pv (.lit (.int .u8 (x.key 5))), .pv (.lit (.int .u8 (x.key 6))), .pv (.lit (.int .u8 (x.key 7))), .pv (.lit (.int .i64 x.ver))]) ?_
   refine rvP C (sS (some s2.nil) eSeen s2.D) ?_
   refine rvP C (.pv (.lit (.int .i64 (i : Int)))) ?_
   have h6 : s2.D[(i : Int).toNat]? = some s2.D[(i : Int).toNat]! := getE (by have := eq_of_bne_false h1; have := of_decide_eq_true h3; omega)
   refine rvc_un (rexec_idxS C rfl rfl rfl rfl rfl rfl (s2.D[(i : Int).toNat]!) (Int.natCast_nonneg _) h6 ?_)
   refine rvP C (.agg [.pv (.lit (.int .u8 (s2.D[(i : Int).toNat]!.key 0))), .pv (.lit (.int .u8 (s2.D[(i : Int).toNat]!.key 1))), .pv (.lit (.int .u8 (s2.D[(i : Int).toNat]!.key 2))), .pv (.lit (.int .u8 (s2.D[(i : Int).toNat]!.key 3))), .pv (.lit (.int .u8 (s2.D[(i : Int).toNat]!.key 4))), .pv (.lit (.int .u8 (s2.D[(i : Int).toNat]!.key 5))), .pv (.lit (.int .u8 (s2.D[(i : Int).toNat]!.key 6))), .pv (.lit (.int .u8 (s2.D[(i : Int).toNat]!.key 7))), .pv (.lit (.int .i64 (s2.D[(i : Int).toNat]!.ver)))]) ?_
   refine rvP C (.pv (.lit (.bool (!((((x.key 0) == (s2.D[(i : Int).toNat]!.key 0)) && (((x.key 1) == (s2.D[(i : Int).toNat]!.key 1)) && (((x.key 2) == (s2.D[(i : Int).toNat]!.key 2)) && (((x.key 3) == (s2.D[(i : Int).toNat]!.key 3)) && (((x.key 4) == (s2.D[(i : Int).toNat]!.key 4)) && (((x.key 5) == (s2.D[(i : Int).toNat]!.key 5)) && (((x.key 6) == (s2.D[(i : Int).toNat]!.key 6)) && (((x.key 7) == (s2.D[(i : Int).toNat]!.key 7)) && true)))))))) && ((x.ver == (s2.D[(i : Int).toNat]!.ver)) && true)))))) ?_
   refine rvc_nil ?_
   refine Awp.cond (b := (!((((x.key 0) == (s2.D[(i : Int).toNat]!.key 0)) && (((x.key 1) == (s2.D[(i : Int).toNat]!.key 1)) && (((x.key 2) == (s2.D[(i : Int).toNat]!.key 2)) && (((x.key 3) == (s2.D[(i : Int).toNat]!.key 3)) && (((x.key 4) == (s2.D[(i : Int).toNat]!.key 4)) && (((x.key 5) == (s2.D[(i : Int).toNat]!.key 5)) && (((x.key 6) == (s2.D[(i : Int).toNat]!.key 6)) && (((x.key 7) == (s2.D[(i : Int).toNat]!.key 7)) && true)))))))) && ((x.ver == (s2.D[(i : Int).toNat]!.ver)) && true)))) rfl (fun h7 => ?_) (fun h7 => ?_)
   ·
    replace hR := of_true h7 hR
    refine Awp.consP C ?_
    refine rvP C (.pv (.lit (.bool false))) ?_
    refine rvc_nil ?_
    refine Awp.ret ?_
    subst hR
    exact ⟨.inl rfl, rfl⟩
   ·
    replace hR := of_false h7 hR
    refine Awp.skip ?_
    refine Awp.regionP C ?_
    refine rvP C (.pv (.lit (.int .i64 (IntKind.i64.wrap ((i : Int) + 1))))) ?_
    refine rvP C (.pv (.lit (.int .i64 (IntKind.i64.wrap ((i : Int) + 1))))) ?_
    refine rvc_nil ?_
    refine ⟨h4, (), ?_, ?_⟩
    · exact hR
    · exact ⟨fun b => b, WeakerR.ofL (Ks := []) hI ⟨⟨rfl, rfl⟩, ⟨rfl, rfl⟩, ⟨rfl, rfl⟩, ⟨lit_cast (wrap_i64 (by omega) (by omega)), rfl⟩, trivial⟩ (okH_nil) rfl⟩
  ·
   have h4 : ¬ i < s1.D.length := by have := of_decide_eq_false h3; omega
   rw [drop_end h4] at hR
   refine Awp.exit ?_
   refine Awp.consP C ?_
   refine rvP C (.pv (.lit (.bool true))) ?_
   refine rvc_nil ?_
   refine Awp.ret ?_
   subst hR
   exact ⟨.inl rfl, rfl⟩
theorem name1_B (c : Int) (h : 0 ≤ c ∧ c < 256) : KeyB (nameK [c]) := fun j hj => by
  rcases (by omega : j = 0 ∨ j = 1 ∨ j = 2 ∨ j = 3 ∨ j = 4 ∨ j = 5 ∨ j = 6 ∨ j = 7) with rfl | rfl | rfl | rfl | rfl | rfl | rfl | rfl
  · exact h
  all_goals (show (0 : Int) ≤ 0 ∧ (0 : Int) < 256; decide)
theorem rng8 (c : Int) (h : 0 ≤ c ∧ c < 256) : ∀ x ∈ [c], 0 ≤ x ∧ x < 256 := fun x hx => by rw [List.mem_singleton.1 hx]; exact h
def pRead_l0 : Nat → Nat → (List Seen) → Reader → (Sl Seen) × Int
  | 0, _, l, vc => (bif ((rdEnd vc) != 0) then ((Sl.mk true []), 100) else (bif ((pRight (Sl.mk l.isEmpty l)) != 0) then ((Sl.mk true []), 100) else ((Sl.mk l.isEmpty l), 0)))
  | k + 1, i, l, vc => pRead_l0 k (i + 1) (l ++ [(Seen.mk (unword ((rdNum vc).2)) ((rdIn ((rdNum vc).1) 1 1099511627776).2))]) ((rdIn ((rdNum vc).1) 1 1099511627776).1)
def pRead (key : (Sl Int)) (b : (Sl Int)) : (Sl Seen) × Int :=
  (bif ((key.D.length : Int) != 16) then ((Sl.mk true []), 1) else (bif ((b.D.length : Int) == 0) then ((Sl.mk true []), 0) else (bif (decide ((b.D.length : Int) > 120)) then ((Sl.mk true []), 100) else (bif (decide ((b.D.length : Int) < 8)) then ((Sl.mk true []), 100) else (bif (((mark key (Sl.mk b.nil (b.D.take ((IntKind.i64.wrap ((b.D.length : Int) - 8)).toNat)))).2) != 0) then ((Sl.mk true []), 100) else (bif (!(eqBytes ((mark key (Sl.mk b.nil (b.D.take ((IntKind.i64.wrap ((b.D.length : Int) - 8)).toNat)))).1) (Sl.mk b.nil (b.D.drop ((IntKind.i64.wrap ((b.D.length : Int) - 8)).toNat))))) then ((Sl.mk true []), 100) else pRead_l0 (rdIn (rdNew (Sl.mk b.nil (b.D.take ((IntKind.i64.wrap ((b.D.length : Int) - 8)).toNat)))) 1 6).2.toNat 0 [] (rdIn (rdNew (Sl.mk b.nil (b.D.take ((IntKind.i64.wrap ((b.D.length : Int) - 8)).toNat)))) 1 6).1))))))
theorem pRead_calls (key : (Sl Int)) (b : (Sl Int))  : PCalls Tryd.prog 20 [sS (some key.nil) (eI .u8) key.D, sS (some b.nil) (eI .u8) b.D] (.tup [sS (some (pRead key b).1.nil) eSeen ((pRead key b).1.D), .pv (.lit (.int .i64 ((pRead key b).2)))]) := by
 generalize hR : pRead key b = R
 refine PCalls.of_body tabOk Tryd.func20 rfl rfl rfl rfl rfl mixed fun E hP C hI => ?_
 refine Awp.consP C ?_
 refine rvP C (sS (some true) eSeen []) ?_
 refine rvP C (.pv (.lit (.int .i64 0))) ?_
 refine rvc_nil ?_
 refine Awp.seq ?_
 refine Awp.consP C ?_
 refine rvP C (sS (some key.nil) (eI .u8) key.D) ?_
 refine rvP C (.pv (.lit (.int .i64 (key.D.length : Int)))) ?_
 refine rvP C (.pv (.lit (.bool ((key.D.length : Int) != 16)))) ?_
 refine rvc_nil ?_
 refine Awp.cond (b := ((key.D.length : Int) != 16)) rfl (fun h1 => ?_) (fun h1 => ?_)
 ·
  replace hR := of_true h1 hR
  refine Awp.consP C ?_
  refine rvP C (sS (some true) eSeen []) ?_
  refine rvP C (.pv (.lit (.int .i64 1))) ?_
  refine rvc_nil ?_
  refine Awp.ret ?_
  subst hR
  exact ⟨.inl rfl, rfl⟩
 ·
  replace hR := of_false h1 hR
  refine Awp.skip ?_
  refine Awp.seq ?_
  refine Awp.consP C ?_
  refine rvP C (sS (some b.nil) (eI .u8) b.D) ?_
  refine rvP C (.pv (.lit (.int .i64 (b.D.length : Int)))) ?_
  refine rvP C (.pv (.lit (.bool ((b.D.length : Int) == 0)))) ?_
  refine rvc_nil ?_
  refine Awp.cond (b := ((b.D.length : Int) == 0)) rfl (fun h2 => ?_) (fun h2 => ?_)
  ·
   replace hR := of_true h2 hR
   refine Awp.consP C ?_
   refine rvP C (sS (some true) eSeen []) ?_
   refine rvP C (.pv (.lit (.int .i64 0))) ?_
   refine rvc_nil ?_
   refine Awp.ret ?_
   subst hR
   exact ⟨.inl rfl, rfl⟩
  ·
   replace hR := of_false h2 hR
   refine Awp.skip ?_
   refine Awp.seq ?_
   refine Awp.consP C ?_
   refine rvP C (sS (some b.nil) (eI .u8) b.D) ?_
   refine rvP C (.pv (.lit (.int .i64 (b.D.length : Int)))) ?_
   refine rvP C (.pv (.lit (.bool (decide ((b.D.length : Int) > 120))))) ?_
   refine rvP C (.pv (.lit (.bool (decide ((b.D.length : Int) > 120))))) ?_
   refine rvc_case 20 (decide ((b.D.length : Int) > 120)) rfl (fun h3 => ?_) (fun h3 => ?_)
   ·
    replace hR := of_true h3 hR
    refine rvS ?_
    refine rvS ?_
    refine rvS ?_
    refine rvP C (.pv (.lit (.bool true))) ?_
    refine rvc_nil ?_
    refine Awp.condT (b := true) rfl rfl ?_
    refine Awp.consP C ?_
    refine rvP C (sS (some true) eSeen []) ?_
    refine rvP C (.pv (.lit (.int .i64 100))) ?_
    refine rvc_nil ?_
    refine Awp.ret ?_
    subst hR
    exact ⟨.inl rfl, rfl⟩
   ·
    replace hR := of_false h3 hR
    refine rvO C (sS (some b.nil) (eI .u8) b.D) ?_
    refine rvO C (.pv (.lit (.int .i64 (b.D.length : Int)))) ?_
    refine rvO C (.pv (.lit (.bool (decide ((b.D.length : Int) < 8))))) ?_
    refine rvP C (.pv (.lit (.bool (decide ((b.D.length : Int) < 8))))) ?_
    refine rvc_nil ?_
    refine Awp.cond (b := (decide ((b.D.length : Int) < 8))) rfl (fun h4 => ?_) (fun h4 => ?_)
    ·
     replace hR := of_true h4 hR
     refine Awp.consP C ?_
     refine rvP C (sS (some true) eSeen []) ?_
     refine rvP C (.pv (.lit (.int .i64 100))) ?_
     refine rvc_nil ?_
     refine Awp.ret ?_
     subst hR
     exact ⟨.inl rfl, rfl⟩
    ·
     replace hR := of_false h4 hR
     refine Awp.skip ?_
     refine Awp.consP C ?_
     refine rvP C (sS (some b.nil) (eI .u8) b.D) ?_
     refine rvP C (.pv (.lit (.int .i64 (b.D.length : Int)))) ?_
     refine rvP C (.pv (.lit (.int .i64 (IntKind.i64.wrap ((b.D.length : Int) - 8))))) ?_
     refine rvP C (.pv (.lit (.int .i64 (IntKind.i64.wrap ((b.D.length : Int) - 8))))) ?_
     refine rvc_nil ?_
     refine Awp.consP C ?_
     refine rvP C (sS (some key.nil) (eI .u8) key.D) ?_
     refine rvP C (sS (some b.nil) (eI .u8) b.D) ?_
     refine rvP C (.pv (.lit (.int .i64 (IntKind.i64.wrap ((b.D.length : Int) - 8))))) ?_
     have ha_ := wrapI ((b.D.length : Int) - 8)
     have h8_ := of_decide_eq_false ‹decide ((b.D.length : Int) < 8) = false›
     have h120_ := of_decide_eq_false ‹decide ((b.D.length : Int) > 120) = false›
     refine rvc_un (rexec_sliceS C (e := (eI .u8)) (D := b.D) 0 ((IntKind.i64.wrap ((b.D.length : Int) - 8)).toNat) rfl rfl rfl rfl rfl rfl rfl rfl rfl (by simp; omega) (by omega) (by omega) (b.D.take ((IntKind.i64.wrap ((b.D.length : Int) - 8)).toNat)) (by simp) ?_)
     refine rvc_un (rexec_call hP C rfl rfl rfl (mark_calls key (Sl.mk b.nil (b.D.take ((IntKind.i64.wrap ((b.D.length : Int) - 8)).toNat))) (by simp; omega)) ?_)
     refine rvP C (.tup [sS (some (mark key (Sl.mk b.nil (b.D.take ((IntKind.i64.wrap ((b.D.length : Int) - 8)).toNat)))).1.nil) (eI .u8) ((mark key (Sl.mk b.nil (b.D.take ((IntKind.i64.wrap ((b.D.length : Int) - 8)).toNat)))).1.D), .pv (.lit (.int .i64 ((mark key (Sl.mk b.nil (b.D.take ((IntKind.i64.wrap ((b.D.length : Int) - 8)).toNat)))).2)))]) ?_
     refine rvP C (sS (some (mark key (Sl.mk b.nil (b.D.take ((IntKind.i64.wrap ((b.D.length : Int) - 8)).toNat)))).1.nil) (eI .u8) ((mark key (Sl.mk b.nil (b.D.take ((IntKind.i64.wrap ((b.D.length : Int) - 8)).toNat)))).1.D)) ?_
     refine rvP C (.pv (.lit (.int .i64 ((mark key (Sl.mk b.nil (b.D.take ((IntKind.i64.wrap ((b.D.length : Int) - 8)).toNat)))).2)))) ?_
     refine rvP C (sS (some (mark key (Sl.mk b.nil (b.D.take ((IntKind.i64.wrap ((b.D.length : Int) - 8)).toNat)))).1.nil) (eI .u8) ((mark key (Sl.mk b.nil (b.D.take ((IntKind.i64.wrap ((b.D.length : Int) - 8)).toNat)))).1.D)) ?_
     refine rvP C (.pv (.lit (.int .i64 ((mark key (Sl.mk b.nil (b.D.take ((IntKind.i64.wrap ((b.D.length : Int) - 8)).toNat)))).2)))) ?_
     refine rvc_nil ?_
     refine Awp.seq ?_
     refine Awp.consP C ?_
     refine rvP C (.pv (.lit (.int .i64 ((mark key (Sl.mk b.nil (b.D.take ((IntKind.i64.wrap ((b.D.length : Int) - 8)).toNat)))).2)))) ?_
     refine rvP C (.pv (.lit (.bool (((mark key (Sl.mk b.nil (b.D.take ((IntKind.i64.wrap ((b.D.length : Int) - 8)).toNat)))).2) != 0)))) ?_
     refine rvP C (.pv (.lit (.bool (((mark key (Sl.mk b.nil (b.D.take ((IntKind.i64.wrap ((b.D.length : Int) - 8)).toNat)))).2) != 0)))) ?_
     refine rvc_case 38 (((mark key (Sl.mk b.nil (b.D.take ((IntKind.i64.wrap ((b.D.length : Int) - 8)).toNat)))).2) != 0) rfl (fun h5 => ?_) (fun h5 => ?_)
     ·
      replace hR := of_true h5 hR
      refine rvS ?_
      refine rvS ?_
      refine rvS ?_
      refine rvS ?_
      refine rvS ?_
      refine rvS ?_
      refine rvP C (.pv (.lit (.bool true))) ?_
      refine rvc_nil ?_
      refine Awp.condT (b := true) rfl rfl ?_
      refine Awp.consP C ?_
      refine rvP C (sS (some true) eSeen []) ?_
      refine rvP C (.pv (.lit (.int .i64 100))) ?_
      refine rvc_nil ?_
      refine Awp.ret ?_
      subst hR
      exact ⟨.inl rfl, rfl⟩
     ·
      replace hR := of_false h5 hR
      refine rvO C (sS (some (mark key (Sl.mk b.nil (b.D.take ((IntKind.i64.wrap ((b.D.length : Int) - 8)).toNat)))).1.nil) (eI .u8) ((mark key (Sl.mk b.nil (b.D.take ((IntKind.i64.wrap ((b.D.length : Int) - 8)).toNat)))).1.D)) ?_
      refine rvO C (sS (some b.nil) (eI .u8) b.D) ?_
      refine rvO C (.pv (.lit (.int .i64 (IntKind.i64.wrap ((b.D.length : Int) - 8))))) ?_
      refine rvc_open rfl rfl rfl (rexec_sliceS C (e := (eI .u8)) (D := b.D) ((IntKind.i64.wrap ((b.D.length : Int) - 8)).toNat) b.D.length rfl rfl rfl rfl rfl rfl rfl rfl (by simp; omega) rfl (by omega) (by omega) (b.D.drop ((IntKind.i64.wrap ((b.D.length : Int) - 8)).toNat)) (by rw [List.take_of_length_le (by simp)]) ?_)
      refine rvc_open rfl rfl rfl (rexec_call hP C rfl rfl rfl (eqBytes_calls ((mark key (Sl.mk b.nil (b.D.take ((IntKind.i64.wrap ((b.D.length : Int) - 8)).toNat)))).1) (Sl.mk b.nil (b.D.drop ((IntKind.i64.wrap ((b.D.length : Int) - 8)).toNat)))) ?_)
      refine rvO C (.pv (.lit (.bool (!(eqBytes ((mark key (Sl.mk b.nil (b.D.take ((IntKind.i64.wrap ((b.D.length : Int) - 8)).toNat)))).1) (Sl.mk b.nil (b.D.drop ((IntKind.i64.wrap ((b.D.length : Int) - 8)).toNat)))))))) ?_
      refine rvP C (.pv (.lit (.bool (!(eqBytes ((mark key (Sl.mk b.nil (b.D.take ((IntKind.i64.wrap ((b.D.length : Int) - 8)).toNat)))).1) (Sl.mk b.nil (b.D.drop ((IntKind.i64.wrap ((b.D.length : Int) - 8)).toNat)))))))) ?_
      refine rvc_nil ?_
      refine Awp.cond (b := (!(eqBytes ((mark key (Sl.mk b.nil (b.D.take ((IntKind.i64.wrap ((b.D.length : Int) - 8)).toNat)))).1) (Sl.mk b.nil (b.D.drop ((IntKind.i64.wrap ((b.D.length : Int) - 8)).toNat)))))) rfl (fun h6 => ?_) (fun h6 => ?_)
      ·
       replace hR := of_true h6 hR
       refine Awp.consP C ?_
       refine rvP C (sS (some true) eSeen []) ?_
       refine rvP C (.pv (.lit (.int .i64 100))) ?_
       refine rvc_nil ?_
       refine Awp.ret ?_
       subst hR
       exact ⟨.inl rfl, rfl⟩
      ·
       replace hR := of_false h6 hR
       refine Awp.skip ?_
       refine Awp.cons C (fun _ => .quiet) (by kernel_rfl) ?_
       refine rvP C (sS (some b.nil) (eI .u8) b.D) ?_
       refine rvP C (.pv (.lit (.int .i64 (IntKind.i64.wrap ((b.D.length : Int) - 8))))) ?_
       refine rvc_un (rexec_sliceS C (e := (eI .u8)) (D := b.D) 0 ((IntKind.i64.wrap ((b.D.length : Int) - 8)).toNat) rfl rfl rfl rfl rfl rfl rfl rfl rfl (by simp; omega) (by omega) (by omega) (b.D.take ((IntKind.i64.wrap ((b.D.length : Int) - 8)).toNat)) (by simp) ?_)
       refine rvc_un (rexec_callO hP C rfl rfl rfl rfl (rdNew_calls (Sl.mk b.nil (b.D.take ((IntKind.i64.wrap ((b.D.length : Int) - 8)).toNat))) (by simp; omega)) ?_)
       refine rvP C (.ptr 49 0) ?_
       refine rvc_nil ?_
       refine Awp.consP C ?_
       refine rvP C (sS (some true) eSeen []) ?_
       refine rvc_nil ?_
       refine Awp.seq ?_
       refine Awp.cons C (fun _ => .writer) (by kernel_rfl) ?_
       refine rvP C (.ptr 49 0) ?_
       obtain ⟨q0, hq_q0⟩ : ∃ q_, q_ = (rdIn (rdNew (Sl.mk b.nil (b.D.take ((IntKind.i64.wrap ((b.D.length : Int) - 8)).toNat)))) 1 6) := ⟨_, rfl⟩
       have hc_q0 := (rdIn_calls (rdNew (Sl.mk b.nil (b.D.take ((IntKind.i64.wrap ((b.D.length : Int) - 8)).toNat)))) 1 6 (rdNew_ok _ (by simp; omega)))
       first | rw [← hq_q0] at hR hc_q0 | (unfold pRead at hR; rw [← hq_q0] at hR hc_q0)
       have hf0_q0 := rdIn_ok (rdNew (Sl.mk b.nil (b.D.take ((IntKind.i64.wrap ((b.D.length : Int) - 8)).toNat)))) 1 6 (rdNew_ok _ (by simp; omega))
       rw [← hq_q0] at hf0_q0
       have hf1_q0 := rdIn_hi (rdNew (Sl.mk b.nil (b.D.take ((IntKind.i64.wrap ((b.D.length : Int) - 8)).toNat)))) 1 6 (by decide)
       rw [← hq_q0] at hf1_q0
       refine rvc_un (rexec_callM hP C (b := 49) rfl rfl rfl hc_q0 rfl rfl ?_)
       refine rvP C (.pv (.lit (.int .i64 0))) ?_
       refine rvc_nil ?_
       refine Awp.block ?_
       refine Awp.forR (σ := ((List Seen)) × Reader) (q0.2.toNat) (fun i v => [(9, .ptr 49 0), (10, grow 900 eSeen v.1), (51, .pv (.lit (.int .i64 q0.2))), (52, .pv (.lit (.int .i64 (i : Int))))]) (fun i v => (growH 900 eSeen v.1 ++ ([(49, .cells [sS (some v.2.b.nil) (eI .u8) v.2.b.D, .pv (.lit (.int .i64 v.2.at_)), .pv (.lit (.int .i64 v.2.err)), .pv (.lit (.bool v.2.made))])]))) [49, 900] (fun i v => (pRead_l0 (q0.2.toNat - i) i v.1 v.2 = R) ∧ (okR v.2 ∧ KB v.1) ∧ (v.1.length ≤ i)) ([], q0.1) ?_ ?_ (fun i v h7 hR => ?_)
       · exact ⟨hR, ⟨hf0_q0, (fun _ h => nomatch h)⟩, (by first | omega | (simp <;> omega))⟩
       · exact ⟨fun b => b, WeakerR.ofL (Ks := [49, 900]) hI ⟨⟨rfl, rfl⟩, ⟨rfl, rfl⟩, ⟨rfl, rfl⟩, ⟨rfl, rfl⟩, trivial⟩ (okH_grow (fun hne => absurd rfl hne) rfl rfl (okH_cons rfl rfl rfl rfl (okH_nil))) rfl⟩
       obtain ⟨l, vc⟩ := v
       obtain ⟨hR, hV, hi_l⟩ := hR
       replace hi_l : l.length ≤ i := hi_l
       by_cases h8 : l = []
       ·
        refine Awp.wordsR [(9, .ptr 49 0), (10, sS (some l.isEmpty) eSeen l), (51, .pv (.lit (.int .i64 q0.2))), (52, .pv (.lit (.int .i64 (i : Int))))] [(49, .cells [sS (some vc.b.nil) (eI .u8) vc.b.D, .pv (.lit (.int .i64 vc.at_)), .pv (.lit (.int .i64 vc.err)), .pv (.lit (.bool vc.made))])] [49] (WeakerR.ofL (Ks := [49]) hI ⟨⟨rfl, rfl⟩, ⟨(by exact grow_at_nil (b := 900) (e := eSeen) (l := l) rfl h8), rfl⟩, ⟨rfl, rfl⟩, ⟨rfl, rfl⟩, trivial⟩ (okH_cons (look_nil h8 rfl) rfl rfl rfl (okH_nil)) rfl) ?_
        refine Awp.consP C ?_
        refine rvP C (.pv (.lit (.bool (decide ((i : Int) < q0.2))))) ?_
        refine rvc_nil ?_
        refine Awp.seq ?_
        refine Awp.cond (b := (decide ((i : Int) < q0.2))) rfl (fun h9 => ?_) (fun h9 => ?_)
        ·
         have h10 : i < q0.2.toNat := by have := of_decide_eq_true h9; omega
         obtain ⟨k, h11⟩ : ∃ k, q0.2.toNat - i = k + 1 := ⟨q0.2.toNat - i - 1, by omega⟩
         rw [h11] at hR
         refine Awp.skip ?_
         refine Awp.seq ?_
         refine Awp.block ?_
         refine Awp.region C (fun _ => .writer) (by kernel_rfl) ?_
         refine rvP C (sS (some l.isEmpty) eSeen l) ?_
         refine rvP C (.ptr 49 0) ?_
         refine rvc_un (rexec_callM hP C (b := 49) rfl rfl rfl (rdNum_calls vc hV.1) rfl rfl ?_)
         refine rvc_un (rexec_call hP C rfl rfl rfl (unword_calls ((rdNum vc).2)) ?_)
         refine rvP C (.ptr 49 0) ?_
         refine rvc_un (rexec_callM hP C (b := 49) rfl rfl rfl (rdIn_calls ((rdNum vc).1) 1 1099511627776 (rdNum_ok _ hV.1)) rfl rfl ?_)
         refine rvP C (.agg [.pv (.lit (.int .u8 ((unword ((rdNum vc).2)) 0))), .pv (.lit (.int .u8 ((unword ((rdNum vc).2)) 1))), .pv (.lit (.int .u8 ((unword ((rdNum vc).2)) 2))), .pv (.lit (.int .u8 ((unword ((rdNum vc).2)) 3))), .pv (.lit (.int .u8 ((unword ((rdNum vc).2)) 4))), .pv (.lit (.int .u8 ((unword ((rdNum vc).2)) 5))), .pv (.lit (.int .u8 ((unword ((rdNum vc).2)) 6))), .pv (.lit (.int .u8 ((unword ((rdNum vc).2)) 7))), .pv (.lit (.int .i64 ((rdIn ((rdNum vc).1) 1 1099511627776).2)))]) ?_
         refine rvc_un (rexec_buildSliceF C eSeen [(Seen.mk (unword ((rdNum vc).2)) ((rdIn ((rdNum vc).1) 1 1099511627776).2))] rfl rfl rfl rfl rfl rfl rfl (by decide) rfl ?_)
         refine rvc_un (rexec_appendG C rfl rfl rfl rfl rfl rfl rfl rfl (fun _ h => by cases h) rfl (en := eSeen) (l := l) (D := [(Seen.mk (unword ((rdNum vc).2)) ((rdIn ((rdNum vc).1) 1 1099511627776).2))]) rfl rfl h8 (by rw [h8]; rfl) (by simp) (by have := wrapI ((b.D.length : Int) - 8); have := eq_of_bne_false h1; have := ne_of_beq_false h2; have := of_decide_eq_false h3; have := of_decide_eq_false h4; have := eq_of_bne_false h5; have := of_decide_eq_true h9; first | omega | (simp <;> omega)) (by decide) (nn := (l ++ [(Seen.mk (unword ((rdNum vc).2)) ((rdIn ((rdNum vc).1) 1 1099511627776).2))]).length) (by simp) ?_)
         refine rvP C (.sl 62 0 ((l ++ [(Seen.mk (unword ((rdNum vc).2)) ((rdIn ((rdNum vc).1) 1 1099511627776).2))]).length) 9 false) ?_
         refine rvc_nil ?_
         refine Awp.regionP C ?_
         refine rvP C (.pv (.lit (.int .i64 (IntKind.i64.wrap ((i : Int) + 1))))) ?_
         refine rvP C (.pv (.lit (.int .i64 (IntKind.i64.wrap ((i : Int) + 1))))) ?_
         refine rvc_nil ?_
         refine ⟨h10, ((l ++ [(Seen.mk (unword ((rdNum vc).2)) ((rdIn ((rdNum vc).1) 1 1099511627776).2))]), (rdIn ((rdNum vc).1) 1 1099511627776).1), ?_, ?_⟩
         · exact ⟨(by rw [show q0.2.toNat - (i + 1) = k by omega]; exact hR), ⟨(rdIn_ok _ _ _ (rdNum_ok _ hV.1)), (KB_snoc hV.2 (unword_B _))⟩, (by first | omega | (simp <;> omega))⟩
         · exact ⟨fun b => bif b == 900 then 62 else (fun b => b) b, WeakerR.ofL (Ks := [49, 900]) hI ⟨⟨rfl, rfl⟩, ⟨grow_to rfl rfl app_ne rfl rfl, grow_within rfl⟩, ⟨rfl, rfl⟩, ⟨lit_cast (wrap_i64 (by omega) (by omega)), rfl⟩, trivial⟩ (okH_grow (fun _ => rfl) rfl rfl (okH_cons rfl rfl rfl rfl (okH_nil))) rfl⟩
        ·
         rw [show q0.2.toNat - i = 0 by have := of_decide_eq_false h9; omega] at hR
         refine Awp.exit ?_
         refine Awp.seq ?_
         refine Awp.cons C (fun _ => .writer) (by kernel_rfl) ?_
         refine rvP C (.ptr 49 0) ?_
         refine rvc_un (rexec_callM hP C (b := 49) rfl rfl rfl (rdEnd_calls vc) rfl rfl ?_)
         refine rvP C (.pv (.lit (.bool ((rdEnd vc) != 0)))) ?_
         refine rvP C (.pv (.lit (.bool ((rdEnd vc) != 0)))) ?_
         refine rvc_case 67 ((rdEnd vc) != 0) rfl (fun h12 => ?_) (fun h12 => ?_)
         ·
          replace hR := of_true h12 hR
          refine rvS ?_
          refine rvS ?_
          refine rvS ?_
          refine rvP C (.pv (.lit (.bool true))) ?_
          refine rvc_nil ?_
          refine Awp.condT (b := true) rfl rfl ?_
          refine Awp.consP C ?_
          refine rvP C (sS (some true) eSeen []) ?_
          refine rvP C (.pv (.lit (.int .i64 100))) ?_
          refine rvc_nil ?_
          refine Awp.ret ?_
          subst hR
          exact ⟨.inl rfl, rfl⟩
         ·
          replace hR := of_false h12 hR
          refine rvO C (sS (some l.isEmpty) eSeen l) ?_
          refine rvc_open rfl rfl rfl (rexec_call hP C rfl rfl rfl (pRight_calls (Sl.mk l.isEmpty l) hV.2 (by show l.length ≤ 1000000; have := wrapI ((b.D.length : Int) - 8); have := eq_of_bne_false h1; have := ne_of_beq_false h2; have := of_decide_eq_false h3; have := of_decide_eq_false h4; have := eq_of_bne_false h5; have := of_decide_eq_false h9; have := eq_of_bne_false h12; omega)) ?_)
          refine rvO C (.pv (.lit (.bool ((pRight (Sl.mk l.isEmpty l)) != 0)))) ?_
          refine rvP C (.pv (.lit (.bool ((pRight (Sl.mk l.isEmpty l)) != 0)))) ?_
          refine rvc_nil ?_
          refine Awp.cond (b := ((pRight (Sl.mk l.isEmpty l)) != 0)) rfl (fun h13 => ?_) (fun h13 => ?_)
          ·
           replace hR := of_true h13 hR
           refine Awp.consP C ?_
           refine rvP C (sS (some true) eSeen []) ?_
           refine rvP C (.pv (.lit (.int .i64 100))) ?_
           refine rvc_nil ?_
           refine Awp.ret ?_
           subst hR
           exact ⟨.inl rfl, rfl⟩
          ·
           replace hR := of_false h13 hR
           refine Awp.skip ?_
           refine Awp.consP C ?_
           refine rvP C (sS (some l.isEmpty) eSeen l) ?_
           refine rvP C (sS (some l.isEmpty) eSeen l) ?_
           refine rvP C (.pv (.lit (.int .i64 0))) ?_
           refine rvc_nil ?_
           refine Awp.ret ?_
           subst hR
           exact ⟨.inl rfl, rfl⟩
       ·
        refine Awp.wordsR [(9, .ptr 49 0), (10, .sl 900 0 l.length 9 false), (51, .pv (.lit (.int .i64 q0.2))), (52, .pv (.lit (.int .i64 (i : Int))))] [(900, .cells (encC eSeen l)), (49, .cells [sS (some vc.b.nil) (eI .u8) vc.b.D, .pv (.lit (.int .i64 vc.at_)), .pv (.lit (.int .i64 vc.err)), .pv (.lit (.bool vc.made))])] [49, 900] (WeakerR.ofL (Ks := [49, 900]) hI ⟨⟨rfl, rfl⟩, ⟨(by exact grow_at_cons (b := 900) (b' := 900) (e := eSeen) (l := l) rfl h8 rfl rfl rfl), rfl⟩, ⟨rfl, rfl⟩, ⟨rfl, rfl⟩, trivial⟩ (okH_list (look_cons h8 rfl) rfl rfl (okH_cons (look_cons h8 rfl) rfl rfl rfl (okH_nil))) rfl) ?_
        refine Awp.consP C ?_
        refine rvP C (.pv (.lit (.bool (decide ((i : Int) < q0.2))))) ?_
        refine rvc_nil ?_
        refine Awp.seq ?_
        refine Awp.cond (b := (decide ((i : Int) < q0.2))) rfl (fun h14 => ?_) (fun h14 => ?_)
        ·
         have h15 : i < q0.2.toNat := by have := of_decide_eq_true h14; omega
         obtain ⟨k, h16⟩ : ∃ k, q0.2.toNat - i = k + 1 := ⟨q0.2.toNat - i - 1, by omega⟩
         rw [h16] at hR
         refine Awp.skip ?_
         refine Awp.seq ?_
         refine Awp.block ?_
         refine Awp.region C (fun _ => .writer) (by kernel_rfl) ?_
         refine rvP C (.sl 900 0 l.length 9 false) ?_
         refine rvP C (.ptr 49 0) ?_
         refine rvc_un (rexec_callM hP C (b := 49) rfl rfl rfl (rdNum_calls vc hV.1) rfl rfl ?_)
         refine rvc_un (rexec_call hP C rfl rfl rfl (unword_calls ((rdNum vc).2)) ?_)
         refine rvP C (.ptr 49 0) ?_
         refine rvc_un (rexec_callM hP C (b := 49) rfl rfl rfl (rdIn_calls ((rdNum vc).1) 1 1099511627776 (rdNum_ok _ hV.1)) rfl rfl ?_)
         refine rvP C (.agg [.pv (.lit (.int .u8 ((unword ((rdNum vc).2)) 0))), .pv (.lit (.int .u8 ((unword ((rdNum vc).2)) 1))), .pv (.lit (.int .u8 ((unword ((rdNum vc).2)) 2))), .pv (.lit (.int .u8 ((unword ((rdNum vc).2)) 3))), .pv (.lit (.int .u8 ((unword ((rdNum vc).2)) 4))), .pv (.lit (.int .u8 ((unword ((rdNum vc).2)) 5))), .pv (.lit (.int .u8 ((unword ((rdNum vc).2)) 6))), .pv (.lit (.int .u8 ((unword ((rdNum vc).2)) 7))), .pv (.lit (.int .i64 ((rdIn ((rdNum vc).1) 1 1099511627776).2)))]) ?_
         refine rvc_un (rexec_buildSliceF C eSeen [(Seen.mk (unword ((rdNum vc).2)) ((rdIn ((rdNum vc).1) 1 1099511627776).2))] rfl rfl rfl rfl rfl rfl rfl (by decide) rfl ?_)
         refine rvc_un (rexec_append C rfl rfl rfl rfl rfl rfl rfl rfl (fun _ h => by cases h) rfl (en := eSeen) (D0 := l) (D := [(Seen.mk (unword ((rdNum vc).2)) ((rdIn ((rdNum vc).1) 1 1099511627776).2))]) rfl rfl rfl rfl (by have := wrapI ((b.D.length : Int) - 8); have := eq_of_bne_false h1; have := ne_of_beq_false h2; have := of_decide_eq_false h3; have := of_decide_eq_false h4; have := eq_of_bne_false h5; have := of_decide_eq_true h14; first | omega | (simp <;> omega)) (by decide) (nn := (l ++ [(Seen.mk (unword ((rdNum vc).2)) ((rdIn ((rdNum vc).1) 1 1099511627776).2))]).length) (by simp) ?_)
         refine rvP C (.sl 62 0 ((l ++ [(Seen.mk (unword ((rdNum vc).2)) ((rdIn ((rdNum vc).1) 1 1099511627776).2))]).length) 9 false) ?_
         refine rvc_nil ?_
         refine Awp.regionP C ?_
         refine rvP C (.pv (.lit (.int .i64 (IntKind.i64.wrap ((i : Int) + 1))))) ?_
         refine rvP C (.pv (.lit (.int .i64 (IntKind.i64.wrap ((i : Int) + 1))))) ?_
         refine rvc_nil ?_
         refine ⟨h15, ((l ++ [(Seen.mk (unword ((rdNum vc).2)) ((rdIn ((rdNum vc).1) 1 1099511627776).2))]), (rdIn ((rdNum vc).1) 1 1099511627776).1), ?_, ?_⟩
         · exact ⟨(by rw [show q0.2.toNat - (i + 1) = k by omega]; exact hR), ⟨(rdIn_ok _ _ _ (rdNum_ok _ hV.1)), (KB_snoc hV.2 (unword_B _))⟩, (by first | omega | (simp <;> omega))⟩
         · exact ⟨fun b => bif b == 900 then 62 else (fun b => b) b, WeakerR.ofL (Ks := [49, 900]) hI ⟨⟨rfl, rfl⟩, ⟨grow_to rfl rfl app_ne rfl rfl, grow_within rfl⟩, ⟨rfl, rfl⟩, ⟨lit_cast (wrap_i64 (by omega) (by omega)), rfl⟩, trivial⟩ (okH_grow (fun _ => rfl) rfl rfl (okH_cons rfl rfl rfl rfl (okH_nil))) rfl⟩
        ·
         rw [show q0.2.toNat - i = 0 by have := of_decide_eq_false h14; omega] at hR
         refine Awp.exit ?_
         refine Awp.seq ?_
         refine Awp.freezeW 900 (encL eSeen l) ?_ [(9, .ptr 49 0), (10, sS (some l.isEmpty) eSeen l)] [(49, .cells [sS (some vc.b.nil) (eI .u8) vc.b.D, .pv (.lit (.int .i64 vc.at_)), .pv (.lit (.int .i64 vc.err)), .pv (.lit (.bool vc.made))])] ?_ ?_ ?_
         · rfl
         · exact ⟨⟨_, rfl, .inl (.inl rfl)⟩, ⟨_, rfl, .inl (.inr ⟨_, _, _, rfl, by rw [ne_isEmpty h8]; rfl⟩)⟩, trivial⟩
         · exact ⟨⟨(by show (49 : Nat) ≠ 900; decide), .inl rfl⟩, trivial⟩
         refine Awp.cons C (fun _ => .writer) (by kernel_rfl) ?_
         refine rvP C (.ptr 49 0) ?_
         refine rvc_un (rexec_callM hP C (b := 49) rfl rfl rfl (rdEnd_calls vc) rfl rfl ?_)
         refine rvP C (.pv (.lit (.bool ((rdEnd vc) != 0)))) ?_
         refine rvP C (.pv (.lit (.bool ((rdEnd vc) != 0)))) ?_
         refine rvc_case 67 ((rdEnd vc) != 0) rfl (fun h17 => ?_) (fun h17 => ?_)
         ·
          replace hR := of_true h17 hR
          refine rvS ?_
          refine rvS ?_
          refine rvS ?_
          refine rvP C (.pv (.lit (.bool true))) ?_
          refine rvc_nil ?_
          refine Awp.condT (b := true) rfl rfl ?_
          refine Awp.consP C ?_
          refine rvP C (sS (some true) eSeen []) ?_
          refine rvP C (.pv (.lit (.int .i64 100))) ?_
          refine rvc_nil ?_
          refine Awp.ret ?_
          subst hR
          exact ⟨.inl rfl, rfl⟩
         ·
          replace hR := of_false h17 hR
          refine rvO C (sS (some l.isEmpty) eSeen l) ?_
          refine rvc_open rfl rfl rfl (rexec_call hP C rfl rfl rfl (pRight_calls (Sl.mk l.isEmpty l) hV.2 (by show l.length ≤ 1000000; have := wrapI ((b.D.length : Int) - 8); have := eq_of_bne_false h1; have := ne_of_beq_false h2; have := of_decide_eq_false h3; have := of_decide_eq_false h4; have := eq_of_bne_false h5; have := of_decide_eq_false h14; have := eq_of_bne_false h17; omega)) ?_)
          refine rvO C (.pv (.lit (.bool ((pRight (Sl.mk l.isEmpty l)) != 0)))) ?_
          refine rvP C (.pv (.lit (.bool ((pRight (Sl.mk l.isEmpty l)) != 0)))) ?_
          refine rvc_nil ?_
          refine Awp.cond (b := ((pRight (Sl.mk l.isEmpty l)) != 0)) rfl (fun h18 => ?_) (fun h18 => ?_)
          ·
           replace hR := of_true h18 hR
           refine Awp.consP C ?_
           refine rvP C (sS (some true) eSeen []) ?_
           refine rvP C (.pv (.lit (.int .i64 100))) ?_
           refine rvc_nil ?_
           refine Awp.ret ?_
           subst hR
           exact ⟨.inl rfl, rfl⟩
          ·
           replace hR := of_false h18 hR
           refine Awp.skip ?_
           refine Awp.consP C ?_
           refine rvP C (sS (some l.isEmpty) eSeen l) ?_
           refine rvP C (sS (some l.isEmpty) eSeen l) ?_
           refine rvP C (.pv (.lit (.int .i64 0))) ?_
           refine rvc_nil ?_
           refine Awp.ret ?_
           subst hR
           exact ⟨.inl rfl, rfl⟩
theorem u8_inj : ∀ {A B : List Int}, B8 A → B8 B → A.map u8 = B.map u8 → A = B
  | [], [], _, _, _ => rfl
  | [], _ :: _, _, _, h => by simp at h
  | _ :: _, [], _, _, h => by simp at h
  | a :: x, b :: y, hA, hB, h => by
    obtain ⟨h1, h2⟩ := hA.cons
    obtain ⟨h3, h4⟩ := hB.cons
    simp only [List.map_cons, List.cons.injEq] at h
    rw [(u8_eq h1 h3).1 h.1, u8_inj h2 h4 h.2]
theorem str_eq {A B : List Int} (hA : B8 A) (hB : B8 B) : ((strOf A).toList == (strOf B).toList) = decide (A = B) := by
  rw [ByteArray.toList_eq, ByteArray.toList_eq, strOf_L, strOf_L, Bool.eq_iff_iff, beq_iff_eq, decide_eq_true_eq]
  exact ⟨u8_inj hA hB, fun h => by rw [h]⟩
theorem rd_unword (w v : Int) : rd (Seen.mk (unword w) v) = rd (Seen.mk (unw w) v) := by
  show (kL (unword w), v) = (kL (unw w), v)
  rw [kL_unword]
/-- The seal of bytes. -/
def sealL (key : Sl Int) (D : List Int) : List Int := tbF (digF key (Sl.mk false D)) 8 0
theorem markR_D (key : Sl Int) (D : List Int) : (markR key (Sl.mk false D)).1.D = sealL key D := by
  have h := fun i hi => sh_byte (fun t => digF_R8 key (Sl.mk false D) t) i hi
  show [_, _, _, _, _, _, _, _] = [_, _, _, _, _, _, _, _]
  simp only [List.cons.injEq, and_true]
  exact ⟨h 0 (by decide), h 1 (by decide), h 2 (by decide), h 3 (by decide), h 4 (by decide), h 5 (by decide), h 6 (by decide), h 7 (by decide)⟩
theorem mark_D (key b : Sl Int) : (mark key b).1.D = sealL key b.D := markR_D key b.D
theorem sealL_len (key : Sl Int) (D : List Int) : (sealL key D).length = 8 := rfl
theorem sealL_B8 (key : Sl Int) (D : List Int) : B8 (sealL key D) := fun x hx => by
  obtain ⟨i, _, _, rfl⟩ := mem_tbF hx
  exact digF_R8 key (Sl.mk false D) i
/-- The pass of what was seen. -/
def passL (key : Sl Int) (l : List Seen) : List Int := encB l ++ sealL key (encB l)
def mkSpec (key : Sl Int) (l : Sl Seen) : Sl Int × Int :=
  bif (pRight l) != 0 then (Sl.mk true [], pRight l) else bif decide (key.D.length = 16) then (bif l.D.isEmpty then (Sl.mk true [], 0) else (Sl.mk false (passL key l.D), 0)) else (Sl.mk true [], 1)
theorem isEmpty_len {α : Type} (l : List α) : ((l.length : Int) == 0) = l.isEmpty := by
  cases l with
  | nil => rfl
  | cons x xs => simp; omega
theorem pMake_eq (key : Sl Int) (l : Sl Seen) : pMake key l = mkSpec key l := by
  unfold pMake mkSpec
  rw [isEmpty_len]
  have h2 : (markR key (Sl.mk false (bodyO l))).2 = if key.D.length = 16 then 0 else 1 := rfl
  rw [h2, markR_D, bodyO_eq]
  cases (pRight l != 0)
  · by_cases h : key.D.length = 16
    · rw [if_pos h, decide_eq_true h]
      cases l.D.isEmpty <;> rfl
    · rw [if_neg h, decide_eq_false h]; rfl
  · rfl
def badR : Sl Seen × Int := (Sl.mk true [], 100)
/-- What a pass's reader hands back. -/
def pfin (L : List Seen) : Sl Seen × Int := bif (pRight (Sl.mk L.isEmpty L)) != 0 then badR else (Sl.mk L.isEmpty L, 0)
theorem pRead_l0_err : ∀ (k i : Nat) (l : List Seen) (vc : Reader), rdErr vc ≠ 0 → pRead_l0 k i l vc = badR
  | 0, i, l, vc, h => by
    unfold pRead_l0
    rw [rdEnd_err h]; rfl
  | k + 1, i, l, vc, h => by
    unfold pRead_l0
    have e : (rdErr vc != 0) = true := by simpa using h
    rw [rdNum_err vc e]
    exact pRead_l0_err k (i + 1) _ _ (rdIn_err _ _ h)
theorem pRead_l0_at {D : List Int} (hD : B8 D) (hl : D.length ≤ 1000000) : ∀ (k i : Nat) (l : List Seen) (vc : Reader) (rest : List Int), RdAt vc D rest →
    (∀ xs, decS k rest = some (xs, []) → ∃ ys : List Seen, ys.map rd = xs.map rd ∧ KB ys ∧ pRead_l0 k i l vc = pfin (l ++ ys)) ∧ ((∀ xs, decS k rest ≠ some (xs, [])) → pRead_l0 k i l vc = badR)
  | 0, i, l, vc, rest, h => by
    have he := rdEnd_at h
    unfold pRead_l0 decS
    rw [he]
    cases rest with
    | nil =>
      refine ⟨fun xs hx => ⟨[], ?_, (fun _ h => nomatch h), ?_⟩, fun hno => absurd rfl (hno [])⟩
      · injection hx with hx; injection hx with hx _; rw [← hx]
      · rw [List.append_nil]; rfl
    | cons y ys =>
      exact ⟨fun xs hx => (by injection hx with hx; injection hx with _ hx; cases hx), fun _ => rfl⟩
  | k + 1, i, l, vc, rest, h => by
    have h1 := rdNum_at h hD hl
    have hsub : ∀ x ∈ rest, 0 ≤ x ∧ x < 256 := fun x hx => hD x (h.suf.subset hx)
    unfold pRead_l0 decS
    cases e1 : vd 0 rest with
    | none =>
      rw [e1] at h1
      exact ⟨fun xs hx => (by cases hx), fun _ => pRead_l0_err k (i + 1) _ _ (rdIn_err _ _ h1)⟩
    | some q =>
      obtain ⟨w, r1⟩ := q
      rw [e1] at h1
      dsimp only at h1 ⊢
      have h2 := rdIn_at 1 1099511627776 h1.1 hD hl
      cases e2 : rin 1 1099511627776 r1 with
      | none =>
        rw [e2] at h2
        exact ⟨fun xs hx => (by cases hx), fun _ => pRead_l0_err k (i + 1) _ _ h2⟩
      | some q =>
        obtain ⟨v, r2⟩ := q
        rw [e2] at h2
        dsimp only at h2 ⊢
        rw [h1.2, h2.2]
        obtain ⟨ih1, ih2⟩ := pRead_l0_at hD hl k (i + 1) (l ++ [Seen.mk (unword (w : Int)) (v : Int)]) _ r2 h2.1
        cases e3 : decS k r2 with
        | none =>
          rw [e3] at ih2
          exact ⟨fun xs hx => (by cases hx), fun _ => ih2 fun xs hx => (by cases hx)⟩
        | some q =>
          obtain ⟨zs, r3⟩ := q
          rw [e3] at ih1 ih2
          dsimp only
          refine ⟨fun xs hx => ?_, fun hno => ih2 fun xs hx => ?_⟩
          · injection hx with hx; injection hx with hx hr
            subst hr
            obtain ⟨ys, p1, p2, p3⟩ := ih1 zs rfl
            refine ⟨Seen.mk (unword (w : Int)) (v : Int) :: ys, ?_, ?_, ?_⟩
            · rw [← hx, List.map_cons, List.map_cons, p1, rd_unword]
            · intro x hx'
              rcases List.mem_cons.1 hx' with rfl | hx'
              · exact unword_B _
              · exact p2 x hx'
            · rw [p3, List.append_assoc]; rfl
          · injection hx with hx; injection hx with _ hr
            subst hr
            exact hno _ rfl
/-- What bytes without their seal say. -/
def parse (D : List Int) : Option (List Seen) := match rin 1 6 D with
  | none => none
  | some (n, r) => match decS n r with
    | some (xs, []) => some xs
    | _ => none
theorem rdNew_at (b : Sl Int) : RdAt (rdNew b) b.D b.D := ⟨rfl, rfl, rfl, List.suffix_refl _, by show (0 : Int) = _; omega⟩
theorem pRead_parse (b : Sl Int) (hB : B8 b.D) (hl : b.D.length ≤ 1000000) :
    (∀ xs, parse b.D = some xs → ∃ ys : List Seen, ys.map rd = xs.map rd ∧ KB ys ∧ pRead_l0 (rdIn (rdNew b) 1 6).2.toNat 0 [] (rdIn (rdNew b) 1 6).1 = pfin ys) ∧ (parse b.D = none → pRead_l0 (rdIn (rdNew b) 1 6).2.toNat 0 [] (rdIn (rdNew b) 1 6).1 = badR) := by
  have h1 := rdIn_at 1 6 (rdNew_at b) hB hl
  unfold parse
  cases e1 : rin 1 6 b.D with
  | none =>
    rw [e1] at h1
    exact ⟨fun xs hx => (by cases hx), fun _ => pRead_l0_err _ _ _ _ h1⟩
  | some q =>
    obtain ⟨n, r⟩ := q
    rw [e1] at h1
    dsimp only at h1 ⊢
    rw [h1.2, Int.toNat_natCast]
    obtain ⟨i1, i2⟩ := pRead_l0_at hB hl n 0 [] _ r h1.1
    cases e2 : decS n r with
    | none =>
      rw [e2] at i2
      exact ⟨fun xs hx => (by cases hx), fun _ => i2 fun xs hx => (by cases hx)⟩
    | some q =>
      obtain ⟨zs, r3⟩ := q
      rw [e2] at i1 i2
      cases r3 with
      | nil =>
        refine ⟨fun xs hx => ?_, fun hx => (by cases hx)⟩
        injection hx with hx
        subst hx
        exact i1 zs rfl
      | cons y ys => exact ⟨fun xs hx => (by cases hx), fun _ => i2 fun xs hx => (by injection hx with hx; injection hx with _ hx; cases hx)⟩
end Go.Proofs.YthnghkkbnhjlgaaDoor
