import Derived.Test.YthnghkkbnhjlgaaDoorM1
import Derived.Test.YthnghkkbnhjlgaaDoorM2
import Derived.Test.YthnghkkbnhjlgaaDoorM3
import Derived.Test.YthnghkkbnhjlgaaDoorM4
/- What was seen as bytes, in a row of one's own; its seal. No conditions. -/
namespace Go.Proofs.YthnghkkbnhjlgaaDoor
open Go.Am
def bodyO_l0 : List Seen → Nat → (List Int) → List Int
  | [], _, b => b
  | x :: xs, i, b => bodyO_l0 xs (i + 1) (wPut2O (Sl.mk false b) (word x.key) (IntKind.u64.wrap x.ver))
def bodyO (l : (Sl Seen)) : List Int :=
  bodyO_l0 l.D 0 (wPutO (Sl.mk true []) (IntKind.u64.wrap (l.D.length : Int)))
theorem bodyO_calls (l : (Sl Seen)) (hl1 : l.D.length ≤ 1000) : OCalls Tryd.prog 33 [sS (some l.nil) eSeen l.D] (.sl 0 0 (bodyO l).length 1 false) (.cells (encC (eI .u8) (bodyO l))) := by
 generalize hR : bodyO l = R
 refine OCalls.of_body tabOk Tryd.func33 rfl rfl rfl rfl rfl (encC_within _ _) mixed fun E hP C hI => ?_
 refine Awp.consP C ?_
 refine rvP C (sS (some true) (eI .u8) []) ?_
 refine rvc_nil ?_
 refine Awp.cons C (fun _ => .quiet) (by kernel_rfl) ?_
 refine rvP C (sS (some l.nil) eSeen l.D) ?_
 refine rvP C (.pv (.lit (.int .i64 (l.D.length : Int)))) ?_
 refine rvP C (.pv (.lit (.int .u64 (IntKind.u64.wrap (l.D.length : Int))))) ?_
 refine rvc_un (rexec_buildSliceF C (eI .u64) [(IntKind.u64.wrap (l.D.length : Int))] rfl rfl rfl rfl rfl rfl rfl (by decide) rfl ?_)
 refine rvc_un (rexec_callO hP C rfl rfl rfl rfl (wPutO_calls (Sl.mk true []) (IntKind.u64.wrap (l.D.length : Int)) (wrap_lt64 _) (by simp)) ?_)
 refine rvP C (.sl 10 0 ((wPutO (Sl.mk true []) (IntKind.u64.wrap (l.D.length : Int))).length) 1 false) ?_
 refine rvc_nil ?_
 refine Awp.seq ?_
 refine Awp.consP C ?_
 refine rvP C (sS (some l.nil) eSeen l.D) ?_
 refine rvP C (.pv (.lit (.int .i64 (l.D.length : Int)))) ?_
 refine rvP C (.pv (.lit (.int .i64 0))) ?_
 refine rvc_nil ?_
 refine Awp.block ?_
 refine Awp.forR (σ := ((List Int))) (l.D.length) (fun i v => [(3, .sl 900 0 v.length 1 false), (11, sS (some l.nil) eSeen l.D), (12, .pv (.lit (.int .i64 (l.D.length : Int)))), (13, .pv (.lit (.int .i64 (i : Int))))]) (fun i v => [(900, .cells (encC (eI .u8) v))]) [900] (fun i v => (bodyO_l0 (l.D.drop i) i v = R) ∧ (v.length ≤ (wPutO (Sl.mk true []) (IntKind.u64.wrap (l.D.length : Int))).length + i * 20)) (wPutO (Sl.mk true []) (IntKind.u64.wrap (l.D.length : Int))) ?_ ?_ (fun i b h1 hR => ?_)
 · exact ⟨hR, (by first | (simp only [Nat.zero_mul, Nat.add_zero, Nat.le_refl]; done) | (have := wPut2O_len (Sl.mk false b) (word x.key) (IntKind.u64.wrap x.ver) ⟨word_ok _, wrap_nn64 _, wrap_lt64 _⟩; dsimp only at this; omega) | omega)⟩
 · exact ⟨fun b => bif b == 900 then 10 else (fun b => b) b, WeakerR.ofL (Ks := [900]) hI ⟨⟨rfl, rfl⟩, ⟨rfl, rfl⟩, ⟨rfl, rfl⟩, ⟨rfl, rfl⟩, trivial⟩ (okH_list rfl rfl rfl (okH_nil)) rfl⟩
 obtain ⟨hR, hi_b⟩ := hR
 replace hi_b : b.length ≤ (wPutO (Sl.mk true []) (IntKind.u64.wrap (l.D.length : Int))).length + i * 20 := hi_b
 have hw0_ := wPutO_len (Sl.mk true []) (IntKind.u64.wrap (l.D.length : Int)) ⟨wrap_nn64 _, wrap_lt64 _⟩
 dsimp only [List.length_nil] at hw0_
 refine Awp.consP C ?_
 refine rvP C (.pv (.lit (.bool (decide ((i : Int) < (l.D.length : Int)))))) ?_
 refine rvc_nil ?_
 refine Awp.seq ?_
 refine Awp.cond (b := (decide ((i : Int) < (l.D.length : Int)))) rfl (fun h2 => ?_) (fun h2 => ?_)
 ·
  have h3 : i < l.D.length := by have := of_decide_eq_true h2; omega
  obtain ⟨x, h4⟩ := getX h3
  rw [drop_at h4] at hR
  refine Awp.skip ?_
  refine Awp.seq ?_
  refine Awp.block ?_
  refine Awp.consP C ?_
  refine rvc_un (rexec_idxS C rfl rfl rfl rfl rfl rfl x (Int.natCast_nonneg _) h4 ?_)
  refine rvP C (.agg [.pv (.lit (.int .u8 (x.key 0))), .pv (.lit (.int .u8 (x.key 1))), .pv (.lit (.int .u8 (x.key 2))), .pv (.lit (.int .u8 (x.key 3))), .pv (.lit (.int .u8 (x.key 4))), .pv (.lit (.int .u8 (x.key 5))), .pv (.lit (.int .u8 (x.key 6))), .pv (.lit (.int .u8 (x.key 7))), .pv (.lit (.int .i64 x.ver))]) ?_
  refine rvc_un (rexec_prim C (δ := { v := .ptr 5 0, new := [(5, .cells [.pv (.lit (.int .u8 0)), .pv (.lit (.int .u8 0)), .pv (.lit (.int .u8 0)), .pv (.lit (.int .u8 0)), .pv (.lit (.int .u8 0)), .pv (.lit (.int .u8 0)), .pv (.lit (.int .u8 0)), .pv (.lit (.int .u8 0)), .pv (.lit (.int .i64 0))])] }) rfl rfl rfl rfl trivial rfl ?_)
  refine rvc_un (rexec_prim C (δ := { v := .undef, wr := [(5, some (.cells [.pv (.lit (.int .u8 (x.key 0))), .pv (.lit (.int .u8 (x.key 1))), .pv (.lit (.int .u8 (x.key 2))), .pv (.lit (.int .u8 (x.key 3))), .pv (.lit (.int .u8 (x.key 4))), .pv (.lit (.int .u8 (x.key 5))), .pv (.lit (.int .u8 (x.key 6))), .pv (.lit (.int .u8 (x.key 7))), .pv (.lit (.int .i64 x.ver))]))] }) rfl rfl rfl rfl trivial rfl ?_)
  refine rvc_nil ?_
  refine Awp.freezeW 900 (encL (eI .u8) b) ?_ [(3, sS (some false) (eI .u8) b), (5, .ptr 5 0), (11, sS (some l.nil) eSeen l.D), (12, .pv (.lit (.int .i64 (l.D.length : Int)))), (13, .pv (.lit (.int .i64 (i : Int))))] [(5, .cells [.pv (.lit (.int .u8 (x.key 0))), .pv (.lit (.int .u8 (x.key 1))), .pv (.lit (.int .u8 (x.key 2))), .pv (.lit (.int .u8 (x.key 3))), .pv (.lit (.int .u8 (x.key 4))), .pv (.lit (.int .u8 (x.key 5))), .pv (.lit (.int .u8 (x.key 6))), .pv (.lit (.int .u8 (x.key 7))), .pv (.lit (.int .i64 x.ver))])] ?_ ?_ ?_
  · rfl
  · exact ⟨⟨_, rfl, .inl (.inr ⟨_, _, _, rfl, rfl⟩)⟩, ⟨_, rfl, .inl (.inl rfl)⟩, ⟨_, rfl, .inl (.inl rfl)⟩, ⟨_, rfl, .inl (.inl rfl)⟩, ⟨_, rfl, .inl (.inl rfl)⟩, trivial⟩
  · exact ⟨⟨(by show (5 : Nat) ≠ 900; decide), .inl rfl⟩, trivial⟩
  refine Awp.region C (fun _ => .quiet) (by kernel_rfl) ?_
  refine rvP C (sS (some false) (eI .u8) b) ?_
  refine rvP C (.ptr 5 0) ?_
  refine rvP C (.agg [.pv (.lit (.int .u8 (x.key 0))), .pv (.lit (.int .u8 (x.key 1))), .pv (.lit (.int .u8 (x.key 2))), .pv (.lit (.int .u8 (x.key 3))), .pv (.lit (.int .u8 (x.key 4))), .pv (.lit (.int .u8 (x.key 5))), .pv (.lit (.int .u8 (x.key 6))), .pv (.lit (.int .u8 (x.key 7)))]) ?_
  refine rvc_un (rexec_call hP C rfl rfl rfl (word_calls x.key) ?_)
  refine rvP C (.ptr 5 8) ?_
  refine rvP C (.pv (.lit (.int .i64 x.ver))) ?_
  refine rvP C (.pv (.lit (.int .u64 (IntKind.u64.wrap x.ver)))) ?_
  refine rvc_un (rexec_buildSliceF C (eI .u64) [(word x.key), (IntKind.u64.wrap x.ver)] rfl rfl rfl rfl rfl rfl rfl (by decide) rfl ?_)
  refine rvc_un (rexec_callO hP C rfl rfl rfl rfl (wPut2O_calls (Sl.mk false b) (word x.key) (IntKind.u64.wrap x.ver) (word_ok _).2 (wrap_lt64 _) (by show b.length ≤ 1000000; omega)) ?_)
  refine rvP C (.sl 25 0 ((wPut2O (Sl.mk false b) (word x.key) (IntKind.u64.wrap x.ver)).length) 1 false) ?_
  refine rvc_nil ?_
  refine Awp.regionP C ?_
  refine rvP C (.pv (.lit (.int .i64 (IntKind.i64.wrap ((i : Int) + 1))))) ?_
  refine rvP C (.pv (.lit (.int .i64 (IntKind.i64.wrap ((i : Int) + 1))))) ?_
  refine rvc_nil ?_
  refine ⟨h3, (wPut2O (Sl.mk false b) (word x.key) (IntKind.u64.wrap x.ver)), ?_, ?_⟩
  · exact ⟨hR, (by first | (simp only [Nat.zero_mul, Nat.add_zero, Nat.le_refl]; done) | (have := wPut2O_len (Sl.mk false b) (word x.key) (IntKind.u64.wrap x.ver) ⟨word_ok _, wrap_nn64 _, wrap_lt64 _⟩; dsimp only at this; omega) | omega)⟩
  · exact ⟨fun b => bif b == 900 then 25 else (fun b => b) b, WeakerR.ofL (Ks := [900]) hI ⟨⟨rfl, rfl⟩, ⟨rfl, rfl⟩, ⟨rfl, rfl⟩, ⟨lit_cast (wrap_i64 (by omega) (by omega)), rfl⟩, trivial⟩ (okH_list rfl rfl rfl (okH_nil)) rfl⟩
 ·
  have h3 : ¬ i < l.D.length := by have := of_decide_eq_false h2; omega
  rw [drop_end h3] at hR
  refine Awp.exit ?_
  refine Awp.consP C ?_
  refine rvP C (.sl 900 0 b.length 1 false) ?_
  refine rvP C (.sl 900 0 b.length 1 false) ?_
  refine rvc_nil ?_
  refine Awp.weakenR (S := [(2, .sl 0 0 b.length 1 false)]) (H := [(0, .cells (encC (eI .u8) b))]) (U := [0]) (fun x => bif x == 0 then 900 else x) (WeakerR.ofL (Ks := [0]) hI ⟨⟨rfl, rfl⟩, trivial⟩ (okH_list rfl rfl rfl okH_nil) rfl) ?_
  refine Awp.ret ?_
  subst hR
  exact ⟨.inl rfl, rfl, rfl⟩
def markR (key : (Sl Int)) (b : (Sl Int)) : (Sl Int) × Int :=
  ((Sl.mk false ((((((([(IntKind.u8.wrap (shrI .u64 ((tShort key (Sl.mk false b.D)).1) 56))] ++ [(IntKind.u8.wrap (shrI .u64 ((tShort key (Sl.mk false b.D)).1) 48))]) ++ [(IntKind.u8.wrap (shrI .u64 ((tShort key (Sl.mk false b.D)).1) 40))]) ++ [(IntKind.u8.wrap (shrI .u64 ((tShort key (Sl.mk false b.D)).1) 32))]) ++ [(IntKind.u8.wrap (shrI .u64 ((tShort key (Sl.mk false b.D)).1) 24))]) ++ [(IntKind.u8.wrap (shrI .u64 ((tShort key (Sl.mk false b.D)).1) 16))]) ++ [(IntKind.u8.wrap (shrI .u64 ((tShort key (Sl.mk false b.D)).1) 8))]) ++ [(IntKind.u8.wrap (shrI .u64 ((tShort key (Sl.mk false b.D)).1) 0))])), (tShort key (Sl.mk false b.D)).2)
theorem markR_calls (key : (Sl Int)) (b : (Sl Int)) (n_ : Nat) (tt_ : Bool) (hn_ : n_ = b.D.length) (hl1 : b.D.length ≤ 1000000) : MCalls Tryd.prog 34 [sS (some key.nil) (eI .u8) key.D, .sl 0 0 n_ 1 tt_] (.cells (encC (eI .u8) b.D)) (.tup [sS (some (markR key b).1.nil) (eI .u8) ((markR key b).1.D), .pv (.lit (.int .i64 ((markR key b).2)))]) (.cells (encC (eI .u8) b.D)) := by
 generalize hR : markR key b = R
 subst hn_
 refine MCalls.of_body tabOk Tryd.func34 rfl rfl rfl rfl rfl (encC_within _ _) (encC_within _ _) mixed fun E hP C hI => ?_
 refine Awp.consP C ?_
 refine rvP C (sS (some true) (eI .u8) []) ?_
 refine rvP C (.pv (.lit (.int .i64 0))) ?_
 refine rvc_nil ?_
 refine Awp.cons C (fun _ => .writer) (by kernel_rfl) ?_
 refine rvP C (sS (some key.nil) (eI .u8) key.D) ?_
 refine rvP C (.sl 0 0 b.D.length 1 tt_) ?_
 refine rvc_un (rexec_callM hP C (b := 0) rfl rfl rfl (tShortR_calls key (Sl.mk false b.D) b.D.length tt_ rfl hl1) rfl rfl ?_)
 refine rvP C (.tup [.pv (.lit (.int .u64 ((tShort key (Sl.mk false b.D)).1))), .pv (.lit (.int .i64 ((tShort key (Sl.mk false b.D)).2)))]) ?_
 refine rvP C (.pv (.lit (.int .u64 ((tShort key (Sl.mk false b.D)).1)))) ?_
 refine rvP C (.pv (.lit (.int .i64 ((tShort key (Sl.mk false b.D)).2)))) ?_
 refine rvP C (.pv (.lit (.int .u64 ((tShort key (Sl.mk false b.D)).1)))) ?_
 refine rvP C (.pv (.lit (.int .i64 ((tShort key (Sl.mk false b.D)).2)))) ?_
 refine rvc_nil ?_
 refine Awp.consP C ?_
 refine rvP C (sS (some true) (eI .u8) []) ?_
 refine rvc_nil ?_
 refine Awp.seq ?_
 refine Awp.consP C ?_
 refine rvP C (.pv (.lit (.int .i64 56))) ?_
 refine rvc_nil ?_
 refine Awp.block ?_
 refine Awp.rounds 9 ?_
 refine Arounds.succ ?_
 refine Awp.seq ?_
 refine Awp.consP C ?_
 refine rvP C (.pv (.lit (.int .i64 56))) ?_
 refine rvP C (.pv (.lit (.bool true))) ?_
 refine rvc_nil ?_
 refine Awp.condT (b := true) rfl rfl ?_
 refine Awp.skip ?_
 refine Awp.seq ?_
 refine Awp.block ?_
 refine Awp.regionP C ?_
 refine rvP C (sS (some true) (eI .u8) []) ?_
 refine rvP C (.pv (.lit (.int .u64 ((tShort key (Sl.mk false b.D)).1)))) ?_
 refine rvP C (.pv (.lit (.int .i64 56))) ?_
 refine rvc_un (rexec_prim C (δ := { v := .pv (.lit (.int .u64 (shrI .u64 ((tShort key (Sl.mk false b.D)).1) 56))) }) rfl rfl rfl rfl (by first | decide | assumption | omega) rfl ?_)
 refine rvP C (.pv (.lit (.int .u8 (IntKind.u8.wrap (shrI .u64 ((tShort key (Sl.mk false b.D)).1) 56))))) ?_
 refine rvc_un (rexec_buildSliceF C (eI .u8) [(IntKind.u8.wrap (shrI .u64 ((tShort key (Sl.mk false b.D)).1) 56))] rfl rfl rfl rfl rfl rfl rfl (by decide) rfl ?_)
 refine rvc_un (rexec_appendN C rfl rfl rfl rfl rfl rfl rfl rfl (fun _ h => by cases h) rfl (en := (eI .u8)) (D := [(IntKind.u8.wrap (shrI .u64 ((tShort key (Sl.mk false b.D)).1) 56))]) rfl rfl (by simp) (by first | omega | (simp <;> omega)) (by decide) (nn := [(IntKind.u8.wrap (shrI .u64 ((tShort key (Sl.mk false b.D)).1) 56))].length) rfl ?_)
 refine rvP C (.sl 26 0 ([(IntKind.u8.wrap (shrI .u64 ((tShort key (Sl.mk false b.D)).1) 56))].length) 1 false) ?_
 refine rvc_nil ?_
 refine Awp.regionP C ?_
 refine rvP C (.pv (.lit (.int .i64 56))) ?_
 refine rvP C (.pv (.lit (.int .i64 48))) ?_
 refine rvP C (.pv (.lit (.int .i64 48))) ?_
 refine rvc_nil ?_
 refine Arounds.succ ?_
 refine Awp.weakenR (S := [(1, .sl 0 0 b.D.length 1 tt_), (6, .pv (.lit (.int .u64 ((tShort key (Sl.mk false b.D)).1)))), (7, .pv (.lit (.int .i64 ((tShort key (Sl.mk false b.D)).2)))), (8, .sl 70026 0 ([(IntKind.u8.wrap (shrI .u64 ((tShort key (Sl.mk false b.D)).1) 56))].length) 1 false), (9, .pv (.lit (.int .i64 48)))]) (H := [(0, .cells (encC (eI .u8) b.D)), (70026, .cells (encC (eI .u8) [(IntKind.u8.wrap (shrI .u64 ((tShort key (Sl.mk false b.D)).1) 56))]))]) (U := [0, 70026]) (fun x => bif x == 70026 then 26 else x) (WeakerR.ofLI (I := [0]) (Ks := [0, 70026]) hI ⟨⟨rfl, rfl⟩, ⟨rfl, rfl⟩, ⟨rfl, rfl⟩, ⟨rfl, rfl⟩, ⟨rfl, rfl⟩, trivial⟩ (okH_list rfl rfl rfl (okH_list rfl rfl rfl (okH_nil))) rfl rfl) ?_
 refine Awp.seq ?_
 refine Awp.consP C ?_
 refine rvP C (.pv (.lit (.int .i64 48))) ?_
 refine rvP C (.pv (.lit (.bool true))) ?_
 refine rvc_nil ?_
 refine Awp.condT (b := true) rfl rfl ?_
 refine Awp.skip ?_
 refine Awp.seq ?_
 refine Awp.block ?_
 refine Awp.regionP C ?_
 refine rvP C (.sl 70026 0 ([(IntKind.u8.wrap (shrI .u64 ((tShort key (Sl.mk false b.D)).1) 56))].length) 1 false) ?_
 refine rvP C (.pv (.lit (.int .u64 ((tShort key (Sl.mk false b.D)).1)))) ?_
 refine rvP C (.pv (.lit (.int .i64 48))) ?_
 refine rvc_un (rexec_prim C (δ := { v := .pv (.lit (.int .u64 (shrI .u64 ((tShort key (Sl.mk false b.D)).1) 48))) }) rfl rfl rfl rfl (by first | decide | assumption | omega) rfl ?_)
 refine rvP C (.pv (.lit (.int .u8 (IntKind.u8.wrap (shrI .u64 ((tShort key (Sl.mk false b.D)).1) 48))))) ?_
 refine rvc_un (rexec_buildSliceF C (eI .u8) [(IntKind.u8.wrap (shrI .u64 ((tShort key (Sl.mk false b.D)).1) 48))] rfl rfl rfl rfl rfl rfl rfl (by decide) rfl ?_)
 refine rvc_un (rexec_append C rfl rfl rfl rfl rfl rfl rfl rfl (fun _ h => by cases h) rfl (en := (eI .u8)) (D0 := [(IntKind.u8.wrap (shrI .u64 ((tShort key (Sl.mk false b.D)).1) 56))]) (D := [(IntKind.u8.wrap (shrI .u64 ((tShort key (Sl.mk false b.D)).1) 48))]) rfl rfl rfl rfl (by first | omega | (simp <;> omega)) (by decide) (nn := ([(IntKind.u8.wrap (shrI .u64 ((tShort key (Sl.mk false b.D)).1) 56))] ++ [(IntKind.u8.wrap (shrI .u64 ((tShort key (Sl.mk false b.D)).1) 48))]).length) (by simp) ?_)
 refine rvP C (.sl 26 0 (([(IntKind.u8.wrap (shrI .u64 ((tShort key (Sl.mk false b.D)).1) 56))] ++ [(IntKind.u8.wrap (shrI .u64 ((tShort key (Sl.mk false b.D)).1) 48))]).length) 1 false) ?_
 refine rvc_nil ?_
 refine Awp.regionP C ?_
 refine rvP C (.pv (.lit (.int .i64 48))) ?_
 refine rvP C (.pv (.lit (.int .i64 40))) ?_
 refine rvP C (.pv (.lit (.int .i64 40))) ?_
 refine rvc_nil ?_
 refine Arounds.succ ?_
 refine Awp.weakenR (S := [(1, .sl 0 0 b.D.length 1 tt_), (6, .pv (.lit (.int .u64 ((tShort key (Sl.mk false b.D)).1)))), (7, .pv (.lit (.int .i64 ((tShort key (Sl.mk false b.D)).2)))), (8, .sl 70026 0 (([(IntKind.u8.wrap (shrI .u64 ((tShort key (Sl.mk false b.D)).1) 56))] ++ [(IntKind.u8.wrap (shrI .u64 ((tShort key (Sl.mk false b.D)).1) 48))]).length) 1 false), (9, .pv (.lit (.int .i64 40)))]) (H := [(0, .cells (encC (eI .u8) b.D)), (70026, .cells (encC (eI .u8) ([(IntKind.u8.wrap (shrI .u64 ((tShort key (Sl.mk false b.D)).1) 56))] ++ [(IntKind.u8.wrap (shrI .u64 ((tShort key (Sl.mk false b.D)).1) 48))])))]) (U := [0, 70026]) (fun x => bif x == 70026 then 26 else x) (WeakerR.ofLI (I := [0]) (Ks := [0, 70026]) hI ⟨⟨rfl, rfl⟩, ⟨rfl, rfl⟩, ⟨rfl, rfl⟩, ⟨rfl, rfl⟩, ⟨rfl, rfl⟩, trivial⟩ (okH_list rfl rfl rfl (okH_list rfl rfl rfl (okH_nil))) rfl rfl) ?_
 refine Awp.seq ?_
 refine Awp.consP C ?_
 refine rvP C (.pv (.lit (.int .i64 40))) ?_
 refine rvP C (.pv (.lit (.bool true))) ?_
 refine rvc_nil ?_
 refine Awp.condT (b := true) rfl rfl ?_
 refine Awp.skip ?_
 refine Awp.seq ?_
 refine Awp.block ?_
 refine Awp.regionP C ?_
 refine rvP C (.sl 70026 0 (([(IntKind.u8.wrap (shrI .u64 ((tShort key (Sl.mk false b.D)).1) 56))] ++ [(IntKind.u8.wrap (shrI .u64 ((tShort key (Sl.mk false b.D)).1) 48))]).length) 1 false) ?_
 refine rvP C (.pv (.lit (.int .u64 ((tShort key (Sl.mk false b.D)).1)))) ?_
 refine rvP C (.pv (.lit (.int .i64 40))) ?_
 refine rvc_un (rexec_prim C (δ := { v := .pv (.lit (.int .u64 (shrI .u64 ((tShort key (Sl.mk false b.D)).1) 40))) }) rfl rfl rfl rfl (by first | decide | assumption | omega) rfl ?_)
 refine rvP C (.pv (.lit (.int .u8 (IntKind.u8.wrap (shrI .u64 ((tShort key (Sl.mk false b.D)).1) 40))))) ?_
 refine rvc_un (rexec_buildSliceF C (eI .u8) [(IntKind.u8.wrap (shrI .u64 ((tShort key (Sl.mk false b.D)).1) 40))] rfl rfl rfl rfl rfl rfl rfl (by decide) rfl ?_)
 refine rvc_un (rexec_append C rfl rfl rfl rfl rfl rfl rfl rfl (fun _ h => by cases h) rfl (en := (eI .u8)) (D0 := ([(IntKind.u8.wrap (shrI .u64 ((tShort key (Sl.mk false b.D)).1) 56))] ++ [(IntKind.u8.wrap (shrI .u64 ((tShort key (Sl.mk false b.D)).1) 48))])) (D := [(IntKind.u8.wrap (shrI .u64 ((tShort key (Sl.mk false b.D)).1) 40))]) rfl rfl rfl rfl (by first | omega | (simp <;> omega)) (by decide) (nn := (([(IntKind.u8.wrap (shrI .u64 ((tShort key (Sl.mk false b.D)).1) 56))] ++ [(IntKind.u8.wrap (shrI .u64 ((tShort key (Sl.mk false b.D)).1) 48))]) ++ [(IntKind.u8.wrap (shrI .u64 ((tShort key (Sl.mk false b.D)).1) 40))]).length) (by simp) ?_)
 refine rvP C (.sl 26 0 ((([(IntKind.u8.wrap (shrI .u64 ((tShort key (Sl.mk false b.D)).1) 56))] ++ [(IntKind.u8.wrap (shrI .u64 ((tShort key (Sl.mk false b.D)).1) 48))]) ++ [(IntKind.u8.wrap (shrI .u64 ((tShort key (Sl.mk false b.D)).1) 40))]).length) 1 false) ?_
 refine rvc_nil ?_
 refine Awp.regionP C ?_
 refine rvP C (.pv (.lit (.int .i64 40))) ?_
 refine rvP C (.pv (.lit (.int .i64 32))) ?_
 refine rvP C (.pv (.lit (.int .i64 32))) ?_
 refine rvc_nil ?_
 refine Arounds.succ ?_
 refine Awp.weakenR (S := [(1, .sl 0 0 b.D.length 1 tt_), (6, .pv (.lit (.int .u64 ((tShort key (Sl.mk false b.D)).1)))), (7, .pv (.lit (.int .i64 ((tShort key (Sl.mk false b.D)).2)))), (8, .sl 70026 0 ((([(IntKind.u8.wrap (shrI .u64 ((tShort key (Sl.mk false b.D)).1) 56))] ++ [(IntKind.u8.wrap (shrI .u64 ((tShort key (Sl.mk false b.D)).1) 48))]) ++ [(IntKind.u8.wrap (shrI .u64 ((tShort key (Sl.mk false b.D)).1) 40))]).length) 1 false), (9, .pv (.lit (.int .i64 32)))]) (H := [(0, .cells (encC (eI .u8) b.D)), (70026, .cells (encC (eI .u8) (([(IntKind.u8.wrap (shrI .u64 ((tShort key (Sl.mk false b.D)).1) 56))] ++ [(IntKind.u8.wrap (shrI .u64 ((tShort key (Sl.mk false b.D)).1) 48))]) ++ [(IntKind.u8.wrap (shrI .u64 ((tShort key (Sl.mk false b.D)).1) 40))])))]) (U := [0, 70026]) (fun x => bif x == 70026 then 26 else x) (WeakerR.ofLI (I := [0]) (Ks := [0, 70026]) hI ⟨⟨rfl, rfl⟩, ⟨rfl, rfl⟩, ⟨rfl, rfl⟩, ⟨rfl, rfl⟩, ⟨rfl, rfl⟩, trivial⟩ (okH_list rfl rfl rfl (okH_list rfl rfl rfl (okH_nil))) rfl rfl) ?_
 refine Awp.seq ?_
 refine Awp.consP C ?_
 refine rvP C (.pv (.lit (.int .i64 32))) ?_
 refine rvP C (.pv (.lit (.bool true))) ?_
 refine rvc_nil ?_
 refine Awp.condT (b := true) rfl rfl ?_
 refine Awp.skip ?_
 refine Awp.seq ?_
 refine Awp.block ?_
 refine Awp.regionP C ?_
 refine rvP C (.sl 70026 0 ((([(IntKind.u8.wrap (shrI .u64 ((tShort key (Sl.mk false b.D)).1) 56))] ++ [(IntKind.u8.wrap (shrI .u64 ((tShort key (Sl.mk false b.D)).1) 48))]) ++ [(IntKind.u8.wrap (shrI .u64 ((tShort key (Sl.mk false b.D)).1) 40))]).length) 1 false) ?_
 refine rvP C (.pv (.lit (.int .u64 ((tShort key (Sl.mk false b.D)).1)))) ?_
 refine rvP C (.pv (.lit (.int .i64 32))) ?_
 refine rvc_un (rexec_prim C (δ := { v := .pv (.lit (.int .u64 (shrI .u64 ((tShort key (Sl.mk false b.D)).1) 32))) }) rfl rfl rfl rfl (by first | decide | assumption | omega) rfl ?_)
 refine rvP C (.pv (.lit (.int .u8 (IntKind.u8.wrap (shrI .u64 ((tShort key (Sl.mk false b.D)).1) 32))))) ?_
 refine rvc_un (rexec_buildSliceF C (eI .u8) [(IntKind.u8.wrap (shrI .u64 ((tShort key (Sl.mk false b.D)).1) 32))] rfl rfl rfl rfl rfl rfl rfl (by decide) rfl ?_)
 refine rvc_un (rexec_append C rfl rfl rfl rfl rfl rfl rfl rfl (fun _ h => by cases h) rfl (en := (eI .u8)) (D0 := (([(IntKind.u8.wrap (shrI .u64 ((tShort key (Sl.mk false b.D)).1) 56))] ++ [(IntKind.u8.wrap (shrI .u64 ((tShort key (Sl.mk false b.D)).1) 48))]) ++ [(IntKind.u8.wrap (shrI .u64 ((tShort key (Sl.mk false b.D)).1) 40))])) (D := [(IntKind.u8.wrap (shrI .u64 ((tShort key (Sl.mk false b.D)).1) 32))]) rfl rfl rfl rfl (by first | omega | (simp <;> omega)) (by decide) (nn := ((([(IntKind.u8.wrap (shrI .u64 ((tShort key (Sl.mk false b.D)).1) 56))] ++ [(IntKind.u8.wrap (shrI .u64 ((tShort key (Sl.mk false b.D)).1) 48))]) ++ [(IntKind.u8.wrap (shrI .u64 ((tShort key (Sl.mk false b.D)).1) 40))]) ++ [(IntKind.u8.wrap (shrI .u64 ((tShort key (Sl.mk false b.D)).1) 32))]).length) (by simp) ?_)
 refine rvP C (.sl 26 0 (((([(IntKind.u8.wrap (shrI .u64 ((tShort key (Sl.mk false b.D)).1) 56))] ++ [(IntKind.u8.wrap (shrI .u64 ((tShort key (Sl.mk false b.D)).1) 48))]) ++ [(IntKind.u8.wrap (shrI .u64 ((tShort key (Sl.mk false b.D)).1) 40))]) ++ [(IntKind.u8.wrap (shrI .u64 ((tShort key (Sl.mk false b.D)).1) 32))]).length) 1 false) ?_
 refine rvc_nil ?_
 refine Awp.regionP C ?_
 refine rvP C (.pv (.lit (.int .i64 32))) ?_
 refine rvP C (.pv (.lit (.int .i64 24))) ?_
 refine rvP C (.pv (.lit (.int .i64 24))) ?_
 refine rvc_nil ?_
 refine Arounds.succ ?_
 refine Awp.weakenR (S := [(1, .sl 0 0 b.D.length 1 tt_), (6, .pv (.lit (.int .u64 ((tShort key (Sl.mk false b.D)).1)))), (7, .pv (.lit (.int .i64 ((tShort key (Sl.mk false b.D)).2)))), (8, .sl 70026 0 (((([(IntKind.u8.wrap (shrI .u64 ((tShort key (Sl.mk false b.D)).1) 56))] ++ [(IntKind.u8.wrap (shrI .u64 ((tShort key (Sl.mk false b.D)).1) 48))]) ++ [(IntKind.u8.wrap (shrI .u64 ((tShort key (Sl.mk false b.D)).1) 40))]) ++ [(IntKind.u8.wrap (shrI .u64 ((tShort key (Sl.mk false b.D)).1) 32))]).length) 1 false), (9, .pv (.lit (.int .i64 24)))]) (H := [(0, .cells (encC (eI .u8) b.D)), (70026, .cells (encC (eI .u8) ((([(IntKind.u8.wrap (shrI .u64 ((tShort key (Sl.mk false b.D)).1) 56))] ++ [(IntKind.u8.wrap (shrI .u64 ((tShort key (Sl.mk false b.D)).1) 48))]) ++ [(IntKind.u8.wrap (shrI .u64 ((tShort key (Sl.mk false b.D)).1) 40))]) ++ [(IntKind.u8.wrap (shrI .u64 ((tShort key (Sl.mk false b.D)).1) 32))])))]) (U := [0, 70026]) (fun x => bif x == 70026 then 26 else x) (WeakerR.ofLI (I := [0]) (Ks := [0, 70026]) hI ⟨⟨rfl, rfl⟩, ⟨rfl, rfl⟩, ⟨rfl, rfl⟩, ⟨rfl, rfl⟩, ⟨rfl, rfl⟩, trivial⟩ (okH_list rfl rfl rfl (okH_list rfl rfl rfl (okH_nil))) rfl rfl) ?_
 refine Awp.seq ?_
 refine Awp.consP C ?_
 refine rvP C (.pv (.lit (.int .i64 24))) ?_
 refine rvP C (.pv (.lit (.bool true))) ?_
 refine rvc_nil ?_
 refine Awp.condT (b := true) rfl rfl ?_
 refine Awp.skip ?_
 refine Awp.seq ?_
 refine Awp.block ?_
 refine Awp.regionP C ?_
 refine rvP C (.sl 70026 0 (((([(IntKind.u8.wrap (shrI .u64 ((tShort key (Sl.mk false b.D)).1) 56))] ++ [(IntKind.u8.wrap (shrI .u64 ((tShort key (Sl.mk false b.D)).1) 48))]) ++ [(IntKind.u8.wrap (shrI .u64 ((tShort key (Sl.mk false b.D)).1) 40))]) ++ [(IntKind.u8.wrap (shrI .u64 ((tShort key (Sl.mk false b.D)).1) 32))]).length) 1 false) ?_
 refine rvP C (.pv (.lit (.int .u64 ((tShort key (Sl.mk false b.D)).1)))) ?_
 refine rvP C (.pv (.lit (.int .i64 24))) ?_
 refine rvc_un (rexec_prim C (δ := { v := .pv (.lit (.int .u64 (shrI .u64 ((tShort key (Sl.mk false b.D)).1) 24))) }) rfl rfl rfl rfl (by first | decide | assumption | omega) rfl ?_)
 refine rvP C (.pv (.lit (.int .u8 (IntKind.u8.wrap (shrI .u64 ((tShort key (Sl.mk false b.D)).1) 24))))) ?_
 refine rvc_un (rexec_buildSliceF C (eI .u8) [(IntKind.u8.wrap (shrI .u64 ((tShort key (Sl.mk false b.D)).1) 24))] rfl rfl rfl rfl rfl rfl rfl (by decide) rfl ?_)
 refine rvc_un (rexec_append C rfl rfl rfl rfl rfl rfl rfl rfl (fun _ h => by cases h) rfl (en := (eI .u8)) (D0 := ((([(IntKind.u8.wrap (shrI .u64 ((tShort key (Sl.mk false b.D)).1) 56))] ++ [(IntKind.u8.wrap (shrI .u64 ((tShort key (Sl.mk false b.D)).1) 48))]) ++ [(IntKind.u8.wrap (shrI .u64 ((tShort key (Sl.mk false b.D)).1) 40))]) ++ [(IntKind.u8.wrap (shrI .u64 ((tShort key (Sl.mk false b.D)).1) 32))])) (D := [(IntKind.u8.wrap (shrI .u64 ((tShort key (Sl.mk false b.D)).1) 24))]) rfl rfl rfl rfl (by first | omega | (simp <;> omega)) (by decide) (nn := (((([(IntKind.u8.wrap (shrI .u64 ((tShort key (Sl.mk false b.D)).1) 56))] ++ [(IntKind.u8.wrap (shrI .u64 ((tShort key (Sl.mk false b.D)).1) 48))]) ++ [(IntKind.u8.wrap (shrI .u64 ((tShort key (Sl.mk false b.D)).1) 40))]) ++ [(IntKind.u8.wrap (shrI .u64 ((tShort key (Sl.mk false b.D)).1) 32))]) ++ [(IntKind.u8.wrap (shrI .u64 ((tShort key (Sl.mk false b.D)).1) 24))]).length) (by simp) ?_)
 refine rvP C (.sl 26 0 ((((([(IntKind.u8.wrap (shrI .u64 ((tShort key (Sl.mk false b.D)).1) 56))] ++ [(IntKind.u8.wrap (shrI .u64 ((tShort key (Sl.mk false b.D)).1) 48))]) ++ [(IntKind.u8.wrap (shrI .u64 ((tShort key (Sl.mk false b.D)).1) 40))]) ++ [(IntKind.u8.wrap (shrI .u64 ((tShort key (Sl.mk false b.D)).1) 32))]) ++ [(IntKind.u8.wrap (shrI .u64 ((tShort key (Sl.mk false b.D)).1) 24))]).length) 1 false) ?_
 refine rvc_nil ?_
 refine Awp.regionP C ?_
 refine rvP C (.pv (.lit (.int .i64 24))) ?_
 refine rvP C (.pv (.lit (.int .i64 16))) ?_
 refine rvP C (.pv (.lit (.int .i64 16))) ?_
 refine rvc_nil ?_
 refine Arounds.succ ?_
 refine Awp.weakenR (S := [(1, .sl 0 0 b.D.length 1 tt_), (6, .pv (.lit (.int .u64 ((tShort key (Sl.mk false b.D)).1)))), (7, .pv (.lit (.int .i64 ((tShort key (Sl.mk false b.D)).2)))), (8, .sl 70026 0 ((((([(IntKind.u8.wrap (shrI .u64 ((tShort key (Sl.mk false b.D)).1) 56))] ++ [(IntKind.u8.wrap (shrI .u64 ((tShort key (Sl.mk false b.D)).1) 48))]) ++ [(IntKind.u8.wrap (shrI .u64 ((tShort key (Sl.mk false b.D)).1) 40))]) ++ [(IntKind.u8.wrap (shrI .u64 ((tShort key (Sl.mk false b.D)).1) 32))]) ++ [(IntKind.u8.wrap (shrI .u64 ((tShort key (Sl.mk false b.D)).1) 24))]).length) 1 false), (9, .pv (.lit (.int .i64 16)))]) (H := [(0, .cells (encC (eI .u8) b.D)), (70026, .cells (encC (eI .u8) (((([(IntKind.u8.wrap (shrI .u64 ((tShort key (Sl.mk false b.D)).1) 56))] ++ [(IntKind.u8.wrap (shrI .u64 ((tShort key (Sl.mk false b.D)).1) 48))]) ++ [(IntKind.u8.wrap (shrI .u64 ((tShort key (Sl.mk false b.D)).1) 40))]) ++ [(IntKind.u8.wrap (shrI .u64 ((tShort key (Sl.mk false b.D)).1) 32))]) ++ [(IntKind.u8.wrap (shrI .u64 ((tShort key (Sl.mk false b.D)).1) 24))])))]) (U := [0, 70026]) (fun x => bif x == 70026 then 26 else x) (WeakerR.ofLI (I := [0]) (Ks := [0, 70026]) hI ⟨⟨rfl, rfl⟩, ⟨rfl, rfl⟩, ⟨rfl, rfl⟩, ⟨rfl, rfl⟩, ⟨rfl, rfl⟩, trivial⟩ (okH_list rfl rfl rfl (okH_list rfl rfl rfl (okH_nil))) rfl rfl) ?_
 refine Awp.seq ?_
 refine Awp.consP C ?_
 refine rvP C (.pv (.lit (.int .i64 16))) ?_
 refine rvP C (.pv (.lit (.bool true))) ?_
 refine rvc_nil ?_
 refine Awp.condT (b := true) rfl rfl ?_
 refine Awp.skip ?_
 refine Awp.seq ?_
 refine Awp.block ?_
 refine Awp.regionP C ?_
 refine rvP C (.sl 70026 0 ((((([(IntKind.u8.wrap (shrI .u64 ((tShort key (Sl.mk false b.D)).1) 56))] ++ [(IntKind.u8.wrap (shrI .u64 ((tShort key (Sl.mk false b.D)).1) 48))]) ++ [(IntKind.u8.wrap (shrI .u64 ((tShort key (Sl.mk false b.D)).1) 40))]) ++ [(IntKind.u8.wrap (shrI .u64 ((tShort key (Sl.mk false b.D)).1) 32))]) ++ [(IntKind.u8.wrap (shrI .u64 ((tShort key (Sl.mk false b.D)).1) 24))]).length) 1 false) ?_
 refine rvP C (.pv (.lit (.int .u64 ((tShort key (Sl.mk false b.D)).1)))) ?_
 refine rvP C (.pv (.lit (.int .i64 16))) ?_
 refine rvc_un (rexec_prim C (δ := { v := .pv (.lit (.int .u64 (shrI .u64 ((tShort key (Sl.mk false b.D)).1) 16))) }) rfl rfl rfl rfl (by first | decide | assumption | omega) rfl ?_)
 refine rvP C (.pv (.lit (.int .u8 (IntKind.u8.wrap (shrI .u64 ((tShort key (Sl.mk false b.D)).1) 16))))) ?_
 refine rvc_un (rexec_buildSliceF C (eI .u8) [(IntKind.u8.wrap (shrI .u64 ((tShort key (Sl.mk false b.D)).1) 16))] rfl rfl rfl rfl rfl rfl rfl (by decide) rfl ?_)
 refine rvc_un (rexec_append C rfl rfl rfl rfl rfl rfl rfl rfl (fun _ h => by cases h) rfl (en := (eI .u8)) (D0 := (((([(IntKind.u8.wrap (shrI .u64 ((tShort key (Sl.mk false b.D)).1) 56))] ++ [(IntKind.u8.wrap (shrI .u64 ((tShort key (Sl.mk false b.D)).1) 48))]) ++ [(IntKind.u8.wrap (shrI .u64 ((tShort key (Sl.mk false b.D)).1) 40))]) ++ [(IntKind.u8.wrap (shrI .u64 ((tShort key (Sl.mk false b.D)).1) 32))]) ++ [(IntKind.u8.wrap (shrI .u64 ((tShort key (Sl.mk false b.D)).1) 24))])) (D := [(IntKind.u8.wrap (shrI .u64 ((tShort key (Sl.mk false b.D)).1) 16))]) rfl rfl rfl rfl (by first | omega | (simp <;> omega)) (by decide) (nn := ((((([(IntKind.u8.wrap (shrI .u64 ((tShort key (Sl.mk false b.D)).1) 56))] ++ [(IntKind.u8.wrap (shrI .u64 ((tShort key (Sl.mk false b.D)).1) 48))]) ++ [(IntKind.u8.wrap (shrI .u64 ((tShort key (Sl.mk false b.D)).1) 40))]) ++ [(IntKind.u8.wrap (shrI .u64 ((tShort key (Sl.mk false b.D)).1) 32))]) ++ [(IntKind.u8.wrap (shrI .u64 ((tShort key (Sl.mk false b.D)).1) 24))]) ++ [(IntKind.u8.wrap (shrI .u64 ((tShort key (Sl.mk false b.D)).1) 16))]).length) (by simp) ?_)
 refine rvP C (.sl 26 0 (((((([(IntKind.u8.wrap (shrI .u64 ((tShort key (Sl.mk false b.D)).1) 56))] ++ [(IntKind.u8.wrap (shrI .u64 ((tShort key (Sl.mk false b.D)).1) 48))]) ++ [(IntKind.u8.wrap (shrI .u64 ((tShort key (Sl.mk false b.D)).1) 40))]) ++ [(IntKind.u8.wrap (shrI .u64 ((tShort key (Sl.mk false b.D)).1) 32))]) ++ [(IntKind.u8.wrap (shrI .u64 ((tShort key (Sl.mk false b.D)).1) 24))]) ++ [(IntKind.u8.wrap (shrI .u64 ((tShort key (Sl.mk false b.D)).1) 16))]).length) 1 false) ?_
 refine rvc_nil ?_
 refine Awp.regionP C ?_
 refine rvP C (.pv (.lit (.int .i64 16))) ?_
 refine rvP C (.pv (.lit (.int .i64 8))) ?_
 refine rvP C (.pv (.lit (.int .i64 8))) ?_
 refine rvc_nil ?_
 refine Arounds.succ ?_
 refine Awp.weakenR (S := [(1, .sl 0 0 b.D.length 1 tt_), (6, .pv (.lit (.int .u64 ((tShort key (Sl.mk false b.D)).1)))), (7, .pv (.lit (.int .i64 ((tShort key (Sl.mk false b.D)).2)))), (8, .sl 70026 0 (((((([(IntKind.u8.wrap (shrI .u64 ((tShort key (Sl.mk false b.D)).1) 56))] ++ [(IntKind.u8.wrap (shrI .u64 ((tShort key (Sl.mk false b.D)).1) 48))]) ++ [(IntKind.u8.wrap (shrI .u64 ((tShort key (Sl.mk false b.D)).1) 40))]) ++ [(IntKind.u8.wrap (shrI .u64 ((tShort key (Sl.mk false b.D)).1) 32))]) ++ [(IntKind.u8.wrap (shrI .u64 ((tShort key (Sl.mk false b.D)).1) 24))]) ++ [(IntKind.u8.wrap (shrI .u64 ((tShort key (Sl.mk false b.D)).1) 16))]).length) 1 false), (9, .pv (.lit (.int .i64 8)))]) (H := [(0, .cells (encC (eI .u8) b.D)), (70026, .cells (encC (eI .u8) ((((([(IntKind.u8.wrap (shrI .u64 ((tShort key (Sl.mk false b.D)).1) 56))] ++ [(IntKind.u8.wrap (shrI .u64 ((tShort key (Sl.mk false b.D)).1) 48))]) ++ [(IntKind.u8.wrap (shrI .u64 ((tShort key (Sl.mk false b.D)).1) 40))]) ++ [(IntKind.u8.wrap (shrI .u64 ((tShort key (Sl.mk false b.D)).1) 32))]) ++ [(IntKind.u8.wrap (shrI .u64 ((tShort key (Sl.mk false b.D)).1) 24))]) ++ [(IntKind.u8.wrap (shrI .u64 ((tShort key (Sl.mk false b.D)).1) 16))])))]) (U := [0, 70026]) (fun x => bif x == 70026 then 26 else x) (WeakerR.ofLI (I := [0]) (Ks := [0, 70026]) hI ⟨⟨rfl, rfl⟩, ⟨rfl, rfl⟩, ⟨rfl, rfl⟩, ⟨rfl, rfl⟩, ⟨rfl, rfl⟩, trivial⟩ (okH_list rfl rfl rfl (okH_list rfl rfl rfl (okH_nil))) rfl rfl) ?_
 refine Awp.seq ?_
 refine Awp.consP C ?_
 refine rvP C (.pv (.lit (.int .i64 8))) ?_
 refine rvP C (.pv (.lit (.bool true))) ?_
 refine rvc_nil ?_
 refine Awp.condT (b := true) rfl rfl ?_
 refine Awp.skip ?_
 refine Awp.seq ?_
 refine Awp.block ?_
 refine Awp.regionP C ?_
 refine rvP C (.sl 70026 0 (((((([(IntKind.u8.wrap (shrI .u64 ((tShort key (Sl.mk false b.D)).1) 56))] ++ [(IntKind.u8.wrap (shrI .u64 ((tShort key (Sl.mk false b.D)).1) 48))]) ++ [(IntKind.u8.wrap (shrI .u64 ((tShort key (Sl.mk false b.D)).1) 40))]) ++ [(IntKind.u8.wrap (shrI .u64 ((tShort key (Sl.mk false b.D)).1) 32))]) ++ [(IntKind.u8.wrap (shrI .u64 ((tShort key (Sl.mk false b.D)).1) 24))]) ++ [(IntKind.u8.wrap (shrI .u64 ((tShort key (Sl.mk false b.D)).1) 16))]).length) 1 false) ?_
 refine rvP C (.pv (.lit (.int .u64 ((tShort key (Sl.mk false b.D)).1)))) ?_
 refine rvP C (.pv (.lit (.int .i64 8))) ?_
 refine rvc_un (rexec_prim C (δ := { v := .pv (.lit (.int .u64 (shrI .u64 ((tShort key (Sl.mk false b.D)).1) 8))) }) rfl rfl rfl rfl (by first | decide | assumption | omega) rfl ?_)
 refine rvP C (.pv (.lit (.int .u8 (IntKind.u8.wrap (shrI .u64 ((tShort key (Sl.mk false b.D)).1) 8))))) ?_
 refine rvc_un (rexec_buildSliceF C (eI .u8) [(IntKind.u8.wrap (shrI .u64 ((tShort key (Sl.mk false b.D)).1) 8))] rfl rfl rfl rfl rfl rfl rfl (by decide) rfl ?_)
 refine rvc_un (rexec_append C rfl rfl rfl rfl rfl rfl rfl rfl (fun _ h => by cases h) rfl (en := (eI .u8)) (D0 := ((((([(IntKind.u8.wrap (shrI .u64 ((tShort key (Sl.mk false b.D)).1) 56))] ++ [(IntKind.u8.wrap (shrI .u64 ((tShort key (Sl.mk false b.D)).1) 48))]) ++ [(IntKind.u8.wrap (shrI .u64 ((tShort key (Sl.mk false b.D)).1) 40))]) ++ [(IntKind.u8.wrap (shrI .u64 ((tShort key (Sl.mk false b.D)).1) 32))]) ++ [(IntKind.u8.wrap (shrI .u64 ((tShort key (Sl.mk false b.D)).1) 24))]) ++ [(IntKind.u8.wrap (shrI .u64 ((tShort key (Sl.mk false b.D)).1) 16))])) (D := [(IntKind.u8.wrap (shrI .u64 ((tShort key (Sl.mk false b.D)).1) 8))]) rfl rfl rfl rfl (by first | omega | (simp <;> omega)) (by decide) (nn := (((((([(IntKind.u8.wrap (shrI .u64 ((tShort key (Sl.mk false b.D)).1) 56))] ++ [(IntKind.u8.wrap (shrI .u64 ((tShort key (Sl.mk false b.D)).1) 48))]) ++ [(IntKind.u8.wrap (shrI .u64 ((tShort key (Sl.mk false b.D)).1) 40))]) ++ [(IntKind.u8.wrap (shrI .u64 ((tShort key (Sl.mk false b.D)).1) 32))]) ++ [(IntKind.u8.wrap (shrI .u64 ((tShort key (Sl.mk false b.D)).1) 24))]) ++ [(IntKind.u8.wrap (shrI .u64 ((tShort key (Sl.mk false b.D)).1) 16))]) ++ [(IntKind.u8.wrap (shrI .u64 ((tShort key (Sl.mk false b.D)).1) 8))]).length) (by simp) ?_)
 refine rvP C (.sl 26 0 ((((((([(IntKind.u8.wrap (shrI .u64 ((tShort key (Sl.mk false b.D)).1) 56))] ++ [(IntKind.u8.wrap (shrI .u64 ((tShort key (Sl.mk false b.D)).1) 48))]) ++ [(IntKind.u8.wrap (shrI .u64 ((tShort key (Sl.mk false b.D)).1) 40))]) ++ [(IntKind.u8.wrap (shrI .u64 ((tShort key (Sl.mk false b.D)).1) 32))]) ++ [(IntKind.u8.wrap (shrI .u64 ((tShort key (Sl.mk false b.D)).1) 24))]) ++ [(IntKind.u8.wrap (shrI .u64 ((tShort key (Sl.mk false b.D)).1) 16))]) ++ [(IntKind.u8.wrap (shrI .u64 ((tShort key (Sl.mk false b.D)).1) 8))]).length) 1 false) ?_
 refine rvc_nil ?_
 refine Awp.regionP C ?_
 refine rvP C (.pv (.lit (.int .i64 8))) ?_
 refine rvP C (.pv (.lit (.int .i64 0))) ?_
 refine rvP C (.pv (.lit (.int .i64 0))) ?_
 refine rvc_nil ?_
 refine Arounds.succ ?_
 refine Awp.weakenR (S := [(1, .sl 0 0 b.D.length 1 tt_), (6, .pv (.lit (.int .u64 ((tShort key (Sl.mk false b.D)).1)))), (7, .pv (.lit (.int .i64 ((tShort key (Sl.mk false b.D)).2)))), (8, .sl 70026 0 ((((((([(IntKind.u8.wrap (shrI .u64 ((tShort key (Sl.mk false b.D)).1) 56))] ++ [(IntKind.u8.wrap (shrI .u64 ((tShort key (Sl.mk false b.D)).1) 48))]) ++ [(IntKind.u8.wrap (shrI .u64 ((tShort key (Sl.mk false b.D)).1) 40))]) ++ [(IntKind.u8.wrap (shrI .u64 ((tShort key (Sl.mk false b.D)).1) 32))]) ++ [(IntKind.u8.wrap (shrI .u64 ((tShort key (Sl.mk false b.D)).1) 24))]) ++ [(IntKind.u8.wrap (shrI .u64 ((tShort key (Sl.mk false b.D)).1) 16))]) ++ [(IntKind.u8.wrap (shrI .u64 ((tShort key (Sl.mk false b.D)).1) 8))]).length) 1 false), (9, .pv (.lit (.int .i64 0)))]) (H := [(0, .cells (encC (eI .u8) b.D)), (70026, .cells (encC (eI .u8) (((((([(IntKind.u8.wrap (shrI .u64 ((tShort key (Sl.mk false b.D)).1) 56))] ++ [(IntKind.u8.wrap (shrI .u64 ((tShort key (Sl.mk false b.D)).1) 48))]) ++ [(IntKind.u8.wrap (shrI .u64 ((tShort key (Sl.mk false b.D)).1) 40))]) ++ [(IntKind.u8.wrap (shrI .u64 ((tShort key (Sl.mk false b.D)).1) 32))]) ++ [(IntKind.u8.wrap (shrI .u64 ((tShort key (Sl.mk false b.D)).1) 24))]) ++ [(IntKind.u8.wrap (shrI .u64 ((tShort key (Sl.mk false b.D)).1) 16))]) ++ [(IntKind.u8.wrap (shrI .u64 ((tShort key (Sl.mk false b.D)).1) 8))])))]) (U := [0, 70026]) (fun x => bif x == 70026 then 26 else x) (WeakerR.ofLI (I := [0]) (Ks := [0, 70026]) hI ⟨⟨rfl, rfl⟩, ⟨rfl, rfl⟩, ⟨rfl, rfl⟩, ⟨rfl, rfl⟩, ⟨rfl, rfl⟩, trivial⟩ (okH_list rfl rfl rfl (okH_list rfl rfl rfl (okH_nil))) rfl rfl) ?_
 refine Awp.seq ?_
 refine Awp.consP C ?_
 refine rvP C (.pv (.lit (.int .i64 0))) ?_
 refine rvP C (.pv (.lit (.bool true))) ?_
 refine rvc_nil ?_
 refine Awp.condT (b := true) rfl rfl ?_
 refine Awp.skip ?_
 refine Awp.seq ?_
 refine Awp.block ?_
 refine Awp.regionP C ?_
 refine rvP C (.sl 70026 0 ((((((([(IntKind.u8.wrap (shrI .u64 ((tShort key (Sl.mk false b.D)).1) 56))] ++ [(IntKind.u8.wrap (shrI .u64 ((tShort key (Sl.mk false b.D)).1) 48))]) ++ [(IntKind.u8.wrap (shrI .u64 ((tShort key (Sl.mk false b.D)).1) 40))]) ++ [(IntKind.u8.wrap (shrI .u64 ((tShort key (Sl.mk false b.D)).1) 32))]) ++ [(IntKind.u8.wrap (shrI .u64 ((tShort key (Sl.mk false b.D)).1) 24))]) ++ [(IntKind.u8.wrap (shrI .u64 ((tShort key (Sl.mk false b.D)).1) 16))]) ++ [(IntKind.u8.wrap (shrI .u64 ((tShort key (Sl.mk false b.D)).1) 8))]).length) 1 false) ?_
 refine rvP C (.pv (.lit (.int .u64 ((tShort key (Sl.mk false b.D)).1)))) ?_
 refine rvP C (.pv (.lit (.int .i64 0))) ?_
 refine rvc_un (rexec_prim C (δ := { v := .pv (.lit (.int .u64 (shrI .u64 ((tShort key (Sl.mk false b.D)).1) 0))) }) rfl rfl rfl rfl (by first | decide | assumption | omega) rfl ?_)
 refine rvP C (.pv (.lit (.int .u8 (IntKind.u8.wrap (shrI .u64 ((tShort key (Sl.mk false b.D)).1) 0))))) ?_
 refine rvc_un (rexec_buildSliceF C (eI .u8) [(IntKind.u8.wrap (shrI .u64 ((tShort key (Sl.mk false b.D)).1) 0))] rfl rfl rfl rfl rfl rfl rfl (by decide) rfl ?_)
 refine rvc_un (rexec_append C rfl rfl rfl rfl rfl rfl rfl rfl (fun _ h => by cases h) rfl (en := (eI .u8)) (D0 := (((((([(IntKind.u8.wrap (shrI .u64 ((tShort key (Sl.mk false b.D)).1) 56))] ++ [(IntKind.u8.wrap (shrI .u64 ((tShort key (Sl.mk false b.D)).1) 48))]) ++ [(IntKind.u8.wrap (shrI .u64 ((tShort key (Sl.mk false b.D)).1) 40))]) ++ [(IntKind.u8.wrap (shrI .u64 ((tShort key (Sl.mk false b.D)).1) 32))]) ++ [(IntKind.u8.wrap (shrI .u64 ((tShort key (Sl.mk false b.D)).1) 24))]) ++ [(IntKind.u8.wrap (shrI .u64 ((tShort key (Sl.mk false b.D)).1) 16))]) ++ [(IntKind.u8.wrap (shrI .u64 ((tShort key (Sl.mk false b.D)).1) 8))])) (D := [(IntKind.u8.wrap (shrI .u64 ((tShort key (Sl.mk false b.D)).1) 0))]) rfl rfl rfl rfl (by first | omega | (simp <;> omega)) (by decide) (nn := ((((((([(IntKind.u8.wrap (shrI .u64 ((tShort key (Sl.mk false b.D)).1) 56))] ++ [(IntKind.u8.wrap (shrI .u64 ((tShort key (Sl.mk false b.D)).1) 48))]) ++ [(IntKind.u8.wrap (shrI .u64 ((tShort key (Sl.mk false b.D)).1) 40))]) ++ [(IntKind.u8.wrap (shrI .u64 ((tShort key (Sl.mk false b.D)).1) 32))]) ++ [(IntKind.u8.wrap (shrI .u64 ((tShort key (Sl.mk false b.D)).1) 24))]) ++ [(IntKind.u8.wrap (shrI .u64 ((tShort key (Sl.mk false b.D)).1) 16))]) ++ [(IntKind.u8.wrap (shrI .u64 ((tShort key (Sl.mk false b.D)).1) 8))]) ++ [(IntKind.u8.wrap (shrI .u64 ((tShort key (Sl.mk false b.D)).1) 0))]).length) (by simp) ?_)
 refine rvP C (.sl 26 0 (((((((([(IntKind.u8.wrap (shrI .u64 ((tShort key (Sl.mk false b.D)).1) 56))] ++ [(IntKind.u8.wrap (shrI .u64 ((tShort key (Sl.mk false b.D)).1) 48))]) ++ [(IntKind.u8.wrap (shrI .u64 ((tShort key (Sl.mk false b.D)).1) 40))]) ++ [(IntKind.u8.wrap (shrI .u64 ((tShort key (Sl.mk false b.D)).1) 32))]) ++ [(IntKind.u8.wrap (shrI .u64 ((tShort key (Sl.mk false b.D)).1) 24))]) ++ [(IntKind.u8.wrap (shrI .u64 ((tShort key (Sl.mk false b.D)).1) 16))]) ++ [(IntKind.u8.wrap (shrI .u64 ((tShort key (Sl.mk false b.D)).1) 8))]) ++ [(IntKind.u8.wrap (shrI .u64 ((tShort key (Sl.mk false b.D)).1) 0))]).length) 1 false) ?_
 refine rvc_nil ?_
 refine Awp.regionP C ?_
 refine rvP C (.pv (.lit (.int .i64 0))) ?_
 refine rvP C (.pv (.lit (.int .i64 (-8)))) ?_
 refine rvP C (.pv (.lit (.int .i64 (-8)))) ?_
 refine rvc_nil ?_
 refine Arounds.succ ?_
 refine Awp.weakenR (S := [(1, .sl 0 0 b.D.length 1 tt_), (6, .pv (.lit (.int .u64 ((tShort key (Sl.mk false b.D)).1)))), (7, .pv (.lit (.int .i64 ((tShort key (Sl.mk false b.D)).2)))), (8, .sl 70026 0 (((((((([(IntKind.u8.wrap (shrI .u64 ((tShort key (Sl.mk false b.D)).1) 56))] ++ [(IntKind.u8.wrap (shrI .u64 ((tShort key (Sl.mk false b.D)).1) 48))]) ++ [(IntKind.u8.wrap (shrI .u64 ((tShort key (Sl.mk false b.D)).1) 40))]) ++ [(IntKind.u8.wrap (shrI .u64 ((tShort key (Sl.mk false b.D)).1) 32))]) ++ [(IntKind.u8.wrap (shrI .u64 ((tShort key (Sl.mk false b.D)).1) 24))]) ++ [(IntKind.u8.wrap (shrI .u64 ((tShort key (Sl.mk false b.D)).1) 16))]) ++ [(IntKind.u8.wrap (shrI .u64 ((tShort key (Sl.mk false b.D)).1) 8))]) ++ [(IntKind.u8.wrap (shrI .u64 ((tShort key (Sl.mk false b.D)).1) 0))]).length) 1 false), (9, .pv (.lit (.int .i64 (-8))))]) (H := [(0, .cells (encC (eI .u8) b.D)), (70026, .cells (encC (eI .u8) ((((((([(IntKind.u8.wrap (shrI .u64 ((tShort key (Sl.mk false b.D)).1) 56))] ++ [(IntKind.u8.wrap (shrI .u64 ((tShort key (Sl.mk false b.D)).1) 48))]) ++ [(IntKind.u8.wrap (shrI .u64 ((tShort key (Sl.mk false b.D)).1) 40))]) ++ [(IntKind.u8.wrap (shrI .u64 ((tShort key (Sl.mk false b.D)).1) 32))]) ++ [(IntKind.u8.wrap (shrI .u64 ((tShort key (Sl.mk false b.D)).1) 24))]) ++ [(IntKind.u8.wrap (shrI .u64 ((tShort key (Sl.mk false b.D)).1) 16))]) ++ [(IntKind.u8.wrap (shrI .u64 ((tShort key (Sl.mk false b.D)).1) 8))]) ++ [(IntKind.u8.wrap (shrI .u64 ((tShort key (Sl.mk false b.D)).1) 0))])))]) (U := [0, 70026]) (fun x => bif x == 70026 then 26 else x) (WeakerR.ofLI (I := [0]) (Ks := [0, 70026]) hI ⟨⟨rfl, rfl⟩, ⟨rfl, rfl⟩, ⟨rfl, rfl⟩, ⟨rfl, rfl⟩, ⟨rfl, rfl⟩, trivial⟩ (okH_list rfl rfl rfl (okH_list rfl rfl rfl (okH_nil))) rfl rfl) ?_
 refine Awp.seq ?_
 refine Awp.consP C ?_
 refine rvP C (.pv (.lit (.int .i64 (-8)))) ?_
 refine rvP C (.pv (.lit (.bool false))) ?_
 refine rvc_nil ?_
 refine Awp.condF (b := false) rfl rfl ?_
 refine Awp.exit ?_
 refine Awp.consP C ?_
 refine rvP C (.sl 70026 0 (((((((([(IntKind.u8.wrap (shrI .u64 ((tShort key (Sl.mk false b.D)).1) 56))] ++ [(IntKind.u8.wrap (shrI .u64 ((tShort key (Sl.mk false b.D)).1) 48))]) ++ [(IntKind.u8.wrap (shrI .u64 ((tShort key (Sl.mk false b.D)).1) 40))]) ++ [(IntKind.u8.wrap (shrI .u64 ((tShort key (Sl.mk false b.D)).1) 32))]) ++ [(IntKind.u8.wrap (shrI .u64 ((tShort key (Sl.mk false b.D)).1) 24))]) ++ [(IntKind.u8.wrap (shrI .u64 ((tShort key (Sl.mk false b.D)).1) 16))]) ++ [(IntKind.u8.wrap (shrI .u64 ((tShort key (Sl.mk false b.D)).1) 8))]) ++ [(IntKind.u8.wrap (shrI .u64 ((tShort key (Sl.mk false b.D)).1) 0))]).length) 1 false) ?_
 refine rvP C (.pv (.lit (.int .i64 ((tShort key (Sl.mk false b.D)).2)))) ?_
 refine rvP C (.sl 70026 0 (((((((([(IntKind.u8.wrap (shrI .u64 ((tShort key (Sl.mk false b.D)).1) 56))] ++ [(IntKind.u8.wrap (shrI .u64 ((tShort key (Sl.mk false b.D)).1) 48))]) ++ [(IntKind.u8.wrap (shrI .u64 ((tShort key (Sl.mk false b.D)).1) 40))]) ++ [(IntKind.u8.wrap (shrI .u64 ((tShort key (Sl.mk false b.D)).1) 32))]) ++ [(IntKind.u8.wrap (shrI .u64 ((tShort key (Sl.mk false b.D)).1) 24))]) ++ [(IntKind.u8.wrap (shrI .u64 ((tShort key (Sl.mk false b.D)).1) 16))]) ++ [(IntKind.u8.wrap (shrI .u64 ((tShort key (Sl.mk false b.D)).1) 8))]) ++ [(IntKind.u8.wrap (shrI .u64 ((tShort key (Sl.mk false b.D)).1) 0))]).length) 1 false) ?_
 refine rvP C (.pv (.lit (.int .i64 ((tShort key (Sl.mk false b.D)).2)))) ?_
 refine rvc_nil ?_
 refine Awp.freezeW 70026 (encL (eI .u8) ((((((([(IntKind.u8.wrap (shrI .u64 ((tShort key (Sl.mk false b.D)).1) 56))] ++ [(IntKind.u8.wrap (shrI .u64 ((tShort key (Sl.mk false b.D)).1) 48))]) ++ [(IntKind.u8.wrap (shrI .u64 ((tShort key (Sl.mk false b.D)).1) 40))]) ++ [(IntKind.u8.wrap (shrI .u64 ((tShort key (Sl.mk false b.D)).1) 32))]) ++ [(IntKind.u8.wrap (shrI .u64 ((tShort key (Sl.mk false b.D)).1) 24))]) ++ [(IntKind.u8.wrap (shrI .u64 ((tShort key (Sl.mk false b.D)).1) 16))]) ++ [(IntKind.u8.wrap (shrI .u64 ((tShort key (Sl.mk false b.D)).1) 8))]) ++ [(IntKind.u8.wrap (shrI .u64 ((tShort key (Sl.mk false b.D)).1) 0))])) ?_ [(4, sS (some false) (eI .u8) ((((((([(IntKind.u8.wrap (shrI .u64 ((tShort key (Sl.mk false b.D)).1) 56))] ++ [(IntKind.u8.wrap (shrI .u64 ((tShort key (Sl.mk false b.D)).1) 48))]) ++ [(IntKind.u8.wrap (shrI .u64 ((tShort key (Sl.mk false b.D)).1) 40))]) ++ [(IntKind.u8.wrap (shrI .u64 ((tShort key (Sl.mk false b.D)).1) 32))]) ++ [(IntKind.u8.wrap (shrI .u64 ((tShort key (Sl.mk false b.D)).1) 24))]) ++ [(IntKind.u8.wrap (shrI .u64 ((tShort key (Sl.mk false b.D)).1) 16))]) ++ [(IntKind.u8.wrap (shrI .u64 ((tShort key (Sl.mk false b.D)).1) 8))]) ++ [(IntKind.u8.wrap (shrI .u64 ((tShort key (Sl.mk false b.D)).1) 0))])), (5, .pv (.lit (.int .i64 ((tShort key (Sl.mk false b.D)).2))))] [(0, .cells (encC (eI .u8) b.D))] ?_ ?_ ?_
 · rfl
 · exact ⟨⟨_, rfl, .inl (.inr ⟨_, _, _, rfl, rfl⟩)⟩, ⟨_, rfl, .inl (.inl rfl)⟩, trivial⟩
 · exact ⟨⟨(by show (0 : Nat) ≠ 70026; decide), .inl rfl⟩, trivial⟩
 refine Awp.ret ?_
 subst hR
 exact ⟨.inl rfl, rfl, rfl⟩
end Go.Proofs.YthnghkkbnhjlgaaDoor
/- Keys that may be, and what may have been seen, in plain words. No conditions. -/
namespace Go.Proofs.YthnghkkbnhjlgaaDoor
open Go.Am
def kL (k : Nat → Int) : List Int := tbF k 8 0
theorem kL_def (k : Nat → Int) : kL k = [k 0, k 1, k 2, k 3, k 4, k 5, k 6, k 7] := rfl
theorem KeyB.b8 {k : Nat → Int} (h : KeyB k) : B8 (kL k) := fun x hx => by
  obtain ⟨i, _, h2, rfl⟩ := mem_tbF hx
  exact h i (by omega)
theorem eq8 (j k : Nat → Int) : ((j 0 == k 0) && ((j 1 == k 1) && ((j 2 == k 2) && ((j 3 == k 3) && ((j 4 == k 4) && ((j 5 == k 5) && ((j 6 == k 6) && ((j 7 == k 7) && true)))))))) = decide (kL j = kL k) := by
  rw [Bool.eq_iff_iff, decide_eq_true_eq]
  simp only [kL_def, List.cons.injEq, Bool.and_eq_true, beq_iff_eq]
def Z8 : Nat → Int := ofL [(0 : Int), 0, 0, 0, 0, 0, 0, 0]
theorem r9Key_l0_eq (D : List Int) : ∀ (k i : Nat) (vc : Nat → Int), k + i = D.length → vc = (fun t => if t < i then D.getD t 0 else Z8 t) →
    r9Key_l0 D k i vc = if (D.drop i).any (· == 0) then (Z8, 91) else ((fun t => if t < D.length then D.getD t 0 else Z8 t), 0)
  | 0, i, vc, h, hv => by
    have : i = D.length := by omega
    subst this
    unfold r9Key_l0
    rw [List.drop_length, hv]; rfl
  | k + 1, i, vc, h, hv => by
    have hi : i < D.length := by omega
    unfold r9Key_l0
    have e : D[((i : Nat) : Int).toNat]! = D[i] := by rw [Int.toNat_natCast]; exact getElem!_pos D i hi
    rw [e, List.drop_eq_getElem_cons hi, List.any_cons]
    cases hz : D[i] == 0
    · rw [cond_false, Bool.false_or]
      refine r9Key_l0_eq D k (i + 1) _ (by omega) ?_
      funext t
      unfold updA
      by_cases ht : t = i
      · subst ht
        rw [show (t == t) = true from beq_self_eq_true t, cond_true, if_pos (Nat.lt_succ_self t), List.getD_eq_getElem?_getD, List.getElem?_eq_getElem hi]; rfl
      · rw [show (t == i) = false by simpa using ht, cond_false, hv]
        dsimp only
        by_cases h' : t < i
        · rw [if_pos h', if_pos (by omega)]
        · rw [if_neg h', if_neg (by omega)]
    · rw [cond_true, Bool.true_or, if_pos rfl]; rfl
theorem shKey_eq {D : List Int} (hD : B8 D) : shKey D = r9Key D := by
  unfold shKey r9Key
  cases h1 : decide ((D.length : Int) < 1)
  · rw [cond_false, cond_false]
    cases h2 : decide ((D.length : Int) > 8)
    · rw [cond_false, cond_false]
      have h8 := of_decide_eq_false h2
      rw [r9Key_l0_eq D _ 0 _ (by rw [Int.toNat_natCast]; rfl) (by funext t; rw [if_neg (Nat.not_lt_zero t)]; rfl), List.drop_zero]
      have e : decide (indexB (Sl.mk false D) 0 ≥ 0) = D.any (· == 0) := idxI_ge hD
      rw [e]
      cases D.any (· == 0)
      · rw [cond_false, if_neg (by decide)]
        congr 1
        funext t
        unfold cpF
        rw [Nat.min_eq_left (by omega)]; rfl
      · rfl
    · rfl
  · rfl
theorem r9Right_eq {k : Nat → Int} (hk : KeyB k) : r9Right k = shRight k := by
  unfold r9Right shRight
  rw [← shKey_eq (nameL_ok hk)]
theorem rKey_eq {k : Nat → Int} (hk : KeyB k) : rKey k = (shRight k == 0) := by
  unfold rKey
  rw [r9Right_eq hk]
theorem rLess_eq {a b : Nat → Int} (ha : KeyB a) (hb : KeyB b) : rLess a b = ll (kL a) (kL b) := bytesLess_strOf ha.b8 hb.b8
theorem cmpB_ge {a b : Nat → Int} (ha : KeyB a) (hb : KeyB b) : decide (cmpB (Sl.mk false (tbF a 8 0)) (Sl.mk false (tbF b 8 0)) ≥ 0) = !ll (kL a) (kL b) := by
  show decide (cmpI (kL a) (kL b) ≥ 0) = _
  rw [cmpI_eq ha.b8 hb.b8]
  cases ll (kL a) (kL b)
  · by_cases h : kL a = kL b
    · rw [if_neg (by decide), if_pos h]; rfl
    · rw [if_neg (by decide), if_neg h]; rfl
  · rfl
/-- One of what was seen may be. -/
def sOk (x : Seen) : Bool := (shRight x.key == 0) && (decide (1 ≤ x.ver) && decide (x.ver ≤ 1099511627776))
/-- What was seen may be, and its keys rise, from a key on. -/
def rt : Option (List Int) → List Seen → Bool
  | _, [] => true
  | none, x :: xs => sOk x && rt (some (kL x.key)) xs
  | some q, x :: xs => sOk x && (ll q (kL x.key) && rt (some (kL x.key)) xs)
theorem rt_c0 (x : Seen) (xs : List Seen) : rt none (x :: xs) = (sOk x && rt (some (kL x.key)) xs) := by rw [rt]
theorem rt_c1 (q : List Int) (x : Seen) (xs : List Seen) : rt (some q) (x :: xs) = (sOk x && (ll q (kL x.key) && rt (some (kL x.key)) xs)) := by rw [rt]
def KB (l : List Seen) : Prop := ∀ x ∈ l, KeyB x.key
theorem KB.cons {x : Seen} {l : List Seen} (h : KB (x :: l)) : KeyB x.key ∧ KB l := ⟨h x (by simp), fun y hy => h y (by simp [hy])⟩
theorem KB.at {l : List Seen} (h : KB l) {i : Nat} (hi : i < l.length) : KeyB l[i]!.key := by
  rw [getElem!_pos l i hi]; exact h _ (List.getElem_mem hi)
def prevK (l : List Seen) (i : Nat) : Option (List Int) := if i = 0 then none else some (kL l[i - 1]!.key)
theorem prevK_succ {l : List Seen} {i : Nat} {x : Seen} (h : l[i]? = some x) : prevK l (i + 1) = some (kL x.key) := by
  unfold prevK
  rw [if_neg (by omega), Nat.add_sub_cancel, getElem!_def, h]
theorem sOk_split {x : Seen} {S : Int} : (bif (shRight x.key) != 0 then (100 : Int) else bif decide (x.ver < 1) then 100 else bif decide (x.ver > 1099511627776) then 100 else S) = bif sOk x then S else 100 := by
  unfold sOk
  have e1 : (shRight x.key != 0) = !(shRight x.key == 0) := rfl
  have e2 : decide (x.ver < 1) = !decide (1 ≤ x.ver) := by rw [Bool.eq_iff_iff]; simp <;> omega
  have e3 : decide (x.ver > 1099511627776) = !decide (x.ver ≤ 1099511627776) := by rw [Bool.eq_iff_iff]; simp <;> omega
  rw [e1, e2, e3]
  cases shRight x.key == 0 <;> cases decide (1 ≤ x.ver) <;> cases decide (x.ver ≤ 1099511627776) <;> rfl
theorem pRight_l0_eq {l : Sl Seen} (hl : KB l.D) (h6 : l.D.length ≤ 1000000) : ∀ (xs : List Seen) (i : Nat), l.D.drop i = xs → pRight_l0 l xs i = bif rt (prevK l.D i) xs then 0 else 100
  | [], i, _ => by
    unfold pRight_l0
    cases prevK l.D i <;> rfl
  | x :: xs, i, h => by
    have hx : l.D[i]? = some x := by
      have := congrArg (fun q => q[0]?) h
      simpa using this
    have hi : i < l.D.length := (List.getElem?_eq_some_iff.1 hx).1
    have hd : l.D.drop (i + 1) = xs := by rw [List.drop_add_one_eq_tail_drop, h]; rfl
    have ih := pRight_l0_eq hl h6 xs (i + 1) hd
    rw [prevK_succ hx] at ih
    have hkx : KeyB x.key := hl x (List.mem_of_getElem? hx)
    unfold pRight_l0
    rw [sOk_split, ih]
    by_cases h0 : i = 0
    · subst h0
      rw [show decide (((0 : Nat) : Int) > 0) = false from rfl, cond_false]
      show _ = bif rt none (x :: xs) then 0 else 100
      rw [rt_c0]
      cases sOk x <;> rfl
    · have e1 : IntKind.i64.wrap ((i : Int) - 1) = ((i - 1 : Nat) : Int) := by rw [wrapP (by omega)]; omega
      rw [decide_eq_true (show (i : Int) > 0 by omega), cond_true, e1, Int.toNat_natCast]
      have hp : KeyB l.D[i - 1]!.key := hl.at (by omega)
      have ec : prevK l.D i = some (kL l.D[i - 1]!.key) := by unfold prevK; rw [if_neg h0]
      rw [ec]
      generalize hq : l.D[i - 1]! = q at hp
      have e2 := cmpB_ge hp hkx
      have e3 : tbF (ofL [q.key 0, q.key 1, q.key 2, q.key 3, q.key 4, q.key 5, q.key 6, q.key 7]) 8 0 = tbF q.key 8 0 := rfl
      rw [e3, e2]
      rw [rt_c1]
      cases sOk x <;> cases ll (kL q.key) (kL x.key) <;> rfl
theorem rpRight_l0_eq {l : Sl Seen} (hl : KB l.D) (h6 : l.D.length ≤ 1000000) : ∀ (xs : List Seen) (i : Nat), l.D.drop i = xs → rpRight_l0 l xs i = bif rt (prevK l.D i) xs then 0 else 100
  | [], i, _ => by
    unfold rpRight_l0
    cases prevK l.D i <;> rfl
  | x :: xs, i, h => by
    have hx : l.D[i]? = some x := by
      have := congrArg (fun q => q[0]?) h
      simpa using this
    have hi : i < l.D.length := (List.getElem?_eq_some_iff.1 hx).1
    have hd : l.D.drop (i + 1) = xs := by rw [List.drop_add_one_eq_tail_drop, h]; rfl
    have ih := rpRight_l0_eq hl h6 xs (i + 1) hd
    rw [prevK_succ hx] at ih
    have hkx : KeyB x.key := hl x (List.mem_of_getElem? hx)
    unfold rpRight_l0
    rw [rKey_eq hkx, show (!(shRight x.key == 0)) = (shRight x.key != 0) from rfl, sOk_split, ih]
    by_cases h0 : i = 0
    · subst h0
      rw [show decide (((0 : Nat) : Int) > 0) = false from rfl, cond_false]
      show _ = bif rt none (x :: xs) then 0 else 100
      rw [rt_c0]
      cases sOk x <;> rfl
    · have e1 : IntKind.i64.wrap ((i : Int) - 1) = ((i - 1 : Nat) : Int) := by rw [wrapP (by omega)]; omega
      rw [decide_eq_true (show (i : Int) > 0 by omega), cond_true, e1, Int.toNat_natCast]
      have hp : KeyB l.D[i - 1]!.key := hl.at (by omega)
      have ec : prevK l.D i = some (kL l.D[i - 1]!.key) := by unfold prevK; rw [if_neg h0]
      rw [ec]
      generalize hq : l.D[i - 1]! = q at hp
      have e2 : rLess (ofL [q.key 0, q.key 1, q.key 2, q.key 3, q.key 4, q.key 5, q.key 6, q.key 7]) x.key = ll (kL q.key) (kL x.key) := (rfl : _ = rLess q.key x.key).trans (rLess_eq hp hkx)
      rw [e2]
      rw [rt_c1]
      cases sOk x <;> cases ll (kL q.key) (kL x.key) <;> rfl
theorem pRight_eq {l : Sl Seen} (hl : KB l.D) (hn : l.D.length ≤ 1000000) : pRight l = bif decide (l.D.length ≤ 6) then (bif rt none l.D then 0 else 100) else 7 := by
  unfold pRight
  rw [pRight_l0_eq hl hn l.D 0 rfl, show decide ((l.D.length : Int) > 6) = !decide (l.D.length ≤ 6) by rw [Bool.eq_iff_iff]; simp <;> omega]
  show _ = bif _ then (bif rt (prevK l.D 0) l.D then 0 else 100) else 7
  cases decide (l.D.length ≤ 6) <;> rfl
theorem rpRight_eq {l : Sl Seen} (hl : KB l.D) (hn : l.D.length ≤ 1000000) : rpRight l = pRight l := by
  rw [pRight_eq hl hn]
  unfold rpRight
  rw [rpRight_l0_eq hl hn l.D 0 rfl, show decide ((l.D.length : Int) > 6) = !decide (l.D.length ≤ 6) by rw [Bool.eq_iff_iff]; simp <;> omega]
  show _ = bif _ then (bif rt (prevK l.D 0) l.D then 0 else 100) else 7
  cases decide (l.D.length ≤ 6) <;> rfl
/-- Rising. -/
theorem rt_some {q : List Int} : ∀ {xs : List Seen}, rt (some q) xs = true ↔ rt none xs = true ∧ ∀ x ∈ xs, ll q (kL x.key) = true
  | [] => by simp [rt]
  | x :: xs => by
    have ih := rt_some (q := kL x.key) (xs := xs)
    simp only [rt, Bool.and_eq_true, List.mem_cons, forall_eq_or_imp]
    rw [ih]
    refine ⟨fun ⟨h1, h2, h3, h4⟩ => ⟨⟨h1, h3, h4⟩, h2, fun y hy => ll_trans h2 (h4 y hy)⟩, fun ⟨⟨h1, h3, h4⟩, h2, _⟩ => ⟨h1, h2, h3, h4⟩⟩
theorem rt_cons {x : Seen} {xs : List Seen} : rt none (x :: xs) = true ↔ sOk x = true ∧ rt none xs = true ∧ ∀ y ∈ xs, ll (kL x.key) (kL y.key) = true := by
  simp only [rt, Bool.and_eq_true, rt_some]
theorem pRight_zero {l : Sl Seen} (hl : KB l.D) (hn : l.D.length ≤ 1000000) : pRight l = 0 ↔ l.D.length ≤ 6 ∧ rt none l.D = true := by
  rw [pRight_eq hl hn]
  cases h : decide (l.D.length ≤ 6)
  · simpa using fun q : l.D.length ≤ 6 => absurd q (of_decide_eq_false h)
  · have := of_decide_eq_true h
    cases rt none l.D <;> simp [this]
end Go.Proofs.YthnghkkbnhjlgaaDoor
/- What readers of bytes read, in plain words. No conditions. -/
namespace Go.Proofs.YthnghkkbnhjlgaaDoor
open Go.Am
theorem bv64p (a : Nat) (h : a < 18446744073709551616) : (BitVec.ofInt 64 (a : Int)).toNat = a := by
  rw [BitVec.toNat_ofInt]
  have : ((2 ^ 64 : Nat) : Int) = 18446744073709551616 := by decide
  rw [this]; omega
theorem or64 {a b : Nat} (ha : a < 18446744073709551616) (hb : b < 18446744073709551616) : bitI .or .u64 a b = ((a ||| b : Nat) : Int) := by
  have : a ||| b < 18446744073709551616 := Nat.or_lt_two_pow (n := 64) ha hb
  show IntKind.u64.wrap (((BitVec.ofInt 64 (a : Int) ||| BitVec.ofInt 64 (b : Int) : BitVec 64).toNat : Nat) : Int) = _
  rw [BitVec.toNat_or, bv64p a ha, bv64p b hb, wrapU]; omega
theorem bif_num {α : Type} {a b c d e : Bool} {S5 S10 T : α} : (bif a then (bif b then S5 else (bif c then S5 else (bif d then (bif e then S10 else T) else T))) else (bif c then S5 else (bif d then (bif e then S10 else T) else T))) = (bif (a && b) || c then S5 else (bif d && e then S10 else T)) := by
  cases a <;> cases b <;> cases c <;> cases d <;> cases e <;> rfl
theorem and127 : ∀ y : Fin 256, (y.val &&& 127) = y.val % 128 := by decide +kernel
theorem low7 {x : Int} (h : 0 ≤ x ∧ x < 256) : IntKind.u64.wrap (bitI .and .u8 x 127) = ((x.toNat % 128 : Nat) : Int) := by
  have e : x = ((x.toNat : Nat) : Int) := by omega
  rw [e, show (127 : Int) = ((127 : Nat) : Int) from rfl, and8 (by omega) (by decide), and127 ⟨x.toNat, by omega⟩, wrapU]
  show ((x.toNat % 128 : Nat) : Int) % 18446744073709551616 = ((((x.toNat : Nat) : Int)).toNat % 128 : Nat)
  omega
theorem pow7 (i : Nat) : (2 : Nat) ^ (7 * i) = 128 ^ i := by rw [Nat.pow_mul]
theorem orshl {acc low i : Nat} (hi : i ≤ 9) (h1 : acc < 128 ^ i) (h2 : low * 128 ^ i < 18446744073709551616) : bitI .or .u64 (acc : Int) (shlI .u64 (low : Int) ((7 * i : Nat) : Int)) = ((acc + low * 128 ^ i : Nat) : Int) := by
  have hs : shlI .u64 (low : Int) ((7 * i : Nat) : Int) = ((low * 128 ^ i : Nat) : Int) := by
    show IntKind.u64.wrap ((low : Int) * 2 ^ (min (((7 * i : Nat) : Int).toNat) 64)) = _
    rw [Int.toNat_natCast, Nat.min_eq_left (by omega), wrapU, ← pow7]
    have : (low : Int) * 2 ^ (7 * i) = ((low * 2 ^ (7 * i) : Nat) : Int) := by simp
    rw [this]
    rw [← pow7] at h2
    omega
  have hp : 128 ^ i ≤ 9223372036854775808 := Nat.le_trans (Nat.pow_le_pow_right (by decide) hi) (by decide)
  rw [hs, or64 (by omega) h2]
  have := Nat.shiftLeft_add_eq_or_of_lt (b := acc) (i := 7 * i) (by rw [pow7]; exact h1) low
  rw [Nat.shiftLeft_eq, pow7] at this
  rw [Nat.or_comm, ← this, Nat.add_comm]
theorem getBang {D : List Int} {n : Nat} {x : Int} (h : D[n]? = some x) : D[n]! = x := by rw [getElem!_def, h]
theorem low_le {x i : Nat} (h : ¬ ((i = 9 ∧ 1 < x % 128) ∨ 9 < i)) : x % 128 * 128 ^ i < 18446744073709551616 := by
  rcases Nat.lt_or_ge i 9 with h9 | h9
  · have : 128 ^ i ≤ 72057594037927936 := Nat.le_trans (Nat.pow_le_pow_right (by decide) (show i ≤ 8 by omega)) (by decide)
    have h5 : x % 128 * 128 ^ i ≤ 127 * 72057594037927936 := Nat.mul_le_mul (by omega) this
    omega
  · have hi9 : i = 9 := by omega
    subst hi9
    have h6 : (128 : Nat) ^ 9 = 9223372036854775808 := by decide
    rw [h6]; omega
theorem acc_le {x i acc : Nat} (h1 : acc < 128 ^ i) : acc + x % 128 * 128 ^ i < 128 ^ (i + 1) := by
  rw [Nat.pow_succ, Nat.mul_comm (128 ^ i)]
  have h5 : x % 128 * 128 ^ i ≤ 127 * 128 ^ i := Nat.mul_le_mul_right _ (by omega)
  omega
theorem rdNum_l0_eq {D : List Int} (hD : ∀ x ∈ D, 0 ≤ x ∧ x < 256) (hl : D.length ≤ 1000000) (r : Reader) : ∀ (f i acc : Nat) (v : Reader), f = D.length - v.at_.toNat + 1 → v.b.D = D → 0 ≤ v.at_ → v.at_ ≤ (D.length : Int) → v.err = 0 → v.made = true → i ≤ 10 → acc < 128 ^ i →
    match vd i (D.drop v.at_.toNat) with
    | some (m, rest) => rdNum_l0 r f (acc : Int) ((7 * i : Nat) : Int) v = (Reader.mk v.b ((D.length : Int) - rest.length) 0 true, ((acc + m * 128 ^ i : Nat) : Int))
    | none => rdErr (rdNum_l0 r f (acc : Int) ((7 * i : Nat) : Int) v).1 ≠ 0
  | 0, _, _, _, hf, _, _, _, _, _, _, _ => by omega
  | f + 1, i, acc, v, hf, hb, h0, h1, he, hm, hi, hacc => by
    by_cases hat : v.at_ = (D.length : Int)
    · have e : (v.at_ == (v.b.D.length : Int)) = true := by rw [hb]; simpa using hat
      rw [List.drop_eq_nil_of_le (by omega), vd]
      unfold rdNum_l0
      rw [e]
      show rdErr (rdStop v r.at_ 2) ≠ 0
      unfold rdStop rdErr
      rw [he]
      show (bif !v.made then (6 : Int) else 2) ≠ 0
      rw [hm]; decide
    · have e : (v.at_ == (v.b.D.length : Int)) = false := by rw [hb]; simpa using hat
      obtain ⟨x, hx⟩ : ∃ x, D[v.at_.toNat]? = some x := ⟨_, List.getElem?_eq_getElem (by omega)⟩
      have hxb := hD x (List.mem_of_getElem? hx)
      have hw : IntKind.i64.wrap (v.at_ + 1) = v.at_ + 1 := by have := wrapI (v.at_ + 1); omega
      have hw2 : IntKind.i64.wrap (((7 * i : Nat) : Int) + 7) = ((7 * (i + 1) : Nat) : Int) := by have := wrapI (((7 * i : Nat) : Int) + 7); omega
      have hs : ∀ a q, q ≠ 0 → rdErr (rdStop (Reader.mk v.b (v.at_ + 1) v.err v.made) a q) ≠ 0 := fun a q hq => by
        unfold rdStop rdErr
        rw [he, hm]
        exact hq
      have hc : (((((7 * i : Nat) : Int) == 63) && decide (((x.toNat % 128 : Nat) : Int) > 1)) || decide (((7 * i : Nat) : Int) > 63)) = decide ((i = 9 ∧ 1 < x.toNat % 128) ∨ 9 < i) := by
        rw [Bool.eq_iff_iff]
        simp only [Bool.or_eq_true, Bool.and_eq_true, beq_iff_eq, decide_eq_true_eq]
        omega
      have hd : ((x == 0) && decide (((7 * i : Nat) : Int) > 0)) = decide (x = 0 ∧ 0 < i) := by
        rw [Bool.eq_iff_iff]
        simp only [Bool.and_eq_true, beq_iff_eq, decide_eq_true_eq]
        omega
      rw [drop_at hx, vd]
      unfold rdNum_l0
      rw [e, cond_false, hb, getBang hx, low7 hxb, hw, hw2, bif_num, hc, hd]
      by_cases c1 : (i = 9 ∧ 1 < x.toNat % 128) ∨ 9 < i
      · rw [if_pos c1, decide_eq_true c1]
        exact hs _ _ (by decide)
      · rw [if_neg c1, decide_eq_false c1, cond_false]
        by_cases c2 : x = 0 ∧ 0 < i
        · rw [if_pos c2, decide_eq_true c2]
          exact hs _ _ (by decide)
        · rw [if_neg c2, decide_eq_false c2, cond_false]
          have hor := orshl (acc := acc) (low := x.toNat % 128) (i := i) (by omega) hacc (low_le c1)
          rw [hor]
          by_cases c3 : x < 128
          · rw [if_pos c3, decide_eq_true c3, cond_true]
            have hx' : x.toNat % 128 = x.toNat := by omega
            show (Reader.mk v.b (v.at_ + 1) v.err v.made, _) = (Reader.mk v.b ((D.length : Int) - ((D.drop (v.at_.toNat + 1)).length : Int)) 0 true, _)
            rw [he, hm, hx', List.length_drop]
            have : v.at_ + 1 = (D.length : Int) - ((D.length - (v.at_.toNat + 1) : Nat) : Int) := by omega
            rw [this]
          · rw [if_neg c3, decide_eq_false c3, cond_false]
            have ih := rdNum_l0_eq hD hl r f (i + 1) (acc + x.toNat % 128 * 128 ^ i) (Reader.mk v.b (v.at_ + 1) v.err v.made) (by dsimp only; omega) hb (by dsimp only; omega) (by dsimp only; omega) he hm (by omega) (acc_le hacc)
            dsimp only at ih
            rw [show (v.at_ + 1).toNat = v.at_.toNat + 1 by omega] at ih
            cases hv : vd (i + 1) (D.drop (v.at_.toNat + 1)) with
            | none => rw [hv] at ih; exact ih
            | some q =>
              obtain ⟨m, rest⟩ := q
              rw [hv] at ih
              dsimp only at ih ⊢
              rw [ih]
              have : acc + x.toNat % 128 * 128 ^ i + m * 128 ^ (i + 1) = acc + (x.toNat % 128 + 128 * m) * 128 ^ i := by
                rw [Nat.pow_succ, Nat.add_mul, Nat.mul_comm (128 ^ i) 128, ← Nat.mul_assoc, Nat.mul_comm m 128]; omega
              rw [this]
/-- A reader of these bytes, with no error, ahead of those. -/
structure RdAt (r : Reader) (D l : List Int) : Prop where
  b : r.b.D = D
  made : r.made = true
  err : r.err = 0
  suf : l <:+ D
  at' : r.at_ = (D.length : Int) - l.length
theorem vd_suffix : ∀ (i : Nat) (l : List Int) (n : Nat) (r : List Int), vd i l = some (n, r) → r <:+ l
  | _, [], _, _, h => by simp [vd] at h
  | i, x :: l, n, r, h => by
    rw [vd] at h
    split at h
    · cases h
    · split at h
      · cases h
      · split at h
        · simp only [Option.some.injEq, Prod.mk.injEq] at h; rw [← h.2]; exact List.suffix_cons x l
        · split at h
          · rename_i m r' hm
            simp only [Option.some.injEq, Prod.mk.injEq] at h
            rw [← h.2]
            exact (vd_suffix (i + 1) l m r' hm).trans (List.suffix_cons x l)
          · cases h
theorem RdAt.drop {r : Reader} {D l : List Int} (h : RdAt r D l) : D.drop r.at_.toNat = l := by
  have h1 := List.suffix_iff_eq_drop.1 h.suf
  have h2 := h.suf.length_le
  have : r.at_.toNat = D.length - l.length := by have := h.at'; omega
  rw [this]; exact h1.symm
theorem RdAt.ok {r : Reader} {D l : List Int} (h : RdAt r D l) (hl : D.length ≤ 1000000) : okR r := by
  have h2 := h.suf.length_le
  have h3 := h.at'
  have h4 := h.b
  exact ⟨⟨by omega, by rw [h4]; omega⟩, by rw [h4]; exact hl⟩
theorem RdAt.err0 {r : Reader} {D l : List Int} (h : RdAt r D l) : rdErr r = 0 := by unfold rdErr; rw [h.made, h.err]; rfl
theorem rdNum_at {r : Reader} {D l : List Int} (h : RdAt r D l) (hD : ∀ x ∈ D, 0 ≤ x ∧ x < 256) (hl : D.length ≤ 1000000) :
    match vd 0 l with
    | some (m, rest) => RdAt (rdNum r).1 D rest ∧ (rdNum r).2 = (m : Int)
    | none => rdErr (rdNum r).1 ≠ 0 := by
  have hk := h.ok hl
  have hb := h.b
  have key := rdNum_l0_eq hD hl r (r.b.D.length - r.at_.toNat + 1) 0 0 r (by rw [hb]) hb hk.1.1 (by have := hk.1.2; rw [hb] at this; exact this) h.err h.made (by decide) (by decide)
  rw [h.drop] at key
  unfold rdNum
  rw [h.err0]
  simp only [bne_self_eq_false, cond_false]
  cases hv : vd 0 l with
  | none => rw [hv] at key; exact key
  | some q =>
    obtain ⟨m, rest⟩ := q
    rw [hv] at key
    dsimp only at key ⊢
    have key' : rdNum_l0 r (r.b.D.length - r.at_.toNat + 1) 0 0 r = _ := key
    rw [key']
    refine ⟨⟨hb, rfl, rfl, (vd_suffix 0 l m rest hv).trans h.suf, rfl⟩, ?_⟩
    simp
/-- A number within bounds. -/
def rin (lo hi : Int) (l : List Int) : Option (Nat × List Int) :=
  match vd 0 l with
  | some (n, r) => if (n : Int) ≤ 4611686018427387904 ∧ lo ≤ (n : Int) ∧ (n : Int) ≤ hi then some (n, r) else none
  | none => none
theorem bif3 {α : Type} {a b c : Bool} {S T : α} : (bif a then S else (bif b then S else (bif c then S else T))) = (bif a || b || c then S else T) := by cases a <;> cases b <;> cases c <;> rfl
theorem vd_lt {l : List Int} (hD : ∀ x ∈ l, 0 ≤ x ∧ x < 256) {n : Nat} {r : List Int} (h : vd 0 l = some (n, r)) : n < 18446744073709551616 := by
  have := (vd_vb 0 l n r hD h).2.2
  simpa using this
theorem rdIn_at {r : Reader} {D l : List Int} (lo hi : Int) (h : RdAt r D l) (hD : ∀ x ∈ D, 0 ≤ x ∧ x < 256) (hl : D.length ≤ 1000000) :
    match rin lo hi l with
    | some (m, rest) => RdAt (rdIn r lo hi).1 D rest ∧ (rdIn r lo hi).2 = (m : Int)
    | none => rdErr (rdIn r lo hi).1 ≠ 0 := by
  have h1 := rdNum_at h hD hl
  unfold rin rdIn
  cases hv : vd 0 l with
  | none =>
    rw [hv] at h1
    dsimp only at h1 ⊢
    have : (rdErr (rdNum r).1 != 0) = true := by simpa using h1
    rw [this]; exact h1
  | some q =>
    obtain ⟨m, rest⟩ := q
    rw [hv] at h1
    dsimp only at h1 ⊢
    obtain ⟨h2, h3⟩ := h1
    rw [h2.err0, h3]
    simp only [bne_self_eq_false, cond_false]
    have hml := vd_lt (fun x hx => hD x (h.suf.subset hx)) hv
    rw [bif3]
    by_cases hc : (m : Int) ≤ 4611686018427387904 ∧ lo ≤ (m : Int) ∧ (m : Int) ≤ hi
    · have hw : IntKind.i64.wrap (m : Int) = (m : Int) := by have := wrapI (m : Int); omega
      have : (decide ((m : Int) > 4611686018427387904) || decide (IntKind.i64.wrap (m : Int) < lo) || decide (IntKind.i64.wrap (m : Int) > hi)) = false := by
        rw [hw]; simp only [Bool.or_eq_false_iff, decide_eq_false_iff_not]; omega
      rw [if_pos hc, this]
      exact ⟨h2, hw⟩
    · have : (decide ((m : Int) > 4611686018427387904) || decide (IntKind.i64.wrap (m : Int) < lo) || decide (IntKind.i64.wrap (m : Int) > hi)) = true := by
        rcases Int.lt_or_le 4611686018427387904 (m : Int) with hgt | hle
        · simp [hgt]
        · have hw : IntKind.i64.wrap (m : Int) = (m : Int) := by have := wrapI (m : Int); omega
          rw [hw]; simp only [Bool.or_eq_true, decide_eq_true_eq]; omega
      rw [if_neg hc, this]
      show rdErr (rdStop (rdNum r).1 _ 5) ≠ 0
      unfold rdStop rdErr
      rw [h2.err]
      show (bif !(rdNum r).1.made then (6 : Int) else 5) ≠ 0
      rw [h2.made]; decide
theorem rdIn_err {r : Reader} (lo hi : Int) (h : rdErr r ≠ 0) : rdErr (rdIn r lo hi).1 ≠ 0 := by
  have e : (rdErr r != 0) = true := by simpa using h
  unfold rdIn
  rw [rdNum_err r e]
  dsimp only
  rw [e]
  exact h
theorem rdEnd_at {r : Reader} {D l : List Int} (h : RdAt r D l) : (rdEnd r != 0) = !l.isEmpty := by
  unfold rdEnd
  rw [h.err0]
  have h2 := h.suf.length_le
  have h3 := h.at'
  rw [h.b]
  cases l with
  | nil =>
    have : decide (r.at_ < (D.length : Int)) = false := decide_eq_false (by simp at h3; omega)
    rw [this]; rfl
  | cons x l =>
    have : decide (r.at_ < (D.length : Int)) = true := decide_eq_true (by simp at h3; omega)
    rw [this]; rfl
theorem rdEnd_err {r : Reader} (h : rdErr r ≠ 0) : (rdEnd r != 0) = true := by
  have e : (rdErr r != 0) = true := by simpa using h
  unfold rdEnd
  rw [e]; exact e
end Go.Proofs.YthnghkkbnhjlgaaDoor
/- What the reference's readers of bytes read, in plain words. No conditions. -/
namespace Go.Proofs.YthnghkkbnhjlgaaDoor
open Go.Am
/-- A reader of the reference, likewise. -/
structure RrAt (r : Reader69) (D l : List Int) : Prop where
  b : r.b.D = D
  err : r.e_ = 0
  suf : l <:+ D
  at' : r.at_ = (D.length : Int) - l.length
theorem RrAt.drop {r : Reader69} {D l : List Int} (h : RrAt r D l) : D.drop r.at_.toNat = l := by
  have h1 := List.suffix_iff_eq_drop.1 h.suf
  have h2 := h.suf.length_le
  have : r.at_.toNat = D.length - l.length := by have := h.at'; omega
  rw [this]; exact h1.symm
end Go.Proofs.YthnghkkbnhjlgaaDoor
/- A key as a number and back; what was seen as bytes and back, in plain words. No conditions. -/
namespace Go.Proofs.YthnghkkbnhjlgaaDoor
open Go.Am
theorem word_l0_shN (k : Nat → Int) : ∀ (n i : Nat), word_l0 k n i (shN k i) = shN k (i + n)
  | 0, _ => rfl
  | n + 1, i => by
    unfold word_l0
    have := word_l0_shN k n (i + 1)
    rw [show i + (n + 1) = i + 1 + n by omega, ← this]; rfl
theorem word_shN (k : Nat → Int) : word k = shN k 8 := word_l0_shN k 8 0
def cut8 (k : Nat → Int) : Nat → Int := fun t => if t < 8 then k t else 0
theorem shN_congr {j k : Nat → Int} : ∀ n, (∀ t, t < n → j t = k t) → shN j n = shN k n
  | 0, _ => rfl
  | n + 1, h => by unfold shN; rw [shN_congr n fun t ht => h t (by omega), h n (by omega)]
theorem cut8_R8 {k : Nat → Int} (h : KeyB k) (t : Nat) : R8 (cut8 k t) := by
  unfold cut8
  by_cases ht : t < 8
  · rw [if_pos ht]; exact h t ht
  · rw [if_neg ht]; exact ⟨by decide, by decide⟩
theorem word_cut (k : Nat → Int) : word k = shN (cut8 k) 8 := by
  rw [word_shN]
  exact shN_congr 8 fun t ht => by unfold cut8; rw [if_pos ht]
theorem word_byte {k : Nat → Int} (h : KeyB k) {i : Nat} (hi : i < 8) : IntKind.u8.wrap (shrI .u64 (word k) ((56 - 8 * i : Nat) : Int)) = k i := by
  rw [word_cut, sh_byte (cut8_R8 h) i hi]
  unfold cut8; rw [if_pos hi]
/-- The key of a number. -/
def unw (w : Int) : Nat → Int := fun i => IntKind.u8.wrap (shrI .u64 w ((56 - 8 * i : Nat) : Int))
theorem unw_B (w : Int) : KeyB (unw w) := fun j _ => by unfold unw; rw [wrap_u8]; omega
theorem unw_word {k : Nat → Int} (h : KeyB k) : kL (unw (word k)) = kL k := by
  simp only [kL_def, List.cons.injEq, and_true]
  exact ⟨word_byte h (by decide), word_byte h (by decide), word_byte h (by decide), word_byte h (by decide), word_byte h (by decide), word_byte h (by decide), word_byte h (by decide), word_byte h (by decide)⟩
theorem word_unw {w : Int} (h0 : 0 ≤ w) (h1 : w < 18446744073709551616) : word (unw w) = w := by
  rw [word_cut, sh_val8 (cut8_R8 (unw_B w))]
  have e0 : cut8 (unw w) 0 = w / 72057594037927936 % 256 := by show IntKind.u8.wrap (w / 72057594037927936) = _; rw [wrap_u8]
  have e1 : cut8 (unw w) 1 = w / 281474976710656 % 256 := by show IntKind.u8.wrap (w / 281474976710656) = _; rw [wrap_u8]
  have e2 : cut8 (unw w) 2 = w / 1099511627776 % 256 := by show IntKind.u8.wrap (w / 1099511627776) = _; rw [wrap_u8]
  have e3 : cut8 (unw w) 3 = w / 4294967296 % 256 := by show IntKind.u8.wrap (w / 4294967296) = _; rw [wrap_u8]
  have e4 : cut8 (unw w) 4 = w / 16777216 % 256 := by show IntKind.u8.wrap (w / 16777216) = _; rw [wrap_u8]
  have e5 : cut8 (unw w) 5 = w / 65536 % 256 := by show IntKind.u8.wrap (w / 65536) = _; rw [wrap_u8]
  have e6 : cut8 (unw w) 6 = w / 256 % 256 := by show IntKind.u8.wrap (w / 256) = _; rw [wrap_u8]
  have e7 : cut8 (unw w) 7 = w % 256 := by show IntKind.u8.wrap (w / 1) = _; rw [wrap_u8]; omega
  rw [e0, e1, e2, e3, e4, e5, e6, e7]
  have d6 : w / 65536 = w / 256 / 256 := by omega
  have d5 : w / 16777216 = w / 65536 / 256 := by omega
  have d4 : w / 4294967296 = w / 16777216 / 256 := by omega
  have d3 : w / 1099511627776 = w / 4294967296 / 256 := by omega
  have d2 : w / 281474976710656 = w / 1099511627776 / 256 := by omega
  have d1 : w / 72057594037927936 = w / 281474976710656 / 256 := by omega
  have d0 : w / 72057594037927936 < 256 := by omega
  generalize hq6 : w / 256 = q6 at *
  generalize hq5 : w / 65536 = q5 at *
  generalize hq4 : w / 16777216 = q4 at *
  generalize hq3 : w / 4294967296 = q3 at *
  generalize hq2 : w / 1099511627776 = q2 at *
  generalize hq1 : w / 281474976710656 = q1 at *
  generalize hq0 : w / 72057594037927936 = q0 at *
  have p0 : q0 % 256 = q0 := by omega
  have p1 : q1 = 256 * q0 + q1 % 256 := by omega
  have p2 : q2 = 256 * q1 + q2 % 256 := by omega
  have p3 : q3 = 256 * q2 + q3 % 256 := by omega
  have p4 : q4 = 256 * q3 + q4 % 256 := by omega
  have p5 : q5 = 256 * q4 + q5 % 256 := by omega
  have p6 : q6 = 256 * q5 + q6 % 256 := by omega
  have p7 : w = 256 * q6 + w % 256 := by omega
  clear e0 e1 e2 e3 e4 e5 e6 e7 d0 d1 d2 d3 d4 d5 d6 hq0 hq1 hq2 hq3 hq4 hq5 hq6
  rw [p0]
  generalize q1 % 256 = r1 at *
  generalize q2 % 256 = r2 at *
  generalize q3 % 256 = r3 at *
  generalize q4 % 256 = r4 at *
  generalize q5 % 256 = r5 at *
  generalize q6 % 256 = r6 at *
  generalize w % 256 = r7 at *
  omega
/-- What was seen as bytes, one behind the other. -/
def encS : List Seen → List Int
  | [] => []
  | x :: xs => vb (word x.key).toNat ++ (vb (IntKind.u64.wrap x.ver).toNat ++ encS xs)
theorem encS_len : ∀ l : List Seen, (encS l).length ≤ 20 * l.length
  | [] => Nat.le_refl _
  | x :: xs => by
    have h1 := vb_len (n := (word x.key).toNat) (by have := (word_ok x.key); omega)
    have h2 := vb_len (n := (IntKind.u64.wrap x.ver).toNat) (by have := wrap_lt64 x.ver; have := wrap_nn64 x.ver; omega)
    have := encS_len xs
    unfold encS
    rw [List.length_append, List.length_append, List.length_cons]; omega
end Go.Proofs.YthnghkkbnhjlgaaDoor
/- What was seen as bytes, in a row of one's own, in plain words; its seal. No conditions. -/
namespace Go.Proofs.YthnghkkbnhjlgaaDoor
open Go.Am
theorem bodyO_l0_eq : ∀ (xs : List Seen) (i : Nat) (b : List Int), bodyO_l0 xs i b = b ++ encS xs
  | [], _, b => by
    unfold bodyO_l0 encS
    rw [List.append_nil]
  | x :: xs, i, b => by
    unfold bodyO_l0 encS
    rw [bodyO_l0_eq xs, wPut2O_eq _ _ _ (word_ok _).1 (wrap_nn64 _), List.append_assoc, List.append_assoc]
/-- What was seen as bytes. -/
def encB (l : List Seen) : List Int := vb (IntKind.u64.wrap (l.length : Int)).toNat ++ encS l
theorem bodyO_eq (l : Sl Seen) : bodyO l = encB l.D := by
  unfold bodyO encB
  rw [bodyO_l0_eq, wPutO_eq _ _ (wrap_nn64 _)]; rfl
theorem encB_len (l : List Seen) : (encB l).length ≤ 10 + 20 * l.length := by
  have h2 := vb_len (n := (IntKind.u64.wrap (l.length : Int)).toNat) (by have := wrap_lt64 (l.length : Int); have := wrap_nn64 (l.length : Int); omega)
  have := encS_len l
  unfold encB
  rw [List.length_append]; omega
theorem bodyO_len (l : Sl Seen) : (bodyO l).length ≤ 10 + 20 * l.D.length := by
  rw [bodyO_eq]; exact encB_len l.D
theorem markR_len (key b : Sl Int) : (markR key b).1.D.length = 8 := rfl
theorem encS_B8 : ∀ l : List Seen, B8 (encS l)
  | [], x, h => nomatch h
  | y :: l, x, h => by
    rcases List.mem_append.1 (show x ∈ vb (word y.key).toNat ++ (vb (IntKind.u64.wrap y.ver).toNat ++ encS l) from h) with h | h
    · exact vb_B8 _ x h
    · rcases List.mem_append.1 h with h | h
      · exact vb_B8 _ x h
      · exact encS_B8 l x h
theorem encB_B8 (l : List Seen) : B8 (encB l) := fun x hx => by
  rcases List.mem_append.1 hx with h | h
  · exact vb_B8 _ x h
  · exact encS_B8 l x h
end Go.Proofs.YthnghkkbnhjlgaaDoor
/- Passes made. No conditions. -/
namespace Go.Proofs.YthnghkkbnhjlgaaDoor
open Go.Am
def pMake (key : (Sl Int)) (l : (Sl Seen)) : (Sl Int) × Int :=
  (bif ((pRight l) != 0) then ((Sl.mk true []), (pRight l)) else (bif (((markR key (Sl.mk false (bodyO l))).2) != 0) then ((Sl.mk true []), (markR key (Sl.mk false (bodyO l))).2) else (bif ((l.D.length : Int) == 0) then ((Sl.mk true []), (markR key (Sl.mk false (bodyO l))).2) else ((Sl.mk false ((bodyO l) ++ ((markR key (Sl.mk false (bodyO l))).1.D))), 0))))
theorem pMake_calls (key : (Sl Int)) (l : (Sl Seen)) (hl : ∀ x ∈ l.D, KeyB x.key) (hl1 : l.D.length ≤ 1000) : PCalls Tryd.prog 15 [sS (some key.nil) (eI .u8) key.D, sS (some l.nil) eSeen l.D] (.tup [sS (some (pMake key l).1.nil) (eI .u8) ((pMake key l).1.D), .pv (.lit (.int .i64 ((pMake key l).2)))]) := by
 generalize hR : pMake key l = R
 refine PCalls.of_body tabOk Tryd.func15 rfl rfl rfl rfl rfl mixed fun E hP C hI => ?_
 refine Awp.consP C ?_
 refine rvP C (sS (some true) (eI .u8) []) ?_
 refine rvP C (.pv (.lit (.int .i64 0))) ?_
 refine rvc_nil ?_
 refine Awp.seq ?_
 refine Awp.consP C ?_
 refine rvP C (sS (some l.nil) eSeen l.D) ?_
 refine rvc_un (rexec_call hP C rfl rfl rfl (pRight_calls l hl (Nat.le_trans hl1 (by decide))) ?_)
 refine rvP C (.pv (.lit (.int .i64 (pRight l)))) ?_
 refine rvc_nil ?_
 refine Awp.consP C ?_
 refine rvP C (.pv (.lit (.int .i64 (pRight l)))) ?_
 refine rvP C (.pv (.lit (.bool ((pRight l) != 0)))) ?_
 refine rvc_nil ?_
 refine Awp.cond (b := ((pRight l) != 0)) rfl (fun h1 => ?_) (fun h1 => ?_)
 ·
  replace hR := of_true h1 hR
  refine Awp.consP C ?_
  refine rvP C (.pv (.lit (.int .i64 (pRight l)))) ?_
  refine rvP C (sS (some true) (eI .u8) []) ?_
  refine rvP C (.pv (.lit (.int .i64 (pRight l)))) ?_
  refine rvc_nil ?_
  refine Awp.ret ?_
  subst hR
  exact ⟨.inl rfl, rfl⟩
 ·
  replace hR := of_false h1 hR
  refine Awp.skip ?_
  refine Awp.cons C (fun _ => .quiet) (by kernel_rfl) ?_
  refine rvP C (sS (some l.nil) eSeen l.D) ?_
  refine rvc_un (rexec_callO hP C rfl rfl rfl rfl (bodyO_calls l hl1) ?_)
  refine rvP C (.sl 16 0 ((bodyO l).length) 1 false) ?_
  refine rvc_nil ?_
  refine Awp.cons C (fun _ => .writer) (by kernel_rfl) ?_
  refine rvP C (sS (some key.nil) (eI .u8) key.D) ?_
  refine rvP C (.sl 16 0 ((bodyO l).length) 1 false) ?_
  refine rvc_un (rexec_callM hP C (b := 16) rfl rfl rfl (markR_calls key (Sl.mk false (bodyO l)) ((bodyO l).length) false rfl (by have := bodyO_len l; show (bodyO l).length ≤ 1000000; omega)) rfl rfl ?_)
  refine rvP C (.tup [sS (some (markR key (Sl.mk false (bodyO l))).1.nil) (eI .u8) ((markR key (Sl.mk false (bodyO l))).1.D), .pv (.lit (.int .i64 ((markR key (Sl.mk false (bodyO l))).2)))]) ?_
  refine rvP C (sS (some (markR key (Sl.mk false (bodyO l))).1.nil) (eI .u8) ((markR key (Sl.mk false (bodyO l))).1.D)) ?_
  refine rvP C (.pv (.lit (.int .i64 ((markR key (Sl.mk false (bodyO l))).2)))) ?_
  refine rvP C (sS (some (markR key (Sl.mk false (bodyO l))).1.nil) (eI .u8) ((markR key (Sl.mk false (bodyO l))).1.D)) ?_
  refine rvP C (.pv (.lit (.int .i64 ((markR key (Sl.mk false (bodyO l))).2)))) ?_
  refine rvc_nil ?_
  refine Awp.seq ?_
  refine Awp.consP C ?_
  refine rvP C (.pv (.lit (.int .i64 ((markR key (Sl.mk false (bodyO l))).2)))) ?_
  refine rvP C (.pv (.lit (.bool (((markR key (Sl.mk false (bodyO l))).2) != 0)))) ?_
  refine rvP C (.pv (.lit (.bool (((markR key (Sl.mk false (bodyO l))).2) != 0)))) ?_
  refine rvc_case 25 (((markR key (Sl.mk false (bodyO l))).2) != 0) rfl (fun h2 => ?_) (fun h2 => ?_)
  ·
   replace hR := of_true h2 hR
   refine rvS ?_
   refine rvS ?_
   refine rvS ?_
   refine rvP C (.pv (.lit (.bool true))) ?_
   refine rvc_nil ?_
   refine Awp.condT (b := true) rfl rfl ?_
   refine Awp.consP C ?_
   refine rvP C (.pv (.lit (.int .i64 ((markR key (Sl.mk false (bodyO l))).2)))) ?_
   refine rvP C (sS (some true) (eI .u8) []) ?_
   refine rvP C (.pv (.lit (.int .i64 ((markR key (Sl.mk false (bodyO l))).2)))) ?_
   refine rvc_nil ?_
   refine Awp.ret ?_
   subst hR
   exact ⟨.inl rfl, rfl⟩
  ·
   replace hR := of_false h2 hR
   refine rvO C (sS (some l.nil) eSeen l.D) ?_
   refine rvO C (.pv (.lit (.int .i64 (l.D.length : Int)))) ?_
   refine rvO C (.pv (.lit (.bool ((l.D.length : Int) == 0)))) ?_
   refine rvP C (.pv (.lit (.bool ((l.D.length : Int) == 0)))) ?_
   refine rvc_nil ?_
   refine Awp.cond (b := ((l.D.length : Int) == 0)) rfl (fun h3 => ?_) (fun h3 => ?_)
   ·
    replace hR := of_true h3 hR
    refine Awp.consP C ?_
    refine rvP C (.pv (.lit (.int .i64 ((markR key (Sl.mk false (bodyO l))).2)))) ?_
    refine rvP C (sS (some true) (eI .u8) []) ?_
    refine rvP C (.pv (.lit (.int .i64 ((markR key (Sl.mk false (bodyO l))).2)))) ?_
    refine rvc_nil ?_
    refine Awp.ret ?_
    subst hR
    exact ⟨.inl rfl, rfl⟩
   ·
    replace hR := of_false h3 hR
    refine Awp.skip ?_
    refine Awp.consP C ?_
    refine rvP C (.sl 16 0 ((bodyO l).length) 1 false) ?_
    refine rvP C (sS (some (markR key (Sl.mk false (bodyO l))).1.nil) (eI .u8) ((markR key (Sl.mk false (bodyO l))).1.D)) ?_
    refine rvc_un (rexec_append C rfl rfl rfl rfl rfl rfl rfl rfl (fun _ h => by cases h) rfl (en := (eI .u8)) (D0 := (bodyO l)) (D := ((markR key (Sl.mk false (bodyO l))).1.D)) rfl rfl rfl rfl (by have := bodyO_len l; rw [markR_len]; show (2 * ((bodyO l).length + 8) + 192) * 1 ≤ 281474976710656; omega) (by decide) (nn := ((bodyO l) ++ ((markR key (Sl.mk false (bodyO l))).1.D)).length) (by simp) ?_)
    refine rvP C (.sl 33 0 (((bodyO l) ++ ((markR key (Sl.mk false (bodyO l))).1.D)).length) 1 false) ?_
    refine rvP C (.pv (.lit (.int .i64 0))) ?_
    refine rvc_nil ?_
    refine Awp.freezeW 33 (encL (eI .u8) ((bodyO l) ++ ((markR key (Sl.mk false (bodyO l))).1.D))) ?_ [(4, sS (some false) (eI .u8) ((bodyO l) ++ ((markR key (Sl.mk false (bodyO l))).1.D))), (5, .pv (.lit (.int .i64 0)))] [] ?_ ?_ ?_
    · rfl
    · exact ⟨⟨_, rfl, .inl (.inr ⟨_, _, _, rfl, rfl⟩)⟩, ⟨_, rfl, .inl (.inl rfl)⟩, trivial⟩
    · exact trivial
    refine Awp.ret ?_
    subst hR
    exact ⟨.inl rfl, rfl⟩
end Go.Proofs.YthnghkkbnhjlgaaDoor
/- A number as a key. No conditions. -/
namespace Go.Proofs.YthnghkkbnhjlgaaDoor
open Go.Am
def unword_l0 (w : Int) : Nat → Nat → (Nat → Int) → (Nat → Int)
  | 0, _, vc => vc
  | k + 1, i, vc => unword_l0 w k (i + 1) (updA vc i (IntKind.u8.wrap (shrI .u64 w (IntKind.i64.wrap (56 - (IntKind.i64.wrap (8 * (i : Int))))))))
def unword (w : Int) : (Nat → Int) :=
  unword_l0 w 8 0 (ofL [(0 : Int), 0, 0, 0, 0, 0, 0, 0])
theorem unword_calls (w : Int)  : PCalls Tryd.prog 39 [.pv (.lit (.int .u64 w))] (.agg [.pv (.lit (.int .u8 ((unword w) 0))), .pv (.lit (.int .u8 ((unword w) 1))), .pv (.lit (.int .u8 ((unword w) 2))), .pv (.lit (.int .u8 ((unword w) 3))), .pv (.lit (.int .u8 ((unword w) 4))), .pv (.lit (.int .u8 ((unword w) 5))), .pv (.lit (.int .u8 ((unword w) 6))), .pv (.lit (.int .u8 ((unword w) 7)))]) := by
 generalize hR : unword w = R
 refine PCalls.of_body tabOk Tryd.func39 rfl rfl rfl rfl rfl mixed fun E hP C hI => ?_
 refine Awp.consP C ?_
 refine rvc_un (rexec_prim C (δ := { v := .ptr 2 0, new := [(2, .cells [.pv (.lit (.int .u8 0)), .pv (.lit (.int .u8 0)), .pv (.lit (.int .u8 0)), .pv (.lit (.int .u8 0)), .pv (.lit (.int .u8 0)), .pv (.lit (.int .u8 0)), .pv (.lit (.int .u8 0)), .pv (.lit (.int .u8 0))])] }) rfl rfl rfl rfl trivial rfl ?_)
 refine rvc_nil ?_
 refine Awp.consP C ?_
 refine rvc_un (rexec_prim C (δ := { v := .ptr 3 0, new := [(3, .cells [.pv (.lit (.int .u8 0)), .pv (.lit (.int .u8 0)), .pv (.lit (.int .u8 0)), .pv (.lit (.int .u8 0)), .pv (.lit (.int .u8 0)), .pv (.lit (.int .u8 0)), .pv (.lit (.int .u8 0)), .pv (.lit (.int .u8 0))])] }) rfl rfl rfl rfl trivial rfl ?_)
 refine rvc_nil ?_
 refine Awp.seq ?_
 refine Awp.consP C ?_
 refine rvP C (.pv (.lit (.int .i64 0))) ?_
 refine rvc_nil ?_
 refine Awp.block ?_
 refine Awp.forR (σ := ((Nat → Int))) (8) (fun i v => [(0, .pv (.lit (.int .u64 w))), (2, .ptr 2 0), (3, .ptr 3 0), (5, .pv (.lit (.int .i64 (i : Int))))]) (fun i v => [(2, .cells [.pv (.lit (.int .u8 0)), .pv (.lit (.int .u8 0)), .pv (.lit (.int .u8 0)), .pv (.lit (.int .u8 0)), .pv (.lit (.int .u8 0)), .pv (.lit (.int .u8 0)), .pv (.lit (.int .u8 0)), .pv (.lit (.int .u8 0))]), (3, .cells [.pv (.lit (.int .u8 (v 0))), .pv (.lit (.int .u8 (v 1))), .pv (.lit (.int .u8 (v 2))), .pv (.lit (.int .u8 (v 3))), .pv (.lit (.int .u8 (v 4))), .pv (.lit (.int .u8 (v 5))), .pv (.lit (.int .u8 (v 6))), .pv (.lit (.int .u8 (v 7)))])]) [2, 3] (fun i v => unword_l0 w (8 - i) i v = R) (ofL [(0 : Int), 0, 0, 0, 0, 0, 0, 0]) ?_ ?_ (fun i vc h1 hR => ?_)
 · exact hR
 · exact ⟨fun b => b, WeakerR.ofL (Ks := [2, 3]) hI ⟨⟨rfl, rfl⟩, ⟨rfl, rfl⟩, ⟨rfl, rfl⟩, ⟨rfl, rfl⟩, trivial⟩ (okH_cons rfl rfl rfl rfl (okH_cons rfl rfl rfl rfl (okH_nil))) rfl⟩
 refine Awp.consP C ?_
 refine rvP C (.pv (.lit (.bool (decide ((i : Int) < 8))))) ?_
 refine rvc_nil ?_
 refine Awp.seq ?_
 refine Awp.cond (b := (decide ((i : Int) < 8))) rfl (fun h2 => ?_) (fun h2 => ?_)
 ·
  have h3 : i < 8 := by have := of_decide_eq_true h2; omega
  obtain ⟨k, h4⟩ : ∃ k, 8 - i = k + 1 := ⟨8 - i - 1, by omega⟩
  rw [h4] at hR
  refine Awp.skip ?_
  refine Awp.seq ?_
  refine Awp.block ?_
  refine Awp.consP C ?_
  refine rvP C (.pv (.lit (.int .i64 (i : Int)))) ?_
  refine rvP C (.pv (.lit (.int .i64 (i : Int)))) ?_
  refine rvc_nil ?_
  refine Awp.regionP C ?_
  refine rvP C (.pv (.lit (.int .i64 (i : Int)))) ?_
  refine rvP C (.pv (.lit (.int .u64 w))) ?_
  refine rvP C (.pv (.lit (.int .i64 (i : Int)))) ?_
  refine rvP C (.pv (.lit (.int .i64 (IntKind.i64.wrap (8 * (i : Int)))))) ?_
  refine rvP C (.pv (.lit (.int .i64 (IntKind.i64.wrap (56 - (IntKind.i64.wrap (8 * (i : Int)))))))) ?_
  refine rvc_un (rexec_prim C (δ := { v := .pv (.lit (.int .u64 (shrI .u64 w (IntKind.i64.wrap (56 - (IntKind.i64.wrap (8 * (i : Int)))))))) }) rfl rfl rfl rfl (by have := wrapI (8 * (i : Int)); have := wrapI (56 - IntKind.i64.wrap (8 * (i : Int))); omega) rfl ?_)
  refine rvP C (.pv (.lit (.int .u8 (IntKind.u8.wrap (shrI .u64 w (IntKind.i64.wrap (56 - (IntKind.i64.wrap (8 * (i : Int)))))))))) ?_
  refine rvc_un (rexec_prim C (δ := { v := .ptr 3 (0 + i * 1) }) rfl rfl rfl rfl ⟨(by have := of_decide_eq_true h2; omega), (by have := of_decide_eq_true h2; omega)⟩ rfl ?_)
  refine rvc_un (rexec_storeA C [] [] (fun z => .lit (.int .u8 z)) vc 8 i (IntKind.u8.wrap (shrI .u64 w (IntKind.i64.wrap (56 - (IntKind.i64.wrap (8 * (i : Int))))))) [.pv (.lit (.int .u8 ((updA vc i (IntKind.u8.wrap (shrI .u64 w (IntKind.i64.wrap (56 - (IntKind.i64.wrap (8 * (i : Int)))))))) 0))), .pv (.lit (.int .u8 ((updA vc i (IntKind.u8.wrap (shrI .u64 w (IntKind.i64.wrap (56 - (IntKind.i64.wrap (8 * (i : Int)))))))) 1))), .pv (.lit (.int .u8 ((updA vc i (IntKind.u8.wrap (shrI .u64 w (IntKind.i64.wrap (56 - (IntKind.i64.wrap (8 * (i : Int)))))))) 2))), .pv (.lit (.int .u8 ((updA vc i (IntKind.u8.wrap (shrI .u64 w (IntKind.i64.wrap (56 - (IntKind.i64.wrap (8 * (i : Int)))))))) 3))), .pv (.lit (.int .u8 ((updA vc i (IntKind.u8.wrap (shrI .u64 w (IntKind.i64.wrap (56 - (IntKind.i64.wrap (8 * (i : Int)))))))) 4))), .pv (.lit (.int .u8 ((updA vc i (IntKind.u8.wrap (shrI .u64 w (IntKind.i64.wrap (56 - (IntKind.i64.wrap (8 * (i : Int)))))))) 5))), .pv (.lit (.int .u8 ((updA vc i (IntKind.u8.wrap (shrI .u64 w (IntKind.i64.wrap (56 - (IntKind.i64.wrap (8 * (i : Int)))))))) 6))), .pv (.lit (.int .u8 ((updA vc i (IntKind.u8.wrap (shrI .u64 w (IntKind.i64.wrap (56 - (IntKind.i64.wrap (8 * (i : Int)))))))) 7)))] rfl rfl rfl rfl rfl rfl (by have := of_decide_eq_true h2; omega) rfl ?_)
  refine rvc_nil ?_
  refine Awp.regionP C ?_
  refine rvP C (.pv (.lit (.int .i64 (IntKind.i64.wrap ((i : Int) + 1))))) ?_
  refine rvP C (.pv (.lit (.int .i64 (IntKind.i64.wrap ((i : Int) + 1))))) ?_
  refine rvc_nil ?_
  refine ⟨h3, (updA vc i (IntKind.u8.wrap (shrI .u64 w (IntKind.i64.wrap (56 - (IntKind.i64.wrap (8 * (i : Int)))))))), ?_, ?_⟩
  · exact (by rw [show 8 - (i + 1) = k by omega]; exact hR)
  · exact ⟨fun b => b, WeakerR.ofL (Ks := [2, 3]) hI ⟨⟨rfl, rfl⟩, ⟨rfl, rfl⟩, ⟨rfl, rfl⟩, ⟨lit_cast (wrap_i64 (by omega) (by omega)), rfl⟩, trivial⟩ (okH_cons rfl rfl rfl rfl (okH_cons rfl rfl rfl rfl (okH_nil))) rfl⟩
 ·
  rw [show 8 - i = 0 by have := of_decide_eq_false h2; omega] at hR
  refine Awp.exit ?_
  refine Awp.consP C ?_
  refine rvP C (.agg [.pv (.lit (.int .u8 (vc 0))), .pv (.lit (.int .u8 (vc 1))), .pv (.lit (.int .u8 (vc 2))), .pv (.lit (.int .u8 (vc 3))), .pv (.lit (.int .u8 (vc 4))), .pv (.lit (.int .u8 (vc 5))), .pv (.lit (.int .u8 (vc 6))), .pv (.lit (.int .u8 (vc 7)))]) ?_
  refine rvc_un (rexec_prim C (δ := { v := .undef, wr := [(2, some (.cells [.pv (.lit (.int .u8 (vc 0))), .pv (.lit (.int .u8 (vc 1))), .pv (.lit (.int .u8 (vc 2))), .pv (.lit (.int .u8 (vc 3))), .pv (.lit (.int .u8 (vc 4))), .pv (.lit (.int .u8 (vc 5))), .pv (.lit (.int .u8 (vc 6))), .pv (.lit (.int .u8 (vc 7)))]))] }) rfl rfl rfl rfl trivial rfl ?_)
  refine rvc_nil ?_
  refine Awp.ret ?_
  subst hR
  exact ⟨.inl rfl, rfl⟩
end Go.Proofs.YthnghkkbnhjlgaaDoor
/- What was seen, read out of bytes, in plain words. No conditions. -/
namespace Go.Proofs.YthnghkkbnhjlgaaDoor
open Go.Am
/-- So many of what was seen, out of bytes; and what is left. -/
def decS : Nat → List Int → Option (List Seen × List Int)
  | 0, l => some ([], l)
  | n + 1, l => match vd 0 l with
    | none => none
    | some (w, r) => match rin 1 1099511627776 r with
      | none => none
      | some (v, r2) => match decS n r2 with
        | none => none
        | some (xs, r3) => some (Seen.mk (unw (w : Int)) (v : Int) :: xs, r3)
def back (x : Seen) : Seen := Seen.mk (unw (word x.key)) x.ver
theorem rin_some {lo hi : Int} {l : List Int} {n : Nat} {r : List Int} (h : rin lo hi l = some (n, r)) : vd 0 l = some (n, r) ∧ (n : Int) ≤ 4611686018427387904 ∧ lo ≤ (n : Int) ∧ (n : Int) ≤ hi := by
  unfold rin at h
  cases hv : vd 0 l with
  | none => rw [hv] at h; cases h
  | some q =>
    obtain ⟨m, s⟩ := q
    rw [hv] at h
    dsimp only at h
    by_cases hc : (m : Int) ≤ 4611686018427387904 ∧ lo ≤ (m : Int) ∧ (m : Int) ≤ hi
    · rw [if_pos hc] at h
      injection h with h; injection h with h1 h2
      subst h1; subst h2
      exact ⟨rfl, hc⟩
    · rw [if_neg hc] at h; cases h
theorem decS_enc : ∀ (xs : List Seen) (r : List Int), (∀ x ∈ xs, 1 ≤ x.ver ∧ x.ver ≤ 1099511627776) → decS xs.length (encS xs ++ r) = some (xs.map back, r)
  | [], r, _ => rfl
  | x :: xs, r, h => by
    have hx := h x (by simp)
    have hw := word_ok x.key
    have e1 : vd 0 (vb (word x.key).toNat ++ (vb (IntKind.u64.wrap x.ver).toNat ++ (encS xs ++ r))) = some ((word x.key).toNat, vb (IntKind.u64.wrap x.ver).toNat ++ (encS xs ++ r)) := vb_vd _ 0 _ (by omega) (fun q => absurd q (Nat.lt_irrefl 0))
    have hv : IntKind.u64.wrap x.ver = x.ver := by rw [wrapU]; omega
    have e2 : vd 0 (vb x.ver.toNat ++ (encS xs ++ r)) = some (x.ver.toNat, encS xs ++ r) := vb_vd _ 0 _ (by omega) (fun q => absurd q (Nat.lt_irrefl 0))
    have e3 : rin 1 1099511627776 (vb x.ver.toNat ++ (encS xs ++ r)) = some (x.ver.toNat, encS xs ++ r) := by
      unfold rin
      rw [e2]
      dsimp only
      rw [if_pos (by omega)]
    rw [hv] at e1
    show decS (xs.length + 1) (vb (word x.key).toNat ++ (vb (IntKind.u64.wrap x.ver).toNat ++ encS xs) ++ r) = _
    rw [hv, List.append_assoc, List.append_assoc]
    unfold decS
    rw [e1]
    dsimp only
    rw [e3]
    dsimp only
    rw [decS_enc xs r fun y hy => h y (by simp [hy])]
    dsimp only
    rw [Int.toNat_of_nonneg hw.1, Int.toNat_of_nonneg (by omega)]
    rfl
theorem enc_decS : ∀ (n : Nat) (l : List Int) (xs : List Seen) (r : List Int), (∀ x ∈ l, 0 ≤ x ∧ x < 256) → decS n l = some (xs, r) → l = encS xs ++ r ∧ xs.length = n ∧ KB xs ∧ (∀ x ∈ xs, 1 ≤ x.ver ∧ x.ver ≤ 1099511627776) ∧ xs.map back = xs
  | 0, l, xs, r, _, h => by
    unfold decS at h
    injection h with h; injection h with h1 h2
    subst h1; subst h2
    exact ⟨rfl, rfl, (fun x hx => nomatch hx), (fun x hx => nomatch hx), rfl⟩
  | n + 1, l, xs, r, hD, h => by
    unfold decS at h
    cases e1 : vd 0 l with
    | none => rw [e1] at h; cases h
    | some q =>
      obtain ⟨w, r1⟩ := q
      rw [e1] at h
      dsimp only at h
      obtain ⟨f1, _, f3⟩ := vd_vb 0 l w r1 hD e1
      have hD1 : ∀ x ∈ r1, 0 ≤ x ∧ x < 256 := fun x hx => hD x (by rw [f1]; simp [hx])
      cases e2 : rin 1 1099511627776 r1 with
      | none => rw [e2] at h; cases h
      | some q =>
        obtain ⟨v, r2⟩ := q
        rw [e2] at h
        dsimp only at h
        obtain ⟨g1, g2, g3, g4⟩ := rin_some e2
        obtain ⟨k1, _, _⟩ := vd_vb 0 r1 v r2 hD1 g1
        have hD2 : ∀ x ∈ r2, 0 ≤ x ∧ x < 256 := fun x hx => hD1 x (by rw [k1]; simp [hx])
        cases e3 : decS n r2 with
        | none => rw [e3] at h; cases h
        | some q =>
          obtain ⟨ys, r3⟩ := q
          rw [e3] at h
          dsimp only at h
          injection h with h; injection h with h1 h2
          subst h1; subst h2
          obtain ⟨i1, i2, i3, i4, i5⟩ := enc_decS n r2 ys r3 hD2 e3
          have hw : word (unw (w : Int)) = (w : Int) := word_unw (by omega) (by omega)
          refine ⟨?_, by rw [List.length_cons, i2], ?_, ?_, ?_⟩
          · unfold encS
            have hv : IntKind.u64.wrap (v : Int) = (v : Int) := by rw [wrapU]; omega
            dsimp only
            rw [hw, hv, Int.toNat_natCast, Int.toNat_natCast, List.append_assoc, List.append_assoc, ← i1, ← k1, ← f1]
          · intro x hx
            rcases List.mem_cons.1 hx with rfl | hx
            · exact unw_B _
            · exact i3 x hx
          · intro x hx
            rcases List.mem_cons.1 hx with rfl | hx
            · exact ⟨g3, g4⟩
            · exact i4 x hx
          · rw [List.map_cons, i5]
            unfold back
            dsimp only
            rw [hw]
end Go.Proofs.YthnghkkbnhjlgaaDoor
/- Keys of numbers; readers' numbers are bounded. No conditions. -/
namespace Go.Proofs.YthnghkkbnhjlgaaDoor
open Go.Am
theorem unword_l0_at (w : Int) : ∀ (k i : Nat) (vc : Nat → Int) (t : Nat), k + i = 8 → unword_l0 w k i vc t = if i ≤ t ∧ t < 8 then unw w t else vc t
  | 0, i, vc, t, h => by
    unfold unword_l0
    rw [if_neg (by omega)]
  | k + 1, i, vc, t, h => by
    unfold unword_l0
    rw [unword_l0_at w k (i + 1) _ t (by omega)]
    by_cases h1 : i + 1 ≤ t ∧ t < 8
    · rw [if_pos h1, if_pos ⟨by omega, h1.2⟩]
    · rw [if_neg h1]
      unfold updA
      by_cases h2 : t = i
      · subst h2
        have e : IntKind.i64.wrap (56 - (IntKind.i64.wrap (8 * (t : Int)))) = ((56 - 8 * t : Nat) : Int) := by
          have := wrapI (8 * (t : Int)); have := wrapI (56 - IntKind.i64.wrap (8 * (t : Int))); omega
        rw [show (t == t) = true from beq_self_eq_true t, cond_true, if_pos ⟨Nat.le_refl _, by omega⟩, e]; rfl
      · rw [show (t == i) = false by simpa using h2, cond_false, if_neg (by omega)]
theorem unword_at (w : Int) {t : Nat} (ht : t < 8) : unword w t = unw w t := by
  unfold unword
  rw [unword_l0_at w 8 0 _ t rfl, if_pos ⟨Nat.zero_le _, ht⟩]
theorem unword_B (w : Int) : KeyB (unword w) := fun j hj => by rw [unword_at w hj]; exact unw_B w j hj
theorem kL_unword (w : Int) : kL (unword w) = kL (unw w) := tbF_congr 8 0 fun t _ ht => unword_at w (by omega)
theorem KB_snoc {l : List Seen} {k : Nat → Int} {v : Int} (h : KB l) (hk : KeyB k) : KB (l ++ [Seen.mk k v]) := fun x hx => by
  rcases List.mem_append.1 hx with hx | hx
  · exact h x hx
  · rw [List.mem_singleton.1 hx]; exact hk
theorem rdIn_hi (r : Reader) (lo hi : Int) (h : 0 ≤ hi) : (rdIn r lo hi).2 ≤ hi := by
  unfold rdIn
  cases (rdErr (rdNum r).1 != 0)
  · rw [cond_false]
    cases decide ((rdNum r).2 > 4611686018427387904)
    · rw [cond_false]
      cases decide (IntKind.i64.wrap (rdNum r).2 < lo)
      · rw [cond_false]
        cases e : decide (IntKind.i64.wrap (rdNum r).2 > hi)
        · rw [cond_false]
          have := of_decide_eq_false e
          dsimp only; omega
        · exact h
      · exact h
    · exact h
  · exact h
end Go.Proofs.YthnghkkbnhjlgaaDoor
/- The middle of two places. No conditions. -/
namespace Go.Proofs.YthnghkkbnhjlgaaDoor
open Go.Am
theorem mid_eq {i j : Int} (h1 : 0 ≤ i) (h2 : i ≤ j) (h3 : j ≤ 1000000) : IntKind.i64.wrap (shrI .u64 (IntKind.u64.wrap (IntKind.i64.wrap (i + j))) 1) = (i + j) / 2 := by
  have e1 : IntKind.i64.wrap (i + j) = i + j := wrapP (by omega)
  have e2 : IntKind.u64.wrap (i + j) = i + j := by rw [wrapU]; omega
  have e3 : shrI .u64 (i + j) 1 = (i + j) / 2 := rfl
  rw [e1, e2, e3, wrapP (by omega)]
end Go.Proofs.YthnghkkbnhjlgaaDoor
/- Where a key stands. No conditions. -/
namespace Go.Proofs.YthnghkkbnhjlgaaDoor
open Go.Am
def bsearch_l0 (x : (Sl Seen)) (target : (Nat → Int)) (cmp : Seen → (Nat → Int) → Int) : Nat → Int → Int → Int × Bool
  | 0, _, _ => default
  | nn + 1, i, j => (bif (decide (i < j)) then (bif (decide ((cmp (Seen.mk (ofL [(x.D[(IntKind.i64.wrap (shrI .u64 (IntKind.u64.wrap (IntKind.i64.wrap (i + j))) 1)).toNat]!.key 0), (x.D[(IntKind.i64.wrap (shrI .u64 (IntKind.u64.wrap (IntKind.i64.wrap (i + j))) 1)).toNat]!.key 1), (x.D[(IntKind.i64.wrap (shrI .u64 (IntKind.u64.wrap (IntKind.i64.wrap (i + j))) 1)).toNat]!.key 2), (x.D[(IntKind.i64.wrap (shrI .u64 (IntKind.u64.wrap (IntKind.i64.wrap (i + j))) 1)).toNat]!.key 3), (x.D[(IntKind.i64.wrap (shrI .u64 (IntKind.u64.wrap (IntKind.i64.wrap (i + j))) 1)).toNat]!.key 4), (x.D[(IntKind.i64.wrap (shrI .u64 (IntKind.u64.wrap (IntKind.i64.wrap (i + j))) 1)).toNat]!.key 5), (x.D[(IntKind.i64.wrap (shrI .u64 (IntKind.u64.wrap (IntKind.i64.wrap (i + j))) 1)).toNat]!.key 6), (x.D[(IntKind.i64.wrap (shrI .u64 (IntKind.u64.wrap (IntKind.i64.wrap (i + j))) 1)).toNat]!.key 7)]) (x.D[(IntKind.i64.wrap (shrI .u64 (IntKind.u64.wrap (IntKind.i64.wrap (i + j))) 1)).toNat]!.ver)) target) < 0)) then bsearch_l0 x target cmp nn (IntKind.i64.wrap ((IntKind.i64.wrap (shrI .u64 (IntKind.u64.wrap (IntKind.i64.wrap (i + j))) 1)) + 1)) j else bsearch_l0 x target cmp nn i (IntKind.i64.wrap (shrI .u64 (IntKind.u64.wrap (IntKind.i64.wrap (i + j))) 1))) else (bif (decide (i < (x.D.length : Int))) then (i, ((cmp (Seen.mk (ofL [(x.D[i.toNat]!.key 0), (x.D[i.toNat]!.key 1), (x.D[i.toNat]!.key 2), (x.D[i.toNat]!.key 3), (x.D[i.toNat]!.key 4), (x.D[i.toNat]!.key 5), (x.D[i.toNat]!.key 6), (x.D[i.toNat]!.key 7)]) (x.D[i.toNat]!.ver)) target) == 0)) else (i, false)))
def bsearch (x : (Sl Seen)) (target : (Nat → Int)) (cmp : Seen → (Nat → Int) → Int) : Int × Bool :=
  bsearch_l0 x target cmp (((x.D.length : Int) - 0).toNat + 1) 0 (x.D.length : Int)
theorem bsearch_calls (x : (Sl Seen)) (target : (Nat → Int)) (cmp : Seen → (Nat → Int) → Int) (g2 : Nat) (caps2 : List AV) (hp2 : ∀ (x0 : Seen) (x1 : (Nat → Int)), PCalls Tryd.prog g2 ([.agg [.pv (.lit (.int .u8 (x0.key 0))), .pv (.lit (.int .u8 (x0.key 1))), .pv (.lit (.int .u8 (x0.key 2))), .pv (.lit (.int .u8 (x0.key 3))), .pv (.lit (.int .u8 (x0.key 4))), .pv (.lit (.int .u8 (x0.key 5))), .pv (.lit (.int .u8 (x0.key 6))), .pv (.lit (.int .u8 (x0.key 7))), .pv (.lit (.int .i64 x0.ver))], .agg [.pv (.lit (.int .u8 (x1 0))), .pv (.lit (.int .u8 (x1 1))), .pv (.lit (.int .u8 (x1 2))), .pv (.lit (.int .u8 (x1 3))), .pv (.lit (.int .u8 (x1 4))), .pv (.lit (.int .u8 (x1 5))), .pv (.lit (.int .u8 (x1 6))), .pv (.lit (.int .u8 (x1 7)))]] ++ caps2) (.pv (.lit (.int .i64 (cmp x0 x1))))) (hw2 : AV.withinL (fun _ => false) caps2 = true) (hn : x.D.length ≤ 1000000) : PCalls Tryd.prog 62 [sS (some x.nil) eSeen x.D, .agg [.pv (.lit (.int .u8 (target 0))), .pv (.lit (.int .u8 (target 1))), .pv (.lit (.int .u8 (target 2))), .pv (.lit (.int .u8 (target 3))), .pv (.lit (.int .u8 (target 4))), .pv (.lit (.int .u8 (target 5))), .pv (.lit (.int .u8 (target 6))), .pv (.lit (.int .u8 (target 7)))], .fn g2 [] caps2] (.tup [.pv (.lit (.int .i64 ((bsearch x target cmp).1))), .pv (.lit (.bool ((bsearch x target cmp).2)))]) := by
 generalize hR : bsearch x target cmp = R
 refine PCalls.of_body tabOk Tryd.func62 rfl rfl rfl (by simp [AV.withinL, AV.within, sS, hw2]) rfl mixed fun E hP C hI => ?_
 refine Awp.consP C ?_
 refine rvc_un (rexec_prim C (δ := { v := .ptr 4 0, new := [(4, .cells [.pv (.lit (.int .u8 (target 0))), .pv (.lit (.int .u8 (target 1))), .pv (.lit (.int .u8 (target 2))), .pv (.lit (.int .u8 (target 3))), .pv (.lit (.int .u8 (target 4))), .pv (.lit (.int .u8 (target 5))), .pv (.lit (.int .u8 (target 6))), .pv (.lit (.int .u8 (target 7)))])] }) rfl rfl rfl rfl trivial rfl ?_)
 refine rvP C (.pv (.lit (.int .i64 0))) ?_
 refine rvP C (.pv (.lit (.bool false))) ?_
 refine rvc_nil ?_
 refine Awp.consP C ?_
 refine rvP C (sS (some x.nil) eSeen x.D) ?_
 refine rvP C (.pv (.lit (.int .i64 (x.D.length : Int)))) ?_
 refine rvP C (.pv (.lit (.int .i64 (x.D.length : Int)))) ?_
 refine rvc_nil ?_
 refine Awp.consP C ?_
 refine rvP C (.pv (.lit (.int .i64 (x.D.length : Int)))) ?_
 refine rvP C (.pv (.lit (.int .i64 0))) ?_
 refine rvP C (.pv (.lit (.int .i64 (x.D.length : Int)))) ?_
 refine rvc_nil ?_
 refine Awp.seq ?_
 refine Awp.block ?_
 refine Awp.forM (σ := Int × Int) (fun v => [(0, sS (some x.nil) eSeen x.D), (2, .fn g2 [] caps2), (4, .ptr 4 0), (8, .pv (.lit (.int .i64 (x.D.length : Int)))), (9, .pv (.lit (.int .i64 v.1))), (10, .pv (.lit (.int .i64 v.2)))]) (fun v => [(4, .cells [.pv (.lit (.int .u8 (target 0))), .pv (.lit (.int .u8 (target 1))), .pv (.lit (.int .u8 (target 2))), .pv (.lit (.int .u8 (target 3))), .pv (.lit (.int .u8 (target 4))), .pv (.lit (.int .u8 (target 5))), .pv (.lit (.int .u8 (target 6))), .pv (.lit (.int .u8 (target 7)))])]) [4] (fun n v => (v.2 - v.1).toNat ≤ n ∧ bsearch_l0 x target cmp (n + 1) v.1 v.2 = R ∧ (0 ≤ v.1 ∧ v.1 ≤ v.2 ∧ v.2 ≤ (x.D.length : Int))) (((x.D.length : Int) - 0).toNat) (0, (x.D.length : Int)) ?_ ?_ (fun n_ v h1 => ?_)
 · exact ⟨Nat.le_refl _, hR, (by dsimp only; omega)⟩
 · exact ⟨fun b => b, WeakerR.ofL (Ks := [4]) hI ⟨⟨rfl, rfl⟩, ⟨fn_to rfl hw2, fn_win hw2⟩, ⟨rfl, rfl⟩, ⟨rfl, rfl⟩, ⟨rfl, rfl⟩, ⟨rfl, rfl⟩, trivial⟩ (okH_cons rfl rfl rfl rfl (okH_nil)) rfl⟩
 obtain ⟨i, j⟩ := v
 obtain ⟨hm_, hR, hV⟩ := h1
 replace hm_ : (j - i).toNat ≤ n_ := hm_
 replace hV : 0 ≤ i ∧ i ≤ j ∧ j ≤ (x.D.length : Int) := hV
 have hm_ := mid_eq hV.1 hV.2.1 (by omega)
 refine Awp.seq ?_
 refine Awp.consP C ?_
 refine rvP C (.pv (.lit (.int .i64 i))) ?_
 refine rvP C (.pv (.lit (.int .i64 j))) ?_
 refine rvP C (.pv (.lit (.bool (decide (i < j))))) ?_
 refine rvc_nil ?_
 refine Awp.cond (b := (decide (i < j))) rfl (fun h3 => ?_) (fun h3 => ?_)
 ·
  replace hR := of_true h3 hR
  refine Awp.skip ?_
  refine Awp.block ?_
  refine Awp.consP C ?_
  refine rvP C (.pv (.lit (.int .i64 i))) ?_
  refine rvP C (.pv (.lit (.int .i64 j))) ?_
  refine rvP C (.pv (.lit (.int .i64 (IntKind.i64.wrap (i + j))))) ?_
  refine rvP C (.pv (.lit (.int .u64 (IntKind.u64.wrap (IntKind.i64.wrap (i + j)))))) ?_
  refine rvc_un (rexec_prim C (δ := { v := .pv (.lit (.int .u64 (shrI .u64 (IntKind.u64.wrap (IntKind.i64.wrap (i + j))) 1))) }) rfl rfl rfl rfl (by first | decide | assumption | omega) rfl ?_)
  refine rvP C (.pv (.lit (.int .i64 (IntKind.i64.wrap (shrI .u64 (IntKind.u64.wrap (IntKind.i64.wrap (i + j))) 1))))) ?_
  refine rvP C (.pv (.lit (.int .i64 (IntKind.i64.wrap (shrI .u64 (IntKind.u64.wrap (IntKind.i64.wrap (i + j))) 1))))) ?_
  refine rvc_nil ?_
  refine Awp.consP C ?_
  refine rvP C (.fn g2 [] caps2) ?_
  refine rvP C (sS (some x.nil) eSeen x.D) ?_
  refine rvP C (.pv (.lit (.int .i64 (IntKind.i64.wrap (shrI .u64 (IntKind.u64.wrap (IntKind.i64.wrap (i + j))) 1))))) ?_
  have h4 : x.D[(IntKind.i64.wrap (shrI .u64 (IntKind.u64.wrap (IntKind.i64.wrap (i + j))) 1)).toNat]? = some x.D[(IntKind.i64.wrap (shrI .u64 (IntKind.u64.wrap (IntKind.i64.wrap (i + j))) 1)).toNat]! := getE (by have := wrapI (shrI .u64 (IntKind.u64.wrap (IntKind.i64.wrap (i + j))) 1); have := wrapI (i + j); have := of_decide_eq_true h3; omega)
  refine rvc_un (rexec_idxS C rfl rfl rfl rfl rfl rfl (x.D[(IntKind.i64.wrap (shrI .u64 (IntKind.u64.wrap (IntKind.i64.wrap (i + j))) 1)).toNat]!) (by have := wrapI (shrI .u64 (IntKind.u64.wrap (IntKind.i64.wrap (i + j))) 1); have := wrapI (i + j); have := of_decide_eq_true h3; omega) h4 ?_)
  refine rvP C (.agg [.pv (.lit (.int .u8 (x.D[(IntKind.i64.wrap (shrI .u64 (IntKind.u64.wrap (IntKind.i64.wrap (i + j))) 1)).toNat]!.key 0))), .pv (.lit (.int .u8 (x.D[(IntKind.i64.wrap (shrI .u64 (IntKind.u64.wrap (IntKind.i64.wrap (i + j))) 1)).toNat]!.key 1))), .pv (.lit (.int .u8 (x.D[(IntKind.i64.wrap (shrI .u64 (IntKind.u64.wrap (IntKind.i64.wrap (i + j))) 1)).toNat]!.key 2))), .pv (.lit (.int .u8 (x.D[(IntKind.i64.wrap (shrI .u64 (IntKind.u64.wrap (IntKind.i64.wrap (i + j))) 1)).toNat]!.key 3))), .pv (.lit (.int .u8 (x.D[(IntKind.i64.wrap (shrI .u64 (IntKind.u64.wrap (IntKind.i64.wrap (i + j))) 1)).toNat]!.key 4))), .pv (.lit (.int .u8 (x.D[(IntKind.i64.wrap (shrI .u64 (IntKind.u64.wrap (IntKind.i64.wrap (i + j))) 1)).toNat]!.key 5))), .pv (.lit (.int .u8 (x.D[(IntKind.i64.wrap (shrI .u64 (IntKind.u64.wrap (IntKind.i64.wrap (i + j))) 1)).toNat]!.key 6))), .pv (.lit (.int .u8 (x.D[(IntKind.i64.wrap (shrI .u64 (IntKind.u64.wrap (IntKind.i64.wrap (i + j))) 1)).toNat]!.key 7))), .pv (.lit (.int .i64 (x.D[(IntKind.i64.wrap (shrI .u64 (IntKind.u64.wrap (IntKind.i64.wrap (i + j))) 1)).toNat]!.ver)))]) ?_
  refine rvP C (.agg [.pv (.lit (.int .u8 (target 0))), .pv (.lit (.int .u8 (target 1))), .pv (.lit (.int .u8 (target 2))), .pv (.lit (.int .u8 (target 3))), .pv (.lit (.int .u8 (target 4))), .pv (.lit (.int .u8 (target 5))), .pv (.lit (.int .u8 (target 6))), .pv (.lit (.int .u8 (target 7)))]) ?_
  refine rvc_un (rexec_callV hP C rfl rfl rfl rfl (hp2 (Seen.mk (ofL [(x.D[(IntKind.i64.wrap (shrI .u64 (IntKind.u64.wrap (IntKind.i64.wrap (i + j))) 1)).toNat]!.key 0), (x.D[(IntKind.i64.wrap (shrI .u64 (IntKind.u64.wrap (IntKind.i64.wrap (i + j))) 1)).toNat]!.key 1), (x.D[(IntKind.i64.wrap (shrI .u64 (IntKind.u64.wrap (IntKind.i64.wrap (i + j))) 1)).toNat]!.key 2), (x.D[(IntKind.i64.wrap (shrI .u64 (IntKind.u64.wrap (IntKind.i64.wrap (i + j))) 1)).toNat]!.key 3), (x.D[(IntKind.i64.wrap (shrI .u64 (IntKind.u64.wrap (IntKind.i64.wrap (i + j))) 1)).toNat]!.key 4), (x.D[(IntKind.i64.wrap (shrI .u64 (IntKind.u64.wrap (IntKind.i64.wrap (i + j))) 1)).toNat]!.key 5), (x.D[(IntKind.i64.wrap (shrI .u64 (IntKind.u64.wrap (IntKind.i64.wrap (i + j))) 1)).toNat]!.key 6), (x.D[(IntKind.i64.wrap (shrI .u64 (IntKind.u64.wrap (IntKind.i64.wrap (i + j))) 1)).toNat]!.key 7)]) (x.D[(IntKind.i64.wrap (shrI .u64 (IntKind.u64.wrap (IntKind.i64.wrap (i + j))) 1)).toNat]!.ver)) target) rfl ?_)
  refine rvP C (.pv (.lit (.bool (decide ((cmp (Seen.mk (ofL [(x.D[(IntKind.i64.wrap (shrI .u64 (IntKind.u64.wrap (IntKind.i64.wrap (i + j))) 1)).toNat]!.key 0), (x.D[(IntKind.i64.wrap (shrI .u64 (IntKind.u64.wrap (IntKind.i64.wrap (i + j))) 1)).toNat]!.key 1), (x.D[(IntKind.i64.wrap (shrI .u64 (IntKind.u64.wrap (IntKind.i64.wrap (i + j))) 1)).toNat]!.key 2), (x.D[(IntKind.i64.wrap (shrI .u64 (IntKind.u64.wrap (IntKind.i64.wrap (i + j))) 1)).toNat]!.key 3), (x.D[(IntKind.i64.wrap (shrI .u64 (IntKind.u64.wrap (IntKind.i64.wrap (i + j))) 1)).toNat]!.key 4), (x.D[(IntKind.i64.wrap (shrI .u64 (IntKind.u64.wrap (IntKind.i64.wrap (i + j))) 1)).toNat]!.key 5), (x.D[(IntKind.i64.wrap (shrI .u64 (IntKind.u64.wrap (IntKind.i64.wrap (i + j))) 1)).toNat]!.key 6), (x.D[(IntKind.i64.wrap (shrI .u64 (IntKind.u64.wrap (IntKind.i64.wrap (i + j))) 1)).toNat]!.key 7)]) (x.D[(IntKind.i64.wrap (shrI .u64 (IntKind.u64.wrap (IntKind.i64.wrap (i + j))) 1)).toNat]!.ver)) target) < 0))))) ?_
  refine rvc_nil ?_
  refine Awp.cond (b := (decide ((cmp (Seen.mk (ofL [(x.D[(IntKind.i64.wrap (shrI .u64 (IntKind.u64.wrap (IntKind.i64.wrap (i + j))) 1)).toNat]!.key 0), (x.D[(IntKind.i64.wrap (shrI .u64 (IntKind.u64.wrap (IntKind.i64.wrap (i + j))) 1)).toNat]!.key 1), (x.D[(IntKind.i64.wrap (shrI .u64 (IntKind.u64.wrap (IntKind.i64.wrap (i + j))) 1)).toNat]!.key 2), (x.D[(IntKind.i64.wrap (shrI .u64 (IntKind.u64.wrap (IntKind.i64.wrap (i + j))) 1)).toNat]!.key 3), (x.D[(IntKind.i64.wrap (shrI .u64 (IntKind.u64.wrap (IntKind.i64.wrap (i + j))) 1)).toNat]!.key 4), (x.D[(IntKind.i64.wrap (shrI .u64 (IntKind.u64.wrap (IntKind.i64.wrap (i + j))) 1)).toNat]!.key 5), (x.D[(IntKind.i64.wrap (shrI .u64 (IntKind.u64.wrap (IntKind.i64.wrap (i + j))) 1)).toNat]!.key 6), (x.D[(IntKind.i64.wrap (shrI .u64 (IntKind.u64.wrap (IntKind.i64.wrap (i + j))) 1)).toNat]!.key 7)]) (x.D[(IntKind.i64.wrap (shrI .u64 (IntKind.u64.wrap (IntKind.i64.wrap (i + j))) 1)).toNat]!.ver)) target) < 0))) rfl (fun h5 => ?_) (fun h5 => ?_)
  ·
   replace hR := of_true h5 hR
   refine Awp.regionP C ?_
   refine rvP C (.pv (.lit (.int .i64 (IntKind.i64.wrap (shrI .u64 (IntKind.u64.wrap (IntKind.i64.wrap (i + j))) 1))))) ?_
   refine rvP C (.pv (.lit (.int .i64 (IntKind.i64.wrap ((IntKind.i64.wrap (shrI .u64 (IntKind.u64.wrap (IntKind.i64.wrap (i + j))) 1)) + 1))))) ?_
   refine rvP C (.pv (.lit (.int .i64 (IntKind.i64.wrap ((IntKind.i64.wrap (shrI .u64 (IntKind.u64.wrap (IntKind.i64.wrap (i + j))) 1)) + 1))))) ?_
   refine rvc_nil ?_
   have h6 : (j - (IntKind.i64.wrap ((IntKind.i64.wrap (shrI .u64 (IntKind.u64.wrap (IntKind.i64.wrap (i + j))) 1)) + 1))).toNat < (j - i).toNat := by have := wrapI ((IntKind.i64.wrap (shrI .u64 (IntKind.u64.wrap (IntKind.i64.wrap (i + j))) 1)) + 1); have := wrapI (shrI .u64 (IntKind.u64.wrap (IntKind.i64.wrap (i + j))) 1); have := wrapI (i + j); have := of_decide_eq_true h3; have := of_decide_eq_true h5; omega
   obtain ⟨nn, rfl⟩ : ∃ nn, n_ = nn + 1 := ⟨n_ - 1, by omega⟩
   refine ⟨nn, ((IntKind.i64.wrap ((IntKind.i64.wrap (shrI .u64 (IntKind.u64.wrap (IntKind.i64.wrap (i + j))) 1)) + 1)), j), by omega, ⟨by show (j - (IntKind.i64.wrap ((IntKind.i64.wrap (shrI .u64 (IntKind.u64.wrap (IntKind.i64.wrap (i + j))) 1)) + 1))).toNat ≤ nn; omega, hR, (by have := wrapI ((IntKind.i64.wrap (shrI .u64 (IntKind.u64.wrap (IntKind.i64.wrap (i + j))) 1)) + 1); have := wrapI (shrI .u64 (IntKind.u64.wrap (IntKind.i64.wrap (i + j))) 1); have := wrapI (i + j); have := of_decide_eq_true h3; have := of_decide_eq_true h5; omega)⟩, ?_⟩
   · exact ⟨fun b => b, WeakerR.ofL (Ks := [4]) hI ⟨⟨rfl, rfl⟩, ⟨fn_to rfl hw2, fn_win hw2⟩, ⟨rfl, rfl⟩, ⟨rfl, rfl⟩, ⟨rfl, rfl⟩, ⟨rfl, rfl⟩, trivial⟩ (okH_cons rfl rfl rfl rfl (okH_nil)) rfl⟩
  ·
   replace hR := of_false h5 hR
   refine Awp.regionP C ?_
   refine rvP C (.pv (.lit (.int .i64 (IntKind.i64.wrap (shrI .u64 (IntKind.u64.wrap (IntKind.i64.wrap (i + j))) 1))))) ?_
   refine rvP C (.pv (.lit (.int .i64 (IntKind.i64.wrap (shrI .u64 (IntKind.u64.wrap (IntKind.i64.wrap (i + j))) 1))))) ?_
   refine rvc_nil ?_
   have h7 : ((IntKind.i64.wrap (shrI .u64 (IntKind.u64.wrap (IntKind.i64.wrap (i + j))) 1)) - i).toNat < (j - i).toNat := by have := wrapI (shrI .u64 (IntKind.u64.wrap (IntKind.i64.wrap (i + j))) 1); have := wrapI (i + j); have := of_decide_eq_true h3; have := of_decide_eq_false h5; omega
   obtain ⟨nn, rfl⟩ : ∃ nn, n_ = nn + 1 := ⟨n_ - 1, by omega⟩
   refine ⟨nn, (i, (IntKind.i64.wrap (shrI .u64 (IntKind.u64.wrap (IntKind.i64.wrap (i + j))) 1))), by omega, ⟨by show ((IntKind.i64.wrap (shrI .u64 (IntKind.u64.wrap (IntKind.i64.wrap (i + j))) 1)) - i).toNat ≤ nn; omega, hR, (by have := wrapI (shrI .u64 (IntKind.u64.wrap (IntKind.i64.wrap (i + j))) 1); have := wrapI (i + j); have := of_decide_eq_true h3; have := of_decide_eq_false h5; omega)⟩, ?_⟩
   · exact ⟨fun b => b, WeakerR.ofL (Ks := [4]) hI ⟨⟨rfl, rfl⟩, ⟨fn_to rfl hw2, fn_win hw2⟩, ⟨rfl, rfl⟩, ⟨rfl, rfl⟩, ⟨rfl, rfl⟩, ⟨rfl, rfl⟩, trivial⟩ (okH_cons rfl rfl rfl rfl (okH_nil)) rfl⟩
 ·
  replace hR := of_false h3 hR
  refine Awp.exit ?_
  refine Awp.consP C ?_
  refine rvP C (.pv (.lit (.int .i64 i))) ?_
  refine rvP C (.pv (.lit (.int .i64 i))) ?_
  refine rvP C (.pv (.lit (.int .i64 (x.D.length : Int)))) ?_
  refine rvP C (.pv (.lit (.bool (decide (i < (x.D.length : Int)))))) ?_
  refine rvP C (.pv (.lit (.bool (decide (i < (x.D.length : Int)))))) ?_
  refine rvc_case 39 (decide (i < (x.D.length : Int))) rfl (fun h8 => ?_) (fun h8 => ?_)
  ·
   replace hR := of_true h8 hR
   refine rvO C (.fn g2 [] caps2) ?_
   refine rvO C (sS (some x.nil) eSeen x.D) ?_
   refine rvO C (.pv (.lit (.int .i64 i))) ?_
   have h9 : x.D[i.toNat]? = some x.D[i.toNat]! := getE (by have := of_decide_eq_false h3; have := of_decide_eq_true h8; omega)
   refine rvc_open rfl rfl rfl (rexec_idxS C rfl rfl rfl rfl rfl rfl (x.D[i.toNat]!) (by have := of_decide_eq_false h3; have := of_decide_eq_true h8; omega) h9 ?_)
   refine rvO C (.agg [.pv (.lit (.int .u8 (x.D[i.toNat]!.key 0))), .pv (.lit (.int .u8 (x.D[i.toNat]!.key 1))), .pv (.lit (.int .u8 (x.D[i.toNat]!.key 2))), .pv (.lit (.int .u8 (x.D[i.toNat]!.key 3))), .pv (.lit (.int .u8 (x.D[i.toNat]!.key 4))), .pv (.lit (.int .u8 (x.D[i.toNat]!.key 5))), .pv (.lit (.int .u8 (x.D[i.toNat]!.key 6))), .pv (.lit (.int .u8 (x.D[i.toNat]!.key 7))), .pv (.lit (.int .i64 (x.D[i.toNat]!.ver)))]) ?_
   refine rvO C (.agg [.pv (.lit (.int .u8 (target 0))), .pv (.lit (.int .u8 (target 1))), .pv (.lit (.int .u8 (target 2))), .pv (.lit (.int .u8 (target 3))), .pv (.lit (.int .u8 (target 4))), .pv (.lit (.int .u8 (target 5))), .pv (.lit (.int .u8 (target 6))), .pv (.lit (.int .u8 (target 7)))]) ?_
   refine rvc_open rfl rfl rfl (rexec_callV hP C rfl rfl rfl rfl (hp2 (Seen.mk (ofL [(x.D[i.toNat]!.key 0), (x.D[i.toNat]!.key 1), (x.D[i.toNat]!.key 2), (x.D[i.toNat]!.key 3), (x.D[i.toNat]!.key 4), (x.D[i.toNat]!.key 5), (x.D[i.toNat]!.key 6), (x.D[i.toNat]!.key 7)]) (x.D[i.toNat]!.ver)) target) rfl ?_)
   refine rvO C (.pv (.lit (.bool ((cmp (Seen.mk (ofL [(x.D[i.toNat]!.key 0), (x.D[i.toNat]!.key 1), (x.D[i.toNat]!.key 2), (x.D[i.toNat]!.key 3), (x.D[i.toNat]!.key 4), (x.D[i.toNat]!.key 5), (x.D[i.toNat]!.key 6), (x.D[i.toNat]!.key 7)]) (x.D[i.toNat]!.ver)) target) == 0)))) ?_
   refine rvP C (.pv (.lit (.bool ((cmp (Seen.mk (ofL [(x.D[i.toNat]!.key 0), (x.D[i.toNat]!.key 1), (x.D[i.toNat]!.key 2), (x.D[i.toNat]!.key 3), (x.D[i.toNat]!.key 4), (x.D[i.toNat]!.key 5), (x.D[i.toNat]!.key 6), (x.D[i.toNat]!.key 7)]) (x.D[i.toNat]!.ver)) target) == 0)))) ?_
   refine rvP C (.pv (.lit (.int .i64 i))) ?_
   refine rvP C (.pv (.lit (.bool ((cmp (Seen.mk (ofL [(x.D[i.toNat]!.key 0), (x.D[i.toNat]!.key 1), (x.D[i.toNat]!.key 2), (x.D[i.toNat]!.key 3), (x.D[i.toNat]!.key 4), (x.D[i.toNat]!.key 5), (x.D[i.toNat]!.key 6), (x.D[i.toNat]!.key 7)]) (x.D[i.toNat]!.ver)) target) == 0)))) ?_
   refine rvc_nil ?_
   refine Awp.ret ?_
   subst hR
   exact ⟨.inl rfl, rfl⟩
  ·
   replace hR := of_false h8 hR
   refine rvS ?_
   refine rvS ?_
   refine rvS ?_
   refine rvS ?_
   refine rvS ?_
   refine rvS ?_
   refine rvS ?_
   refine rvS ?_
   refine rvP C (.pv (.lit (.bool false))) ?_
   refine rvP C (.pv (.lit (.int .i64 i))) ?_
   refine rvP C (.pv (.lit (.bool false))) ?_
   refine rvc_nil ?_
   refine Awp.ret ?_
   subst hR
   exact ⟨.inl rfl, rfl⟩
def place (l : (Sl Seen)) (k : (Nat → Int)) : Int × Bool :=
  ((bsearch l k (fun x0 x1 => placeF x0 x1)).1, (bsearch l k (fun x0 x1 => placeF x0 x1)).2)
theorem place_calls (l : (Sl Seen)) (k : (Nat → Int)) (hn : l.D.length ≤ 1000000) : PCalls Tryd.prog 45 [sS (some l.nil) eSeen l.D, .agg [.pv (.lit (.int .u8 (k 0))), .pv (.lit (.int .u8 (k 1))), .pv (.lit (.int .u8 (k 2))), .pv (.lit (.int .u8 (k 3))), .pv (.lit (.int .u8 (k 4))), .pv (.lit (.int .u8 (k 5))), .pv (.lit (.int .u8 (k 6))), .pv (.lit (.int .u8 (k 7)))]] (.tup [.pv (.lit (.int .i64 ((place l k).1))), .pv (.lit (.bool ((place l k).2)))]) := by
 generalize hR : place l k = R
 refine PCalls.of_body tabOk Tryd.func45 rfl rfl rfl rfl rfl mixed fun E hP C hI => ?_
 refine Awp.consP C ?_
 refine rvc_un (rexec_prim C (δ := { v := .ptr 3 0, new := [(3, .cells [.pv (.lit (.int .u8 (k 0))), .pv (.lit (.int .u8 (k 1))), .pv (.lit (.int .u8 (k 2))), .pv (.lit (.int .u8 (k 3))), .pv (.lit (.int .u8 (k 4))), .pv (.lit (.int .u8 (k 5))), .pv (.lit (.int .u8 (k 6))), .pv (.lit (.int .u8 (k 7)))])] }) rfl rfl rfl rfl trivial rfl ?_)
 refine rvP C (.pv (.lit (.int .i64 0))) ?_
 refine rvP C (.pv (.lit (.bool false))) ?_
 refine rvc_nil ?_
 refine Awp.consP C ?_
 refine rvP C (sS (some l.nil) eSeen l.D) ?_
 refine rvP C (.agg [.pv (.lit (.int .u8 (k 0))), .pv (.lit (.int .u8 (k 1))), .pv (.lit (.int .u8 (k 2))), .pv (.lit (.int .u8 (k 3))), .pv (.lit (.int .u8 (k 4))), .pv (.lit (.int .u8 (k 5))), .pv (.lit (.int .u8 (k 6))), .pv (.lit (.int .u8 (k 7)))]) ?_
 refine rvc_un (rexec_call hP C rfl rfl rfl (bsearch_calls l k (fun x0 x1 => placeF x0 x1) 63 [] (fun x0 x1 => placeF_calls x0 x1) rfl hn) ?_)
 refine rvP C (.pv (.lit (.int .i64 ((bsearch l k (fun x0 x1 => placeF x0 x1)).1)))) ?_
 refine rvP C (.pv (.lit (.bool ((bsearch l k (fun x0 x1 => placeF x0 x1)).2)))) ?_
 refine rvP C (.pv (.lit (.int .i64 ((bsearch l k (fun x0 x1 => placeF x0 x1)).1)))) ?_
 refine rvP C (.pv (.lit (.bool ((bsearch l k (fun x0 x1 => placeF x0 x1)).2)))) ?_
 refine rvc_nil ?_
 refine Awp.ret ?_
 subst hR
 exact ⟨.inl rfl, rfl⟩
end Go.Proofs.YthnghkkbnhjlgaaDoor
/- One version more, floors, and both together, in plain words. No conditions. -/
namespace Go.Proofs.YthnghkkbnhjlgaaDoor
open Go.Am
/-- What was seen, and one version more. -/
def insS (k : Nat → Int) (v : Int) : List Seen → List Seen
  | [] => [Seen.mk k v]
  | x :: xs => if ll (kL x.key) (kL k) = true then x :: insS k v xs else if kL x.key = kL k then Seen.mk x.key (max x.ver v) :: xs else Seen.mk k v :: x :: xs
/-- The floor of a key. -/
def flr (q : List Int) : List Seen → Int
  | [] => 0
  | x :: xs => if kL x.key = q then x.ver else flr q xs
theorem flr_cons (q : List Int) (x : Seen) (xs : List Seen) : flr q (x :: xs) = if kL x.key = q then x.ver else flr q xs := by rw [flr]
/-- What it reads as. -/
def rd (x : Seen) : List Int × Int := (kL x.key, x.ver)
theorem sOk_congr {x y : Seen} (h : rd x = rd y) : shRight x.key = shRight y.key := by
  have h1 : kL x.key = kL y.key := congrArg Prod.fst h
  have e := eq8 x.key y.key
  have hn : nameL x.key = nameL y.key := by
    have t : ∀ n, n ≤ 8 → trimN x.key n = trimN y.key n := fun n => by
      induction n with
      | zero => intro _; rfl
      | succ n ih =>
        intro hn
        have hk : x.key n = y.key n := by
          have := congrArg (fun q => q[n]?) h1
          have ex := tbF_get x.key 8 0 n (by omega)
          have ey := tbF_get y.key 8 0 n (by omega)
          simp only [kL] at this
          rw [ex, ey] at this
          simpa using this
        unfold trimN
        rw [hk, ih (by omega)]
    unfold nameL
    rw [t 8 (Nat.le_refl _)]
    show (kL x.key).take _ = (kL y.key).take _
    rw [h1]
  unfold shRight
  rw [eq8, eq8, hn, h1]
theorem ver_ok {x : Seen} (h : sOk x = true) : 1 ≤ x.ver ∧ x.ver ≤ 1099511627776 ∧ shRight x.key = 0 := by
  unfold sOk at h
  simp only [Bool.and_eq_true, beq_iff_eq, decide_eq_true_eq] at h
  exact ⟨h.2.1, h.2.2, h.1⟩
theorem sOk_mk {x : Seen} (h1 : 1 ≤ x.ver) (h2 : x.ver ≤ 1099511627776) (h3 : shRight x.key = 0) : sOk x = true := by
  unfold sOk
  simp only [Bool.and_eq_true, beq_iff_eq, decide_eq_true_eq]
  exact ⟨h3, h1, h2⟩
theorem rt_mem : ∀ {l : List Seen}, rt none l = true → ∀ x ∈ l, sOk x = true
  | [], _, _, h => nomatch h
  | y :: ys, h, x, hx => by
    obtain ⟨h1, h2, _⟩ := rt_cons.1 h
    rcases List.mem_cons.1 hx with rfl | hx
    · exact h1
    · exact rt_mem h2 x hx
theorem insS_keys {k : Nat → Int} {v : Int} : ∀ {l : List Seen} {y : Seen}, y ∈ insS k v l → kL y.key = kL k ∨ ∃ x ∈ l, kL y.key = kL x.key
  | [], y, h => by
    unfold insS at h
    rw [List.mem_singleton.1 h]; exact .inl rfl
  | x :: xs, y, h => by
    unfold insS at h
    split at h
    · rcases List.mem_cons.1 h with rfl | h
      · exact .inr ⟨y, by simp, rfl⟩
      · rcases insS_keys h with h | ⟨z, hz, h⟩
        · exact .inl h
        · exact .inr ⟨z, by simp [hz], h⟩
    · split at h
      · rcases List.mem_cons.1 h with rfl | h
        · exact .inr ⟨x, by simp, rfl⟩
        · exact .inr ⟨y, by simp [h], rfl⟩
      · rcases List.mem_cons.1 h with rfl | h
        · exact .inl rfl
        · exact .inr ⟨y, h, rfl⟩
theorem insS_KB {k : Nat → Int} {v : Int} (hk : KeyB k) : ∀ {l : List Seen}, KB l → KB (insS k v l)
  | [], _, y, h => by
    unfold insS at h
    rw [List.mem_singleton.1 h]; exact hk
  | x :: xs, hl, y, h => by
    unfold insS at h
    split at h
    · rcases List.mem_cons.1 h with rfl | h
      · exact hl.cons.1
      · exact insS_KB hk hl.cons.2 y h
    · split at h
      · rcases List.mem_cons.1 h with rfl | h
        · exact hl.cons.1
        · exact hl.cons.2 y h
      · rcases List.mem_cons.1 h with rfl | h
        · exact hk
        · exact hl y h
theorem insS_rt {k : Nat → Int} {v : Int} (hv : 1 ≤ v) (hv2 : v ≤ 1099511627776) (hk : shRight k = 0) : ∀ {l : List Seen}, rt none l = true → rt none (insS k v l) = true
  | [], _ => by
    unfold insS
    exact rt_cons.2 ⟨sOk_mk hv hv2 hk, rfl, fun y hy => nomatch hy⟩
  | x :: xs, h => by
    obtain ⟨h1, h2, h3⟩ := rt_cons.1 h
    unfold insS
    split
    · rename_i hlt
      refine rt_cons.2 ⟨h1, insS_rt hv hv2 hk h2, fun y hy => ?_⟩
      rcases insS_keys hy with e | ⟨z, hz, e⟩
      · rw [e]; exact hlt
      · rw [e]; exact h3 z hz
    · rename_i hlt
      split
      · obtain ⟨a, b, c⟩ := ver_ok h1
        exact rt_cons.2 ⟨sOk_mk (by dsimp only; omega) (by dsimp only; omega) c, h2, h3⟩
      · rename_i hne
        have hgt : ll (kL k) (kL x.key) = true := ll_tri (by simpa using hlt) hne
        refine rt_cons.2 ⟨sOk_mk hv hv2 hk, h, fun y hy => ?_⟩
        rcases List.mem_cons.1 hy with rfl | hy
        · exact hgt
        · exact ll_trans hgt (h3 y hy)
theorem flr_none {q : List Int} : ∀ {l : List Seen}, (∀ x ∈ l, ll q (kL x.key) = true) → flr q l = 0
  | [], _ => rfl
  | x :: xs, h => by
    unfold flr
    rw [if_neg (fun e => ll_ne (h x (by simp)) e.symm), flr_none fun y hy => h y (by simp [hy])]
theorem flr_nonneg {q : List Int} : ∀ {l : List Seen}, rt none l = true → 0 ≤ flr q l
  | [], _ => Int.le_refl _
  | x :: xs, h => by
    obtain ⟨h1, h2, _⟩ := rt_cons.1 h
    unfold flr
    split
    · have := ver_ok h1; omega
    · exact flr_nonneg h2
/-- What both have seen. -/
def joinS (a : List Seen) : List Seen → List Seen
  | [] => a
  | x :: xs => joinS (insS x.key x.ver a) xs
theorem insS_len {k : Nat → Int} {v : Int} : ∀ {l : List Seen}, l.length ≤ (insS k v l).length ∧ (insS k v l).length ≤ l.length + 1
  | [] => by unfold insS; exact ⟨Nat.zero_le _, Nat.le_refl _⟩
  | x :: xs => by
    have := insS_len (k := k) (v := v) (l := xs)
    unfold insS
    split
    · simp only [List.length_cons]; omega
    · split <;> (simp only [List.length_cons]; omega)
theorem joinS_len : ∀ {b a : List Seen}, a.length ≤ (joinS a b).length
  | [], _ => Nat.le_refl _
  | x :: xs, a => Nat.le_trans insS_len.1 (joinS_len (b := xs))
end Go.Proofs.YthnghkkbnhjlgaaDoor
/- Where a key stands, in plain words. No conditions. -/
namespace Go.Proofs.YthnghkkbnhjlgaaDoor
open Go.Am
theorem placeF_mk (e : Seen) (k : Nat → Int) : placeF (Seen.mk (ofL [e.key 0, e.key 1, e.key 2, e.key 3, e.key 4, e.key 5, e.key 6, e.key 7]) e.ver) k = placeF e k := rfl
theorem placeF_val {e : Seen} {k : Nat → Int} (he : KeyB e.key) (hk : KeyB k) : placeF e k = if ll (kL e.key) (kL k) then -1 else if kL e.key = kL k then 0 else 1 := cmpI_eq he.b8 hk.b8
theorem bs_spec (x : Sl Seen) (k : Nat → Int) (hn : x.D.length ≤ 1000000) : ∀ (f i j : Nat), j - i < f → i ≤ j → j ≤ x.D.length →
    ∃ p : Nat, (bsearch_l0 x k (fun x0 x1 => placeF x0 x1) f (i : Int) (j : Int)).1 = (p : Int) ∧ i ≤ p ∧ p ≤ j ∧
      (bsearch_l0 x k (fun x0 x1 => placeF x0 x1) f (i : Int) (j : Int)).2 = (decide (p < x.D.length) && (placeF x.D[p]! k == 0)) ∧
      ((∀ s t : Nat, s ≤ t → t < x.D.length → placeF x.D[t]! k < 0 → placeF x.D[s]! k < 0) → (∀ t, t < i → placeF x.D[t]! k < 0) → (∀ t, j ≤ t → t < x.D.length → ¬ placeF x.D[t]! k < 0) →
        (∀ t, t < p → placeF x.D[t]! k < 0) ∧ ∀ t, p ≤ t → t < x.D.length → ¬ placeF x.D[t]! k < 0)
  | 0, i, j, h, _, _ => by omega
  | f + 1, i, j, h, hij, hj => by
    have hm : IntKind.i64.wrap (shrI .u64 (IntKind.u64.wrap (IntKind.i64.wrap ((i : Int) + (j : Int)))) 1) = (((i + j) / 2 : Nat) : Int) := by
      rw [mid_eq (by omega) (by omega) (by omega)]; omega
    unfold bsearch_l0
    rw [hm, Int.toNat_natCast]
    by_cases hlt : i < j
    · rw [decide_eq_true (show (i : Int) < (j : Int) by omega), cond_true]
      rw [placeF_mk]
      generalize hmid : (i + j) / 2 = m
      have m1 : i ≤ m := by omega
      have m2 : m < j := by omega
      cases hc : decide (placeF x.D[m]! k < 0)
      · rw [cond_false]
        have hc' := of_decide_eq_false hc
        obtain ⟨p, p1, p2, p3, p4, p5⟩ := bs_spec x k hn f i m (by omega) m1 (by omega)
        refine ⟨p, p1, p2, by omega, p4, fun mono lo hi => p5 mono lo fun t ht htn hneg => ?_⟩
        exact hc' (mono m t ht htn hneg)
      · rw [cond_true]
        have hc' := of_decide_eq_true hc
        have e1 : IntKind.i64.wrap ((m : Int) + 1) = ((m + 1 : Nat) : Int) := by rw [wrapP (by omega)]; omega
        rw [e1]
        obtain ⟨p, p1, p2, p3, p4, p5⟩ := bs_spec x k hn f (m + 1) j (by omega) (by omega) hj
        refine ⟨p, p1, by omega, p3, p4, fun mono lo hi => p5 mono (fun t ht => ?_) hi⟩
        exact mono t m (by omega) (by omega) hc'
    · have hij' : i = j := by omega
      subst hij'
      rw [decide_eq_false (show ¬ (i : Int) < (i : Int) by omega), cond_false, Int.toNat_natCast]
      rw [placeF_mk]
      by_cases hin : i < x.D.length
      · rw [decide_eq_true (show (i : Int) < (x.D.length : Int) by omega), cond_true]
        exact ⟨i, rfl, Nat.le_refl _, Nat.le_refl _, by rw [decide_eq_true hin]; rfl, fun _ lo hi => ⟨lo, hi⟩⟩
      · rw [decide_eq_false (show ¬ (i : Int) < (x.D.length : Int) by omega), cond_false]
        exact ⟨i, rfl, Nat.le_refl _, Nat.le_refl _, by rw [decide_eq_false hin]; rfl, fun _ lo hi => ⟨lo, hi⟩⟩
theorem place_all (l : Sl Seen) (k : Nat → Int) (hn : l.D.length ≤ 1000000) : ∃ p : Nat, (place l k).1 = (p : Int) ∧ p ≤ l.D.length ∧ (place l k).2 = (decide (p < l.D.length) && (placeF l.D[p]! k == 0)) ∧
    ((∀ s t : Nat, s ≤ t → t < l.D.length → placeF l.D[t]! k < 0 → placeF l.D[s]! k < 0) → (∀ t, t < p → placeF l.D[t]! k < 0) ∧ ∀ t, p ≤ t → t < l.D.length → ¬ placeF l.D[t]! k < 0) := by
  obtain ⟨p, p1, p2, p3, p4, p5⟩ := bs_spec l k hn (l.D.length + 1) 0 l.D.length (by omega) (Nat.zero_le _) (Nat.le_refl _)
  have e : bsearch l k (fun x0 x1 => placeF x0 x1) = bsearch_l0 l k (fun x0 x1 => placeF x0 x1) (l.D.length + 1) ((0 : Nat) : Int) (l.D.length : Int) := by
    unfold bsearch
    rw [show ((l.D.length : Int) - 0).toNat + 1 = l.D.length + 1 by omega]; rfl
  refine ⟨p, ?_, p3, ?_, fun mono => p5 mono (fun t ht => absurd ht (Nat.not_lt_zero t)) (fun t ht h2 => by omega)⟩
  · show (bsearch l k _).1 = _
    rw [e]; exact p1
  · show (bsearch l k _).2 = _
    rw [e]; exact p4
theorem place_lt {l : Sl Seen} {k : Nat → Int} (hn : l.D.length ≤ 1000000) (h : (place l k).2 = true) : 0 ≤ (place l k).1 ∧ (place l k).1 < (l.D.length : Int) := by
  obtain ⟨p, p1, p2, p3, _⟩ := place_all l k hn
  rw [p3, Bool.and_eq_true, decide_eq_true_eq] at h
  omega
theorem place_le (l : Sl Seen) (k : Nat → Int) (hn : l.D.length ≤ 1000000) : 0 ≤ (place l k).1 ∧ (place l k).1 ≤ (l.D.length : Int) := by
  obtain ⟨p, p1, p2, p3, _⟩ := place_all l k hn
  omega
/-- In a rising list: what stands ahead, and what stands there. -/
theorem place_split {l : Sl Seen} {k : Nat → Int} (hn : l.D.length ≤ 1000000) (hl : KB l.D) (hk : KeyB k) (hr : rt none l.D = true) : ∃ A B : List Seen, l.D = A ++ B ∧ (place l k).1 = (A.length : Int) ∧ (∀ x ∈ A, ll (kL x.key) (kL k) = true) ∧
    ((∃ y ys, B = y :: ys ∧ kL y.key = kL k ∧ (place l k).2 = true) ∨ ((place l k).2 = false ∧ ∀ y ∈ B, ll (kL k) (kL y.key) = true)) := by
  obtain ⟨p, p1, p2, p3, p4⟩ := place_all l k hn
  have hat : ∀ t, t < l.D.length → placeF l.D[t]! k = if ll (kL l.D[t]!.key) (kL k) then -1 else if kL l.D[t]!.key = kL k then 0 else 1 := fun t ht => placeF_val (hl.at ht) hk
  have hneg : ∀ t, t < l.D.length → (placeF l.D[t]! k < 0 ↔ ll (kL l.D[t]!.key) (kL k) = true) := fun t ht => by
    rw [hat t ht]
    cases ll (kL l.D[t]!.key) (kL k)
    · by_cases e : kL l.D[t]!.key = kL k
      · rw [if_neg (by decide), if_pos e]; decide
      · rw [if_neg (by decide), if_neg e]; decide
    · rw [if_pos rfl]; decide
  have hpw : ∀ (D : List Seen), rt none D = true → ∀ s t : Nat, s < t → t < D.length → ll (kL D[s]!.key) (kL D[t]!.key) = true := by
    intro D
    induction D with
    | nil => intro _ s t _ h; simp at h
    | cons x xs ih =>
      intro h s t hst ht
      obtain ⟨h1, h2, h3⟩ := rt_cons.1 h
      obtain ⟨t', rfl⟩ : ∃ t', t = t' + 1 := ⟨t - 1, by omega⟩
      have ht' : t' < xs.length := by simpa using ht
      have e2 : (x :: xs)[t' + 1]! = xs[t']! := by simp
      rw [e2]
      cases s with
      | zero =>
        show ll (kL x.key) _ = true
        rw [getElem!_pos xs t' ht']
        exact h3 _ (List.getElem_mem ht')
      | succ s' =>
        have e1 : (x :: xs)[s' + 1]! = xs[s']! := by simp
        rw [e1]
        exact ih h2 s' t' (by omega) ht'
  obtain ⟨q1, q2⟩ := p4 fun s t hst ht hlt => by
    rcases Nat.lt_or_ge s t with h | h
    · exact (hneg s (by omega)).2 (ll_trans (hpw l.D hr s t h ht) ((hneg t ht).1 hlt))
    · have : s = t := by omega
      rw [this]; exact hlt
  refine ⟨l.D.take p, l.D.drop p, (List.take_append_drop p l.D).symm, by rw [List.length_take, Nat.min_eq_left p2]; exact p1, fun x hx => ?_, ?_⟩
  · obtain ⟨t, ht, rfl⟩ := List.getElem_of_mem hx
    have htp : t < p := by rw [List.length_take] at ht; omega
    have htn : t < l.D.length := by omega
    have := (hneg t htn).1 (q1 t htp)
    rw [List.getElem_take]
    rwa [getElem!_pos l.D t htn] at this
  · by_cases hpn : p < l.D.length
    · have hd : l.D.drop p = l.D[p] :: l.D.drop (p + 1) := List.drop_eq_getElem_cons hpn
      have hnot := (not_congr (hneg p hpn)).1 (q2 p (Nat.le_refl _) hpn)
      rw [getElem!_pos l.D p hpn] at hnot
      by_cases e : kL l.D[p].key = kL k
      · refine .inl ⟨l.D[p], l.D.drop (p + 1), hd, e, ?_⟩
        have hz := hat p hpn
        rw [getElem!_pos l.D p hpn, if_neg hnot, if_pos e] at hz
        rw [p3, getElem!_pos l.D p hpn, decide_eq_true hpn, hz]; rfl
      · refine .inr ⟨?_, fun y hy => ?_⟩
        · have hz := hat p hpn
          rw [getElem!_pos l.D p hpn, if_neg hnot, if_neg e] at hz
          rw [p3, getElem!_pos l.D p hpn, decide_eq_true hpn, hz]; rfl
        · have hgt : ll (kL k) (kL l.D[p].key) = true := ll_tri (by simpa using hnot) e
          rw [hd] at hy
          rcases List.mem_cons.1 hy with rfl | hy
          · exact hgt
          · obtain ⟨t, ht, rfl⟩ := List.getElem_of_mem hy
            have ht2 : p + 1 + t < l.D.length := by rw [List.length_drop] at ht; omega
            have := hpw l.D hr p (p + 1 + t) (by omega) ht2
            rw [getElem!_pos l.D p hpn, getElem!_pos l.D _ ht2] at this
            rw [List.getElem_drop]
            exact ll_trans hgt this
    · refine .inr ⟨by rw [p3, decide_eq_false hpn]; rfl, fun y hy => ?_⟩
      rw [List.drop_of_length_le (by omega)] at hy
      cases hy
theorem insS_split {k : Nat → Int} {v : Int} : ∀ {A B : List Seen}, (∀ x ∈ A, ll (kL x.key) (kL k) = true) → insS k v (A ++ B) = A ++ insS k v B
  | [], _, _ => rfl
  | x :: A, B, h => by
    show insS k v (x :: (A ++ B)) = x :: (A ++ insS k v B)
    rw [insS, if_pos (h x (by simp)), insS_split fun y hy => h y (by simp [hy])]
end Go.Proofs.YthnghkkbnhjlgaaDoor
/- Floors. No conditions. -/
namespace Go.Proofs.YthnghkkbnhjlgaaDoor
open Go.Am
def rpFloor_l0 (k : (Nat → Int)) : List Seen → Nat → Int
  | [], _ => 0
  | x :: xs, i => (bif (((x.key 0) == (k 0)) && (((x.key 1) == (k 1)) && (((x.key 2) == (k 2)) && (((x.key 3) == (k 3)) && (((x.key 4) == (k 4)) && (((x.key 5) == (k 5)) && (((x.key 6) == (k 6)) && (((x.key 7) == (k 7)) && true)))))))) then x.ver else rpFloor_l0 k xs (i + 1) )
def rpFloor (l : (Sl Seen)) (k : (Nat → Int)) : Int :=
  (bif ((rpRight l) != 0) then 0 else rpFloor_l0 k l.D 0 )
theorem rpFloor_calls (l : (Sl Seen)) (k : (Nat → Int)) (hl : ∀ x ∈ l.D, KeyB x.key) (hl1 : l.D.length ≤ 1000000) : PCalls Tryd.prog 25 [sS (some l.nil) eSeen l.D, .agg [.pv (.lit (.int .u8 (k 0))), .pv (.lit (.int .u8 (k 1))), .pv (.lit (.int .u8 (k 2))), .pv (.lit (.int .u8 (k 3))), .pv (.lit (.int .u8 (k 4))), .pv (.lit (.int .u8 (k 5))), .pv (.lit (.int .u8 (k 6))), .pv (.lit (.int .u8 (k 7)))]] (.pv (.lit (.int .i64 (rpFloor l k)))) := by
 generalize hR : rpFloor l k = R
 refine PCalls.of_body tabOk Tryd.func25 rfl rfl rfl rfl rfl mixed fun E hP C hI => ?_
 refine Awp.consP C ?_
 refine rvc_un (rexec_prim C (δ := { v := .ptr 3 0, new := [(3, .cells [.pv (.lit (.int .u8 (k 0))), .pv (.lit (.int .u8 (k 1))), .pv (.lit (.int .u8 (k 2))), .pv (.lit (.int .u8 (k 3))), .pv (.lit (.int .u8 (k 4))), .pv (.lit (.int .u8 (k 5))), .pv (.lit (.int .u8 (k 6))), .pv (.lit (.int .u8 (k 7)))])] }) rfl rfl rfl rfl trivial rfl ?_)
 refine rvP C (.pv (.lit (.int .i64 0))) ?_
 refine rvc_nil ?_
 refine Awp.seq ?_
 refine Awp.consP C ?_
 refine rvP C (sS (some l.nil) eSeen l.D) ?_
 refine rvc_un (rexec_call hP C rfl rfl rfl (rpRight_calls l hl hl1) ?_)
 refine rvP C (.pv (.lit (.bool ((rpRight l) != 0)))) ?_
 refine rvc_nil ?_
 refine Awp.cond (b := ((rpRight l) != 0)) rfl (fun h1 => ?_) (fun h1 => ?_)
 ·
  replace hR := of_true h1 hR
  refine Awp.consP C ?_
  refine rvP C (.pv (.lit (.int .i64 0))) ?_
  refine rvc_nil ?_
  refine Awp.ret ?_
  subst hR
  exact ⟨.inl rfl, rfl⟩
 ·
  replace hR := of_false h1 hR
  refine Awp.skip ?_
  refine Awp.seq ?_
  refine Awp.consP C ?_
  refine rvP C (sS (some l.nil) eSeen l.D) ?_
  refine rvP C (.pv (.lit (.int .i64 (l.D.length : Int)))) ?_
  refine rvP C (.pv (.lit (.int .i64 0))) ?_
  refine rvc_nil ?_
  refine Awp.block ?_
  refine Awp.forR (σ := Unit) (l.D.length) (fun i _v => [(3, .ptr 3 0), (10, sS (some l.nil) eSeen l.D), (11, .pv (.lit (.int .i64 (l.D.length : Int)))), (12, .pv (.lit (.int .i64 (i : Int))))]) (fun i _v => [(3, .cells [.pv (.lit (.int .u8 (k 0))), .pv (.lit (.int .u8 (k 1))), .pv (.lit (.int .u8 (k 2))), .pv (.lit (.int .u8 (k 3))), .pv (.lit (.int .u8 (k 4))), .pv (.lit (.int .u8 (k 5))), .pv (.lit (.int .u8 (k 6))), .pv (.lit (.int .u8 (k 7)))])]) [3] (fun i _v => rpFloor_l0 k (l.D.drop i) i  = R) () ?_ ?_ (fun i _v h2 hR => ?_)
  · exact hR
  · exact ⟨fun b => b, WeakerR.ofL (Ks := [3]) hI ⟨⟨rfl, rfl⟩, ⟨rfl, rfl⟩, ⟨rfl, rfl⟩, ⟨rfl, rfl⟩, trivial⟩ (okH_cons rfl rfl rfl rfl (okH_nil)) rfl⟩
  refine Awp.consP C ?_
  refine rvP C (.pv (.lit (.bool (decide ((i : Int) < (l.D.length : Int)))))) ?_
  refine rvc_nil ?_
  refine Awp.seq ?_
  refine Awp.cond (b := (decide ((i : Int) < (l.D.length : Int)))) rfl (fun h3 => ?_) (fun h3 => ?_)
  ·
   have h4 : i < l.D.length := by have := of_decide_eq_true h3; omega
   obtain ⟨x, h5⟩ := getX h4
   rw [drop_at h5] at hR
   refine Awp.skip ?_
   refine Awp.seq ?_
   refine Awp.block ?_
   refine Awp.consP C ?_
   refine rvc_un (rexec_idxS C rfl rfl rfl rfl rfl rfl x (Int.natCast_nonneg _) h5 ?_)
   refine rvP C (.agg [.pv (.lit (.int .u8 (x.key 0))), .pv (.lit (.int .u8 (x.key 1))), .pv (.lit (.int .u8 (x.key 2))), .pv (.lit (.int .u8 (x.key 3))), .pv (.lit (.int .u8 (x.key 4))), .pv (.lit (.int .u8 (x.key 5))), .pv (.lit (.int .u8 (x.key 6))), .pv (.lit (.int .u8 (x.key 7))), .pv (.lit (.int .i64 x.ver))]) ?_
   refine rvc_un (rexec_prim C (δ := { v := .ptr 6 0, new := [(6, .cells [.pv (.lit (.int .u8 0)), .pv (.lit (.int .u8 0)), .pv (.lit (.int .u8 0)), .pv (.lit (.int .u8 0)), .pv (.lit (.int .u8 0)), .pv (.lit (.int .u8 0)), .pv (.lit (.int .u8 0)), .pv (.lit (.int .u8 0)), .pv (.lit (.int .i64 0))])] }) rfl rfl rfl rfl trivial rfl ?_)
   refine rvc_un (rexec_prim C (δ := { v := .undef, wr := [(6, some (.cells [.pv (.lit (.int .u8 (x.key 0))), .pv (.lit (.int .u8 (x.key 1))), .pv (.lit (.int .u8 (x.key 2))), .pv (.lit (.int .u8 (x.key 3))), .pv (.lit (.int .u8 (x.key 4))), .pv (.lit (.int .u8 (x.key 5))), .pv (.lit (.int .u8 (x.key 6))), .pv (.lit (.int .u8 (x.key 7))), .pv (.lit (.int .i64 x.ver))]))] }) rfl rfl rfl rfl trivial rfl ?_)
   refine rvc_nil ?_
   refine Awp.consP C ?_
   refine rvP C (.ptr 6 0) ?_
   refine rvP C (.agg [.pv (.lit (.int .u8 (x.key 0))), .pv (.lit (.int .u8 (x.key 1))), .pv (.lit (.int .u8 (x.key 2))), .pv (.lit (.int .u8 (x.key 3))), .pv (.lit (.int .u8 (x.key 4))), .pv (.lit (.int .u8 (x.key 5))), .pv (.lit (.int .u8 (x.key 6))), .pv (.lit (.int .u8 (x.key 7)))]) ?_
   refine rvP C (.agg [.pv (.lit (.int .u8 (k 0))), .pv (.lit (.int .u8 (k 1))), .pv (.lit (.int .u8 (k 2))), .pv (.lit (.int .u8 (k 3))), .pv (.lit (.int .u8 (k 4))), .pv (.lit (.int .u8 (k 5))), .pv (.lit (.int .u8 (k 6))), .pv (.lit (.int .u8 (k 7)))]) ?_
   refine rvP C (.pv (.lit (.bool (((x.key 0) == (k 0)) && (((x.key 1) == (k 1)) && (((x.key 2) == (k 2)) && (((x.key 3) == (k 3)) && (((x.key 4) == (k 4)) && (((x.key 5) == (k 5)) && (((x.key 6) == (k 6)) && (((x.key 7) == (k 7)) && true))))))))))) ?_
   refine rvc_nil ?_
   refine Awp.cond (b := (((x.key 0) == (k 0)) && (((x.key 1) == (k 1)) && (((x.key 2) == (k 2)) && (((x.key 3) == (k 3)) && (((x.key 4) == (k 4)) && (((x.key 5) == (k 5)) && (((x.key 6) == (k 6)) && (((x.key 7) == (k 7)) && true))))))))) rfl (fun h6 => ?_) (fun h6 => ?_)
   ·
    replace hR := of_true h6 hR
    refine Awp.consP C ?_
    refine rvP C (.ptr 6 8) ?_
    refine rvP C (.pv (.lit (.int .i64 x.ver))) ?_
    refine rvP C (.pv (.lit (.int .i64 x.ver))) ?_
    refine rvc_nil ?_
    refine Awp.ret ?_
    subst hR
    exact ⟨.inl rfl, rfl⟩
   ·
    replace hR := of_false h6 hR
    refine Awp.skip ?_
    refine Awp.regionP C ?_
    refine rvP C (.pv (.lit (.int .i64 (IntKind.i64.wrap ((i : Int) + 1))))) ?_
    refine rvP C (.pv (.lit (.int .i64 (IntKind.i64.wrap ((i : Int) + 1))))) ?_
    refine rvc_nil ?_
    refine ⟨h4, (), ?_, ?_⟩
    · exact hR
    · exact ⟨fun b => b, WeakerR.ofL (Ks := [3]) hI ⟨⟨rfl, rfl⟩, ⟨rfl, rfl⟩, ⟨rfl, rfl⟩, ⟨lit_cast (wrap_i64 (by omega) (by omega)), rfl⟩, trivial⟩ (okH_cons rfl rfl rfl rfl (okH_nil)) rfl⟩
  ·
   have h4 : ¬ i < l.D.length := by have := of_decide_eq_false h3; omega
   rw [drop_end h4] at hR
   refine Awp.exit ?_
   refine Awp.consP C ?_
   refine rvP C (.pv (.lit (.int .i64 0))) ?_
   refine rvc_nil ?_
   refine Awp.ret ?_
   subst hR
   exact ⟨.inl rfl, rfl⟩
end Go.Proofs.YthnghkkbnhjlgaaDoor
/- slices.Insert over a row of one's own: its contract. No conditions. -/
namespace Go.Proofs.YthnghkkbnhjlgaaDoor
open Go.Am
theorem insertS_calls (D : List Seen) (i : Nat) (v : Sl Seen) (hi : i ≤ D.length) (hv : 0 < v.D.length) (hl1 : D.length ≤ 1000000) (hl2 : v.D.length ≤ 1000000) : TCalls Tryd.prog 46 [.sl 0 0 D.length 9 false, .pv (.lit (.int .i64 (i : Int))), sS (some v.nil) eSeen v.D] (.cells (encC eSeen D)) (.sl 1 0 (insertL D i v.D).length 9 false) (.cells (encC eSeen (insertL D i v.D))) := by
 have hm0 : ((v.D.length : Int) == 0) = false := by simp; intro h; rw [h] at hv; simp at hv
 have hrep : D.take i ++ List.replicate (D.length + v.D.length - i) (Seen.mk (fun _ => 0) 0) = D.take i ++ List.replicate v.D.length (Seen.mk (fun _ => 0) 0) ++ List.replicate (D.length - i) (Seen.mk (fun _ => 0) 0) := by
  rw [List.append_assoc, List.replicate_append_replicate]; congr 2; omega
 refine TCalls.of_body tabOk Tryd.func46 rfl rfl rfl rfl rfl (encC_within _ _) (encC_within _ _) mixed fun E hP C hI => ?_
 refine Awp.capOf 0 0 D.length 9 false (encC eSeen D) rfl rfl (by rw [encC_len]; rfl) fun c hc0 => ?_
 refine Awp.cons C (fun _ => .pure) (by kernel_rfl) ?_ -- region 0 false
 refine rvc_prim C rfl rfl rfl rfl (trivial) rfl ?_
 refine rvc_nil ?_
 refine Awp.cons C (fun _ => .pure) (by kernel_rfl) ?_ -- region 1 false
 refine rvc_prim C rfl rfl rfl rfl (trivial) rfl ?_
 refine rvc_prim C rfl rfl rfl rfl (trivial) rfl ?_
 refine rvc_un (rexec_sliceLoC C rfl rfl rfl rfl rfl rfl hi ?_)
 refine rvc_nil ?_
 refine Awp.cons C (fun _ => .pure) (by kernel_rfl) ?_ -- region 2 false
 refine rvc_prim C rfl rfl rfl rfl (trivial) rfl ?_
 refine rvc_prim C rfl rfl rfl rfl (trivial) rfl ?_
 refine rvc_prim C rfl rfl rfl rfl (trivial) rfl ?_
 refine rvc_nil ?_
 refine Awp.seq ?_
 refine Awp.cons C (fun _ => .pure) (by kernel_rfl) ?_ -- region 3 false
 refine rvc_prim C rfl rfl rfl rfl (trivial) rfl ?_
 refine rvc_prim C rfl rfl rfl rfl (trivial) rfl ?_
 refine rvc_nil ?_
 refine Awp.condF rfl (hm0) ?_
 refine Awp.skip ?_
 refine Awp.cons C (fun _ => .pure) (by kernel_rfl) ?_ -- region 5 false
 refine rvc_prim C rfl rfl rfl rfl (trivial) rfl ?_
 refine rvc_un (rexec_lenC C rfl rfl rfl rfl rfl rfl ?_)
 refine rvc_prim C rfl rfl rfl rfl (trivial) rfl ?_
 refine rvc_nil ?_
 refine Awp.seq ?_
 refine Awp.cons C (fun _ => .pure) (by kernel_rfl) ?_ -- region 6 false
 refine rvc_prim C rfl rfl rfl rfl (trivial) rfl ?_
 refine rvc_prim C rfl rfl rfl rfl (trivial) rfl ?_
 refine rvc_prim C rfl rfl rfl rfl (trivial) rfl ?_
 refine rvc_nil ?_
 refine Awp.cond rfl (fun hc => ?_) (fun hc => ?_)
 ·
  refine Awp.dropCap 0 0 0 D.length 9 c rfl ?_
  have hin : i = D.length := by have := beq_iff_eq.1 hc; omega
  refine Awp.cons C (fun _ => .pure) (by kernel_rfl) ?_ -- region 7 false
  refine rvc_prim C rfl rfl rfl rfl (trivial) rfl ?_
  refine rvc_prim C rfl rfl rfl rfl (trivial) rfl ?_
  refine rvc_un (rexec_append C rfl rfl rfl rfl rfl rfl rfl rfl (fun _ h => by cases h) rfl (en := eSeen) (D0 := D) (D := v.D) rfl rfl rfl rfl (by show (2 * (D.length + v.D.length) + 192) * 16 ≤ _; omega) (by decide) (nn := (D ++ v.D).length) (by simp) ?_)
  refine rvc_prim C rfl rfl rfl rfl (trivial) rfl ?_
  refine rvc_nil ?_
  rw [show insertL D i v.D = D ++ v.D by subst hin; simp [insertL]]
  refine Awp.weakenR (S := [(6, .sl 1 0 (D ++ v.D).length 9 false)]) (H := [(1, .cells (encC eSeen (D ++ v.D)))]) (U := [0, 1]) (fun x => bif x == 1 then 25 else x) (WeakerR.ofLI (I := [0]) (Ks := [1]) hI ⟨⟨sl_to rfl rfl (by rfl), rfl⟩, trivial⟩ (okH_list rfl rfl rfl okH_nil) rfl rfl) ?_
  refine Awp.ret ?_
  exact ⟨.inl rfl, rfl, rfl⟩
 ·
  have hne : i ≠ D.length := by have := ne_of_beq_false hc; omega
  refine Awp.skip ?_
  refine Awp.seq ?_
  refine Awp.cons C (fun _ => .pure) (by kernel_rfl) ?_ -- region 8 false
  refine rvc_prim C rfl rfl rfl rfl (trivial) rfl ?_
  refine rvc_prim C rfl rfl rfl rfl (trivial) rfl ?_
  refine rvc_un (rexec_primv C { v := .pv (.lit (.int .i64 ((D.length + v.D.length : Nat) : Int))) } rfl rfl rfl rfl trivial (delta_int (by rw [wrapI _ (by omega)]; omega)) rfl ?_)
  refine rvc_prim C rfl rfl rfl rfl (trivial) rfl ?_
  refine rvc_un (rexec_capC C rfl rfl rfl rfl rfl rfl ?_)
  refine rvc_prim C rfl rfl rfl rfl (trivial) rfl ?_
  refine rvc_nil ?_
  refine Awp.cond rfl (fun hc => ?_) (fun hc => ?_)
  ·
   have hgt : c < D.length + v.D.length := by have := of_decide_eq_true hc; omega
   refine Awp.cons C (fun _ => .pure) (by kernel_rfl) ?_ -- region 9 false
   refine rvc_prim C rfl rfl rfl rfl (trivial) rfl ?_
   refine rvc_prim C rfl rfl rfl rfl (trivial) rfl ?_
   refine rvc_un (rexec_sliceHiC C i rfl rfl rfl rfl rfl rfl (by omega) ?_)
   refine rvc_prim C rfl rfl rfl rfl (trivial) rfl ?_
   refine rvc_prim C rfl rfl rfl rfl (trivial) rfl ?_
   refine rvc_un (rexec_primv C { v := .pv (.lit (.int .i64 ((D.length + v.D.length : Nat) : Int))) } rfl rfl rfl rfl trivial (delta_int (by rw [wrapI _ (by omega)]; omega)) rfl ?_)
   refine rvc_prim C rfl rfl rfl rfl (trivial) rfl ?_
   refine rvc_un (rexec_primv C { v := .pv (.lit (.int .i64 ((D.length + v.D.length - i : Nat) : Int))) } rfl rfl rfl rfl trivial (delta_int (by rw [wrapI _ (by omega)]; omega)) rfl ?_)
   refine rvc_un (rexec_appendZ C rfl rfl rfl rfl rfl rfl rfl rfl rfl (Seen.mk (fun _ => 0) 0) D i (D.length + v.D.length - i) rfl rfl rfl hi (by omega) (by omega) (by show (2 * (i + (D.length + v.D.length - i)) + 192) * 16 ≤ _; omega) (by decide) (by decide) rfl rfl ?_)
   refine rvc_prim C rfl rfl rfl rfl (trivial) rfl ?_
   refine rvc_nil ?_
   refine Awp.cons C (fun _ => .pure) (by kernel_rfl) ?_ -- region 10 false
   refine rvc_prim C rfl rfl rfl rfl (trivial) rfl ?_
   refine rvc_prim C rfl rfl rfl rfl (trivial) rfl ?_
   refine rvc_un (rexec_sliceOwn C (l := i) rfl rfl rfl rfl rfl rfl (by omega) ?_)
   refine rvc_prim C rfl rfl rfl rfl (trivial) rfl ?_
   refine rvc_un (rexec_copyS C rfl rfl rfl rfl rfl rfl (e := eSeen) v.D (encC eSeen (D.take i ++ v.D ++ List.replicate (D.length - i) (Seen.mk (fun _ => 0) 0))) rfl rfl rfl (by omega) (by rw [encC_len]; simp [eSeen]; omega) (by rw [hrep]; exact set_mid (by simp) (by simp [eSeen]; omega)) ?_)
   refine rvc_nil ?_
   refine Awp.dropCap 0 0 0 D.length 9 c rfl ?_
   refine Awp.consP C ?_
   refine rvc_prim C rfl rfl rfl rfl (trivial) rfl ?_
   refine rvc_prim C rfl rfl rfl rfl (trivial) rfl ?_
   refine rvc_prim C rfl rfl rfl rfl (trivial) rfl ?_
   refine rvc_un (rexec_primv C { v := .pv (.lit (.int .i64 ((i + v.D.length : Nat) : Int))) } rfl rfl rfl rfl trivial (delta_int (by rw [wrapI _ (by omega)]; omega)) rfl ?_)
   refine rvc_un (rexec_sliceOwn C (l := i + v.D.length) rfl rfl rfl rfl rfl rfl (by omega) ?_)
   refine rvc_prim C rfl rfl rfl rfl (trivial) rfl ?_
   refine rvc_prim C rfl rfl rfl rfl (trivial) rfl ?_
   refine rvc_un (rexec_sliceOwn C (l := i) rfl rfl rfl rfl rfl rfl (by omega) ?_)
   refine rvc_un (rexec_copyO C rfl rfl rfl rfl rfl rfl (e := eSeen) (D.drop i) (encC eSeen (insertL D i v.D)) rfl rfl rfl rfl (by rw [encC_len]; simp [eSeen]; omega) (by have := tail_of (e := eSeen) (D := D) (Z := []) (i := i) (k := D.length - i) (j := (D.drop i).length * 9) hi (Nat.le_refl _) (by simp [eSeen]); simpa [eSeen] using this) (by simp; omega) (by rw [encC_len]; simp [eSeen]; omega) (by have := set_mid (e := eSeen) (A := D.take i ++ v.D) (B := List.replicate (D.length - i) (Seen.mk (fun _ => 0) 0)) (B' := D.drop i) (C := []) (k := (i + v.D.length) * 9) (by simp) (by simp [eSeen]; omega); simpa [insertL] using this) ?_ rfl)
   refine rvc_nil ?_
   refine Awp.cons C (fun _ => .pure) (by kernel_rfl) ?_ -- region 12 false
   refine rvc_prim C rfl rfl rfl rfl (trivial) rfl ?_
   refine rvc_prim C rfl rfl rfl rfl (trivial) rfl ?_
   refine rvc_nil ?_
   refine Awp.weakenR (S := [(6, .sl 1 0 (insertL D i v.D).length 9 false)]) (H := [(1, .cells (encC eSeen (insertL D i v.D)))]) (U := [0, 1]) (fun x => bif x == 1 then 40 else x) (WeakerR.ofLI (I := [0]) (Ks := [1]) hI ⟨⟨sl_to rfl rfl (by rw [insertL_len (D := D) (M := v.D) hi] <;> omega), rfl⟩, trivial⟩ (okH_list rfl rfl rfl okH_nil) rfl rfl) ?_
   refine Awp.ret ?_
   exact ⟨.inl rfl, rfl, rfl⟩
  ·
   have hle : D.length + v.D.length ≤ c := by have := of_decide_eq_false hc; omega
   refine Awp.skip ?_
   refine Awp.cons C (fun _ => .pure) (by kernel_rfl) ?_ -- region 13 false
   refine rvc_prim C rfl rfl rfl rfl (trivial) rfl ?_
   refine rvc_prim C rfl rfl rfl rfl (trivial) rfl ?_
   refine rvc_prim C rfl rfl rfl rfl (trivial) rfl ?_
   refine rvc_un (rexec_primv C { v := .pv (.lit (.int .i64 ((D.length + v.D.length : Nat) : Int))) } rfl rfl rfl rfl trivial (delta_int (by rw [wrapI _ (by omega)]; omega)) rfl ?_)
   refine rvc_un (rexec_sliceHiC C (D.length + v.D.length) rfl rfl rfl rfl rfl rfl (by omega) ?_)
   refine rvc_prim C rfl rfl rfl rfl (trivial) rfl ?_
   refine rvc_nil ?_
   refine Awp.seq ?_
   refine Awp.extend 0 0 (D.length + v.D.length) 9 c (encC eSeen D) rfl rfl (by rw [encC_len]; simp [eSeen]; omega) ?_
   refine Awp.dropCap 0 0 0 (D.length + v.D.length) 9 c rfl ?_
   refine Awp.cons C (fun _ => .writer) (by kernel_rfl) ?_ -- region 14 false
   refine rvc_prim C rfl rfl rfl rfl (trivial) rfl ?_
   refine rvc_prim C rfl rfl rfl rfl (trivial) rfl ?_
   refine rvc_prim C rfl rfl rfl rfl (trivial) rfl ?_
   refine rvc_prim C rfl rfl rfl rfl (trivial) rfl ?_
   refine rvc_un (rexec_primv C { v := .pv (.lit (.int .i64 ((i + v.D.length : Nat) : Int))) } rfl rfl rfl rfl trivial (delta_int (by rw [wrapI _ (by omega)]; omega)) rfl ?_)
   refine rvc_un (rexec_sliceOwn C (l := i + v.D.length) rfl rfl rfl rfl rfl rfl (by omega) ?_)
   refine rvc_un (rexec_overlaps C (fn := Tryd.f64) (t := 22) (tR := 4) rfl rfl (by rw [hP]; exact Tryd.func64) rfl rfl rfl (by kernel_rfl) rfl rfl rfl (fl := some v.nil) (m := v.D.length) (ps := encL eSeen v.D) rfl rfl (encL_ne hv (by decide)) (encC_ne (by omega) (by decide)) ?_)
   refine rvc_prim C rfl rfl rfl rfl (trivial) rfl ?_
   refine rvc_nil ?_
   refine Awp.condT rfl (rfl) ?_
   refine Awp.consP C ?_
   refine rvc_prim C rfl rfl rfl rfl (trivial) rfl ?_
   refine rvc_prim C rfl rfl rfl rfl (trivial) rfl ?_
   refine rvc_prim C rfl rfl rfl rfl (trivial) rfl ?_
   refine rvc_un (rexec_primv C { v := .pv (.lit (.int .i64 ((i + v.D.length : Nat) : Int))) } rfl rfl rfl rfl trivial (delta_int (by rw [wrapI _ (by omega)]; omega)) rfl ?_)
   refine rvc_un (rexec_sliceOwn C (l := i + v.D.length) rfl rfl rfl rfl rfl rfl (by omega) ?_)
   refine rvc_prim C rfl rfl rfl rfl (trivial) rfl ?_
   refine rvc_prim C rfl rfl rfl rfl (trivial) rfl ?_
   refine rvc_un (rexec_sliceOwn C (l := i) rfl rfl rfl rfl rfl rfl (by omega) ?_)
   refine rvc_un (rexec_copyO C rfl rfl rfl rfl rfl rfl (e := eSeen) (D.drop i) (setRange (encC eSeen D ++ List.replicate (c * 9 - (encC eSeen D).length) AV.undef) ((i + v.D.length) * 9) (encC eSeen (D.drop i))) rfl rfl rfl rfl (by rw [List.length_append, encC_len, List.length_replicate]; simp [eSeen]; omega) (by have := tail_of (e := eSeen) (D := D) (Z := List.replicate (c * 9 - (encC eSeen D).length) AV.undef) (i := i) (k := D.length + v.D.length - i) (j := (D.drop i).length * 9) hi (by omega) (by simp [eSeen]); simpa [eSeen] using this) (by simp; omega) (by rw [List.length_append, encC_len, List.length_replicate]; simp [eSeen]; omega) (by congr 1; simp) ?_ rfl)
   refine rvc_nil ?_
   refine Awp.cons C (fun _ => .pure) (by kernel_rfl) ?_ -- region 16 false
   refine rvc_prim C rfl rfl rfl rfl (trivial) rfl ?_
   refine rvc_prim C rfl rfl rfl rfl (trivial) rfl ?_
   refine rvc_un (rexec_sliceOwn C (l := i) rfl rfl rfl rfl rfl rfl (by omega) ?_)
   refine rvc_prim C rfl rfl rfl rfl (trivial) rfl ?_
   refine rvc_un (rexec_copyS C rfl rfl rfl rfl rfl rfl (e := eSeen) v.D (encC eSeen (insertL D i v.D) ++ (List.replicate (c * 9 - (encC eSeen D).length) AV.undef).drop (v.D.length * 9)) rfl rfl rfl (by omega) (by rw [setRange_length (by simp only [encC_len, List.length_append, List.length_replicate, List.length_drop, show eSeen.sz = 9 from rfl]; omega)]; simp only [encC_len, List.length_append, List.length_replicate, show eSeen.sz = 9 from rfl]; omega) (by have := insert_inplace (e := eSeen) (D := D) (M := v.D) (Z := List.replicate (c * 9 - (encC eSeen D).length) AV.undef) (i := i) hi (by rw [List.length_replicate, encC_len]; simp [eSeen]; omega); simpa [eSeen] using this) ?_)
   refine rvc_nil ?_
   refine Awp.cons C (fun _ => .pure) (by kernel_rfl) ?_ -- region 17 false
   refine rvc_prim C rfl rfl rfl rfl (trivial) rfl ?_
   refine rvc_prim C rfl rfl rfl rfl (trivial) rfl ?_
   refine rvc_nil ?_
   refine Awp.trim 0 (encC eSeen (insertL D i v.D)) ((List.replicate (c * 9 - (encC eSeen D).length) AV.undef).drop (v.D.length * 9)) rfl ?_
   refine Awp.weakenR (S := [(6, .sl 1 0 (insertL D i v.D).length 9 false)]) (H := [(1, .cells (encC eSeen (insertL D i v.D)))]) (U := [0, 1]) (fun x => bif x == 1 then 0 else x) (WeakerR.ofLI (I := [0]) (Ks := [1]) hI ⟨⟨sl_to rfl rfl (by rw [insertL_len (D := D) (M := v.D) hi] <;> omega), rfl⟩, trivial⟩ (okH_list rfl rfl rfl okH_nil) rfl rfl) ?_
   refine Awp.ret ?_
   exact ⟨.inl rfl, rfl, rfl⟩
end Go.Proofs.YthnghkkbnhjlgaaDoor
/- Lists of what was seen, cloned; into a list that is nil. No conditions. -/
namespace Go.Proofs.YthnghkkbnhjlgaaDoor
open Go.Am
def cloneSeen (s : (Sl Seen)) : (Sl Seen) :=
  (bif s.nil then (Sl.mk true []) else (Sl.mk false s.D))
theorem cloneSeen_calls (s : (Sl Seen)) (hl1 : s.D.length ≤ 1000000) : PCalls Tryd.prog 14 [sS (some s.nil) eSeen s.D] (sS (some (cloneSeen s).nil) eSeen ((cloneSeen s).D)) := by
 generalize hR : cloneSeen s = R
 refine PCalls.of_body tabOk Tryd.func14 rfl rfl rfl rfl rfl mixed fun E hP C hI => ?_
 refine Awp.consP C ?_
 refine rvP C (sS (some true) eSeen []) ?_
 refine rvc_nil ?_
 refine Awp.seq ?_
 refine Awp.consP C ?_
 refine rvP C (sS (some s.nil) eSeen s.D) ?_
 refine rvc_un (rexec_eqNil C (f := s.nil) rfl rfl rfl rfl ?_)
 refine rvc_nil ?_
 refine Awp.cond (b := s.nil) rfl (fun h1 => ?_) (fun h1 => ?_)
 ·
  replace hR := of_true h1 hR
  refine Awp.consP C ?_
  refine rvP C (sS (some true) eSeen []) ?_
  refine rvc_nil ?_
  refine Awp.ret ?_
  subst hR
  exact ⟨.inl rfl, rfl⟩
 ·
  replace hR := of_false h1 hR
  refine Awp.skip ?_
  refine Awp.consP C ?_
  refine rvc_un (rexec_prim C (δ := { v := .sl 5 0 0 9 true, new := [(5, .cells (encC eSeen []))] }) rfl rfl rfl rfl trivial rfl ?_)
  refine rvP C (sS (some s.nil) eSeen s.D) ?_
  refine rvc_un (rexec_append C rfl rfl rfl rfl rfl rfl rfl rfl (fun _ h => by cases h) rfl (en := eSeen) (D0 := []) (D := s.D) rfl rfl rfl rfl (by first | omega | (simp <;> omega)) (by decide) (nn := s.D.length) (by simp) ?_)
  refine rvP C (.sl 7 0 s.D.length 9 false) ?_
  refine rvc_nil ?_
  refine Awp.freezeW 7 (encL eSeen s.D) ?_ [(2, sS (some false) eSeen s.D)] [] ?_ ?_ ?_
  · rfl
  · exact ⟨⟨_, rfl, .inl (.inr ⟨_, _, _, rfl, rfl⟩)⟩, trivial⟩
  · exact trivial
  refine Awp.ret ?_
  subst hR
  exact ⟨.inl rfl, rfl⟩
def cloneSeenO (s : (Sl Seen)) : List Seen :=
  s.D
theorem cloneSeenO_calls (s : (Sl Seen)) (hn : s.nil = false) (hl1 : s.D.length ≤ 1000000) : OCalls Tryd.prog 14 [sS (some s.nil) eSeen s.D] (.sl 0 0 (cloneSeenO s).length 9 false) (.cells (encC eSeen (cloneSeenO s))) := by
 generalize hR : cloneSeenO s = R
 refine OCalls.of_body tabOk Tryd.func14 rfl rfl rfl rfl rfl (encC_within _ _) mixed fun E hP C hI => ?_
 refine Awp.consP C ?_
 refine rvP C (sS (some true) eSeen []) ?_
 refine rvc_nil ?_
 refine Awp.seq ?_
 refine Awp.consP C ?_
 refine rvP C (sS (some s.nil) eSeen s.D) ?_
 refine rvc_un (rexec_eqNil C (f := s.nil) rfl rfl rfl rfl ?_)
 refine rvc_nil ?_
 refine Awp.condF (b := s.nil) rfl hn ?_
 refine Awp.skip ?_
 refine Awp.consP C ?_
 refine rvc_un (rexec_prim C (δ := { v := .sl 5 0 0 9 true, new := [(5, .cells (encC eSeen []))] }) rfl rfl rfl rfl trivial rfl ?_)
 refine rvP C (sS (some s.nil) eSeen s.D) ?_
 refine rvc_un (rexec_append C rfl rfl rfl rfl rfl rfl rfl rfl (fun _ h => by cases h) rfl (en := eSeen) (D0 := []) (D := s.D) rfl rfl rfl rfl (by first | omega | (simp <;> omega)) (by decide) (nn := s.D.length) (by simp) ?_)
 refine rvP C (.sl 7 0 s.D.length 9 false) ?_
 refine rvc_nil ?_
 refine Awp.weakenR (S := [(2, .sl 0 0 s.D.length 9 false)]) (H := [(0, .cells (encC eSeen s.D))]) (U := [0]) (fun x => bif x == 0 then 7 else x) (WeakerR.ofL (Ks := [0]) hI ⟨⟨rfl, rfl⟩, trivial⟩ (okH_list rfl rfl rfl okH_nil) rfl) ?_
 refine Awp.ret ?_
 subst hR
 exact ⟨.inl rfl, rfl, rfl⟩
theorem cloneSeenO_nil (s : Sl Seen) (h : s.nil = true) (hl : s.D.length ≤ 1000000) : PCalls Tryd.prog 14 [sS (some s.nil) eSeen s.D] (sS (some true) eSeen []) := by
  have r := cloneSeen_calls s hl
  rw [show cloneSeen s = Sl.mk true [] by unfold cloneSeen; rw [h]; rfl] at r
  exact r
theorem ne0_of {D : List Seen} (h : 0 < D.length) : ((D.length : Int) == 0) = false := by simp; intro e; rw [e] at h; simp at h
def insNil   (v : (Sl Seen)) : List Seen :=
  v.D
theorem insNil_calls   (v : (Sl Seen)) (hv : 0 < v.D.length) (hl1 : v.D.length ≤ 1000000) : OCalls Tryd.prog 46 [sS (some true) eSeen [], .pv (.lit (.int .i64 0)), sS (some v.nil) eSeen v.D] (.sl 0 0 (insNil   v).length 9 false) (.cells (encC eSeen (insNil   v))) := by
 generalize hR : insNil   v = R
 refine OCalls.of_body tabOk Tryd.func46 rfl rfl rfl rfl rfl (encC_within _ _) mixed fun E hP C hI => ?_
 refine Awp.consP C ?_
 refine rvP C (sS (some true) eSeen []) ?_
 refine rvc_nil ?_
 refine Awp.consP C ?_
 refine rvP C (sS (some true) eSeen []) ?_
 refine rvP C (.pv (.lit (.int .i64 0))) ?_
 refine rvc_un (rexec_sliceS C (e := eSeen) (D := []) 0 0 rfl rfl rfl rfl rfl rfl rfl rfl rfl rfl (by have := ne_of_beq_false (ne0_of hv); omega) (by have := ne_of_beq_false (ne0_of hv); omega) [] (by simp) ?_)
 refine rvc_nil ?_
 refine Awp.consP C ?_
 refine rvP C (sS (some v.nil) eSeen v.D) ?_
 refine rvP C (.pv (.lit (.int .i64 (v.D.length : Int)))) ?_
 refine rvP C (.pv (.lit (.int .i64 (v.D.length : Int)))) ?_
 refine rvc_nil ?_
 refine Awp.seq ?_
 refine Awp.consP C ?_
 refine rvP C (.pv (.lit (.int .i64 (v.D.length : Int)))) ?_
 refine rvP C (.pv (.lit (.bool ((v.D.length : Int) == 0)))) ?_
 refine rvc_nil ?_
 refine Awp.condF (b := ((v.D.length : Int) == 0)) rfl (ne0_of hv) ?_
 refine Awp.skip ?_
 refine Awp.consP C ?_
 refine rvP C (sS (some true) eSeen []) ?_
 refine rvP C (.pv (.lit (.int .i64 0))) ?_
 refine rvP C (.pv (.lit (.int .i64 0))) ?_
 refine rvc_nil ?_
 refine Awp.seq ?_
 refine Awp.consP C ?_
 refine rvP C (.pv (.lit (.int .i64 0))) ?_
 refine rvP C (.pv (.lit (.int .i64 0))) ?_
 refine rvP C (.pv (.lit (.bool true))) ?_
 refine rvc_nil ?_
 refine Awp.condT (b := true) rfl rfl ?_
 refine Awp.consP C ?_
 refine rvP C (sS (some true) eSeen []) ?_
 refine rvP C (sS (some v.nil) eSeen v.D) ?_
 refine rvc_un (rexec_appendN C rfl rfl rfl rfl rfl rfl rfl rfl (fun _ h => by cases h) rfl (en := eSeen) (D := v.D) rfl rfl hv (by have := ne_of_beq_false (ne0_of hv); first | omega | (simp <;> omega)) (by decide) (nn := v.D.length) rfl ?_)
 refine rvP C (.sl 25 0 v.D.length 9 false) ?_
 refine rvc_nil ?_
 refine Awp.weakenR (S := [(6, .sl 0 0 v.D.length 9 false)]) (H := [(0, .cells (encC eSeen v.D))]) (U := [0]) (fun x => bif x == 0 then 25 else x) (WeakerR.ofL (Ks := [0]) hI ⟨⟨rfl, rfl⟩, trivial⟩ (okH_list rfl rfl rfl okH_nil) rfl) ?_
 refine Awp.ret ?_
 subst hR
 exact ⟨.inl rfl, rfl, rfl⟩
end Go.Proofs.YthnghkkbnhjlgaaDoor
/- Into a list of what was seen, at a place that is told. No conditions. -/
namespace Go.Proofs.YthnghkkbnhjlgaaDoor
open Go.Am
theorem insertSI_calls (D : List Seen) (i : Int) (v : Sl Seen) (hi : 0 ≤ i ∧ i ≤ (D.length : Int)) (hv : 0 < v.D.length) (hl1 : D.length ≤ 1000000) (hl2 : v.D.length ≤ 1000000) : TCalls Tryd.prog 46 [.sl 0 0 D.length 9 false, .pv (.lit (.int .i64 i)), sS (some v.nil) eSeen v.D] (.cells (encC eSeen D)) (.sl 1 0 (insertL D i.toNat v.D).length 9 false) (.cells (encC eSeen (insertL D i.toNat v.D))) := by
  have r := insertS_calls D i.toNat v (by omega) hv hl1 hl2
  rw [Int.toNat_of_nonneg hi.1] at r
  exact r
theorem insNilI_calls (i : Int) (v : Sl Seen) (hi : i = 0) (hv : 0 < v.D.length) (hl : v.D.length ≤ 1000000) : OCalls Tryd.prog 46 [sS (some true) eSeen [], .pv (.lit (.int .i64 i)), sS (some v.nil) eSeen v.D] (.sl 0 0 v.D.length 9 false) (.cells (encC eSeen v.D)) := by
  subst hi
  exact insNil_calls v hv hl
theorem place_nil {l : Sl Seen} {k : Nat → Int} (hn : l.D.length ≤ 1000000) (h : l.D = []) : (place l k).1 = 0 := by
  have := place_le l k hn
  rw [h] at this
  simp at this
  omega
theorem place_nil2 {l : Sl Seen} {k : Nat → Int} (hn : l.D.length ≤ 1000000) (h : l.D = []) : (place l k).2 = false := by
  cases e : (place l k).2
  · rfl
  · have := place_lt hn e
    rw [h] at this
    simp at this
    omega
theorem place_toNat {l : Sl Seen} {k : Nat → Int} (hn : l.D.length ≤ 1000000) : ((place l k).1).toNat ≤ l.D.length := by
  have := place_le l k hn
  omega
theorem KB_nil : ∀ x ∈ ([] : List Seen), KeyB x.key := fun _ h => nomatch h
theorem KB_one {k : Nat → Int} {v : Int} (hk : KeyB k) : ∀ x ∈ [Seen.mk k v], KeyB x.key := fun x h => by rw [List.mem_singleton.1 h]; exact hk
theorem K8 {k : Nat → Int} (h : KeyB k) : KeyB (ofL [k 0, k 1, k 2, k 3, k 4, k 5, k 6, k 7]) := fun j hj => by
  rcases (by omega : j = 0 ∨ j = 1 ∨ j = 2 ∨ j = 3 ∨ j = 4 ∨ j = 5 ∨ j = 6 ∨ j = 7) with rfl | rfl | rfl | rfl | rfl | rfl | rfl | rfl <;> exact h _ (by decide)
theorem KB_setk {D : List Seen} {i : Nat} {k : Nat → Int} {v : Int} (h : ∀ x ∈ D, KeyB x.key) (hk : KeyB k) : ∀ x ∈ D.set i (Seen.mk k v), KeyB x.key := fun x hx => by
  rcases List.mem_or_eq_of_mem_set hx with hx | rfl
  · exact h x hx
  · exact hk
theorem KB_ins {D : List Seen} {i : Nat} {k : Nat → Int} {v : Int} (h : ∀ x ∈ D, KeyB x.key) (hk : KeyB k) : ∀ x ∈ insertL D i [Seen.mk k v], KeyB x.key := fun x hx => by
  unfold insertL at hx
  rcases List.mem_append.1 hx with hx | hx
  · rcases List.mem_append.1 hx with hx | hx
    · exact h x (List.mem_of_mem_take hx)
    · exact KB_one hk x hx
  · exact h x (List.mem_of_mem_drop hx)
end Go.Proofs.YthnghkkbnhjlgaaDoor
/- One version more. No conditions. -/
namespace Go.Proofs.YthnghkkbnhjlgaaDoor
open Go.Am
def pSee (l : (Sl Seen)) (k : (Nat → Int)) (ver : Int) : (Sl Seen) × Int :=
  (bif ((pRight l) != 0) then ((Sl.mk true []), (pRight l)) else (bif ((shRight k) != 0) then ((Sl.mk true []), 100) else (bif (decide (ver < 0)) then ((Sl.mk true []), 100) else (bif (decide (ver > 1099511627776)) then ((Sl.mk true []), 100) else (bif l.nil then (bif (ver == 0) then (bif ((pRight (Sl.mk true [])) != 0) then ((Sl.mk true []), (pRight (Sl.mk true []))) else ((Sl.mk true []), 0)) else (bif ((pRight (Sl.mk false [(Seen.mk k ver)])) != 0) then ((Sl.mk true []), (pRight (Sl.mk false [(Seen.mk k ver)]))) else ((Sl.mk false [(Seen.mk k ver)]), 0))) else (bif (place l k).2 then (bif ((pRight (Sl.mk false (l.D.set (((place l k).1).toNat) (Seen.mk (ofL [(l.D[((place l k).1).toNat]!.key 0), (l.D[((place l k).1).toNat]!.key 1), (l.D[((place l k).1).toNat]!.key 2), (l.D[((place l k).1).toNat]!.key 3), (l.D[((place l k).1).toNat]!.key 4), (l.D[((place l k).1).toNat]!.key 5), (l.D[((place l k).1).toNat]!.key 6), (l.D[((place l k).1).toNat]!.key 7)]) (bif (decide ((l.D[((place l k).1).toNat]!.ver) < ver)) then ver else (l.D[((place l k).1).toNat]!.ver)))))) != 0) then ((Sl.mk true []), (pRight (Sl.mk false (l.D.set (((place l k).1).toNat) (Seen.mk (ofL [(l.D[((place l k).1).toNat]!.key 0), (l.D[((place l k).1).toNat]!.key 1), (l.D[((place l k).1).toNat]!.key 2), (l.D[((place l k).1).toNat]!.key 3), (l.D[((place l k).1).toNat]!.key 4), (l.D[((place l k).1).toNat]!.key 5), (l.D[((place l k).1).toNat]!.key 6), (l.D[((place l k).1).toNat]!.key 7)]) (bif (decide ((l.D[((place l k).1).toNat]!.ver) < ver)) then ver else (l.D[((place l k).1).toNat]!.ver))))))) else ((Sl.mk false (l.D.set (((place l k).1).toNat) (Seen.mk (ofL [(l.D[((place l k).1).toNat]!.key 0), (l.D[((place l k).1).toNat]!.key 1), (l.D[((place l k).1).toNat]!.key 2), (l.D[((place l k).1).toNat]!.key 3), (l.D[((place l k).1).toNat]!.key 4), (l.D[((place l k).1).toNat]!.key 5), (l.D[((place l k).1).toNat]!.key 6), (l.D[((place l k).1).toNat]!.key 7)]) (bif (decide ((l.D[((place l k).1).toNat]!.ver) < ver)) then ver else (l.D[((place l k).1).toNat]!.ver))))), 0)) else (bif (ver == 0) then (bif ((pRight (Sl.mk false l.D)) != 0) then ((Sl.mk true []), (pRight (Sl.mk false l.D))) else ((Sl.mk false l.D), 0)) else (bif ((pRight (Sl.mk false (insertL l.D (((place l k).1).toNat) [(Seen.mk k ver)]))) != 0) then ((Sl.mk true []), (pRight (Sl.mk false (insertL l.D (((place l k).1).toNat) [(Seen.mk k ver)])))) else ((Sl.mk false (insertL l.D (((place l k).1).toNat) [(Seen.mk k ver)])), 0)))))))))
theorem pSee_calls (l : (Sl Seen)) (k : (Nat → Int)) (ver : Int) (hl : ∀ x ∈ l.D, KeyB x.key) (hk : KeyB k) (hn : l.nil = true → l.D = []) (hl1 : l.D.length ≤ 1000) : PCalls Tryd.prog 22 [sS (some l.nil) eSeen l.D, .agg [.pv (.lit (.int .u8 (k 0))), .pv (.lit (.int .u8 (k 1))), .pv (.lit (.int .u8 (k 2))), .pv (.lit (.int .u8 (k 3))), .pv (.lit (.int .u8 (k 4))), .pv (.lit (.int .u8 (k 5))), .pv (.lit (.int .u8 (k 6))), .pv (.lit (.int .u8 (k 7)))], .pv (.lit (.int .i64 ver))] (.tup [sS (some (pSee l k ver).1.nil) eSeen ((pSee l k ver).1.D), .pv (.lit (.int .i64 ((pSee l k ver).2)))]) := by
 generalize hR : pSee l k ver = R
 refine PCalls.of_body tabOk Tryd.func22 rfl rfl rfl rfl rfl mixed fun E hP C hI => ?_
 refine Awp.consP C ?_
 refine rvc_un (rexec_prim C (δ := { v := .ptr 4 0, new := [(4, .cells [.pv (.lit (.int .u8 (k 0))), .pv (.lit (.int .u8 (k 1))), .pv (.lit (.int .u8 (k 2))), .pv (.lit (.int .u8 (k 3))), .pv (.lit (.int .u8 (k 4))), .pv (.lit (.int .u8 (k 5))), .pv (.lit (.int .u8 (k 6))), .pv (.lit (.int .u8 (k 7)))])] }) rfl rfl rfl rfl trivial rfl ?_)
 refine rvP C (sS (some true) eSeen []) ?_
 refine rvP C (.pv (.lit (.int .i64 0))) ?_
 refine rvc_nil ?_
 refine Awp.seq ?_
 refine Awp.consP C ?_
 refine rvP C (sS (some l.nil) eSeen l.D) ?_
 refine rvc_un (rexec_call hP C rfl rfl rfl (pRight_calls l hl (Nat.le_trans hl1 (by decide))) ?_)
 refine rvP C (.pv (.lit (.int .i64 (pRight l)))) ?_
 refine rvc_nil ?_
 refine Awp.consP C ?_
 refine rvP C (.pv (.lit (.int .i64 (pRight l)))) ?_
 refine rvP C (.pv (.lit (.bool ((pRight l) != 0)))) ?_
 refine rvc_nil ?_
 refine Awp.cond (b := ((pRight l) != 0)) rfl (fun h1 => ?_) (fun h1 => ?_)
 ·
  replace hR := of_true h1 hR
  refine Awp.consP C ?_
  refine rvP C (.pv (.lit (.int .i64 (pRight l)))) ?_
  refine rvP C (sS (some true) eSeen []) ?_
  refine rvP C (.pv (.lit (.int .i64 (pRight l)))) ?_
  refine rvc_nil ?_
  refine Awp.ret ?_
  subst hR
  exact ⟨.inl rfl, rfl⟩
 ·
  replace hR := of_false h1 hR
  refine Awp.skip ?_
  refine Awp.seq ?_
  refine Awp.consP C ?_
  refine rvP C (.agg [.pv (.lit (.int .u8 (k 0))), .pv (.lit (.int .u8 (k 1))), .pv (.lit (.int .u8 (k 2))), .pv (.lit (.int .u8 (k 3))), .pv (.lit (.int .u8 (k 4))), .pv (.lit (.int .u8 (k 5))), .pv (.lit (.int .u8 (k 6))), .pv (.lit (.int .u8 (k 7)))]) ?_
  refine rvc_un (rexec_call hP C rfl rfl rfl (shRight_calls k hk) ?_)
  refine rvP C (.pv (.lit (.bool ((shRight k) != 0)))) ?_
  refine rvP C (.pv (.lit (.bool ((shRight k) != 0)))) ?_
  refine rvc_case 21 ((shRight k) != 0) rfl (fun h2 => ?_) (fun h2 => ?_)
  ·
   replace hR := of_true h2 hR
   refine rvS ?_
   refine rvS ?_
   refine rvP C (.pv (.lit (.bool true))) ?_
   refine rvP C (.pv (.lit (.bool true))) ?_
   refine rvS ?_
   refine rvS ?_
   refine rvP C (.pv (.lit (.bool true))) ?_
   refine rvc_nil ?_
   refine Awp.condT (b := true) rfl rfl ?_
   refine Awp.consP C ?_
   refine rvP C (sS (some true) eSeen []) ?_
   refine rvP C (.pv (.lit (.int .i64 100))) ?_
   refine rvc_nil ?_
   refine Awp.ret ?_
   subst hR
   exact ⟨.inl rfl, rfl⟩
  ·
   replace hR := of_false h2 hR
   refine rvO C (.pv (.lit (.int .i64 ver))) ?_
   refine rvO C (.pv (.lit (.bool (decide (ver < 0))))) ?_
   refine rvP C (.pv (.lit (.bool (decide (ver < 0))))) ?_
   refine rvP C (.pv (.lit (.bool (decide (ver < 0))))) ?_
   refine rvc_case 25 (decide (ver < 0)) rfl (fun h3 => ?_) (fun h3 => ?_)
   ·
    replace hR := of_true h3 hR
    refine rvS ?_
    refine rvS ?_
    refine rvP C (.pv (.lit (.bool true))) ?_
    refine rvc_nil ?_
    refine Awp.condT (b := true) rfl rfl ?_
    refine Awp.consP C ?_
    refine rvP C (sS (some true) eSeen []) ?_
    refine rvP C (.pv (.lit (.int .i64 100))) ?_
    refine rvc_nil ?_
    refine Awp.ret ?_
    subst hR
    exact ⟨.inl rfl, rfl⟩
   ·
    replace hR := of_false h3 hR
    refine rvO C (.pv (.lit (.int .i64 ver))) ?_
    refine rvO C (.pv (.lit (.bool (decide (ver > 1099511627776))))) ?_
    refine rvP C (.pv (.lit (.bool (decide (ver > 1099511627776))))) ?_
    refine rvc_nil ?_
    refine Awp.cond (b := (decide (ver > 1099511627776))) rfl (fun h4 => ?_) (fun h4 => ?_)
    ·
     replace hR := of_true h4 hR
     refine Awp.consP C ?_
     refine rvP C (sS (some true) eSeen []) ?_
     refine rvP C (.pv (.lit (.int .i64 100))) ?_
     refine rvc_nil ?_
     refine Awp.ret ?_
     subst hR
     exact ⟨.inl rfl, rfl⟩
    ·
     replace hR := of_false h4 hR
     refine Awp.skip ?_
     refine Awp.cons C (fun _ => .quiet) (by kernel_rfl) ?_
     refine rvP C (sS (some l.nil) eSeen l.D) ?_
     rcases Bool.eq_false_or_eq_true l.nil with h5 | h5
     ·
      replace hR := of_true h5 hR
      refine rvc_un (rexec_call hP C rfl rfl rfl (cloneSeenO_nil l h5 (by have := eq_of_bne_false h1; have := eq_of_bne_false h2; have := of_decide_eq_false h3; have := of_decide_eq_false h4; omega)) ?_)
      refine rvP C (sS (some true) eSeen []) ?_
      refine rvc_nil ?_
      refine Awp.consP C ?_
      refine rvP C (sS (some l.nil) eSeen l.D) ?_
      refine rvP C (.agg [.pv (.lit (.int .u8 (k 0))), .pv (.lit (.int .u8 (k 1))), .pv (.lit (.int .u8 (k 2))), .pv (.lit (.int .u8 (k 3))), .pv (.lit (.int .u8 (k 4))), .pv (.lit (.int .u8 (k 5))), .pv (.lit (.int .u8 (k 6))), .pv (.lit (.int .u8 (k 7)))]) ?_
      refine rvc_un (rexec_call hP C rfl rfl rfl (place_calls l k (Nat.le_trans hl1 (by decide))) ?_)
      refine rvP C (.tup [.pv (.lit (.int .i64 ((place l k).1))), .pv (.lit (.bool ((place l k).2)))]) ?_
      refine rvP C (.pv (.lit (.int .i64 ((place l k).1)))) ?_
      refine rvP C (.pv (.lit (.bool ((place l k).2)))) ?_
      refine rvP C (.pv (.lit (.int .i64 ((place l k).1)))) ?_
      refine rvP C (.pv (.lit (.bool ((place l k).2)))) ?_
      refine rvc_nil ?_
      refine Awp.seq ?_
      refine Awp.block ?_
      refine Awp.consP C ?_
      refine rvP C (.pv (.lit (.bool ((place l k).2)))) ?_
      refine rvP C (.pv (.lit (.bool ((place l k).2)))) ?_
      refine rvc_nil ?_
      refine Awp.condF (b := (place l k).2) rfl (place_nil2 (Nat.le_trans hl1 (by decide)) (hn h5)) ?_
      refine Awp.consP C ?_
      refine rvP C (.pv (.lit (.int .i64 ver))) ?_
      refine rvP C (.pv (.lit (.bool (ver == 0)))) ?_
      refine rvP C (.pv (.lit (.bool (ver == 0)))) ?_
      refine rvc_nil ?_
      refine Awp.cond (b := (ver == 0)) rfl (fun h6 => ?_) (fun h6 => ?_)
      ·
       replace hR := of_true h6 hR
       refine Awp.skip ?_
       refine Awp.seq ?_
       refine Awp.consP C ?_
       refine rvP C (sS (some true) eSeen []) ?_
       refine rvc_un (rexec_call hP C rfl rfl rfl (pRight_calls (Sl.mk true []) (by first | exact hl | exact KB_nil | exact KB_ins hl hk | exact KB_one hk | exact KB_setk hl (K8 (KB.at hl (by omega)))) (by first | (show _ ≤ 1000000; simp; done) | (show l.D.length ≤ 1000000; exact (Nat.le_trans hl1 (by decide))) | (rw [List.length_set]; exact (Nat.le_trans hl1 (by decide))) | (rw [insertL_len (place_toNat (Nat.le_trans hl1 (by decide)))]; simp; omega))) ?_)
       refine rvP C (.pv (.lit (.int .i64 (pRight (Sl.mk true []))))) ?_
       refine rvc_nil ?_
       refine Awp.consP C ?_
       refine rvP C (.pv (.lit (.int .i64 (pRight (Sl.mk true []))))) ?_
       refine rvP C (.pv (.lit (.bool ((pRight (Sl.mk true [])) != 0)))) ?_
       refine rvc_nil ?_
       refine Awp.cond (b := ((pRight (Sl.mk true [])) != 0)) rfl (fun h7 => ?_) (fun h7 => ?_)
       ·
        replace hR := of_true h7 hR
        refine Awp.consP C ?_
        refine rvP C (.pv (.lit (.int .i64 (pRight (Sl.mk true []))))) ?_
        refine rvP C (sS (some true) eSeen []) ?_
        refine rvP C (.pv (.lit (.int .i64 (pRight (Sl.mk true []))))) ?_
        refine rvc_nil ?_
        refine Awp.ret ?_
        subst hR
        exact ⟨.inl rfl, rfl⟩
       ·
        replace hR := of_false h7 hR
        refine Awp.skip ?_
        refine Awp.consP C ?_
        refine rvP C (sS (some true) eSeen []) ?_
        refine rvP C (sS (some true) eSeen []) ?_
        refine rvP C (.pv (.lit (.int .i64 0))) ?_
        refine rvc_nil ?_
        refine Awp.ret ?_
        subst hR
        exact ⟨.inl rfl, rfl⟩
      ·
       replace hR := of_false h6 hR
       refine Awp.region C (fun _ => .writer) (by kernel_rfl) ?_
       refine rvP C (sS (some true) eSeen []) ?_
       refine rvP C (.pv (.lit (.int .i64 ((place l k).1)))) ?_
       refine rvP C (.agg [.pv (.lit (.int .u8 (k 0))), .pv (.lit (.int .u8 (k 1))), .pv (.lit (.int .u8 (k 2))), .pv (.lit (.int .u8 (k 3))), .pv (.lit (.int .u8 (k 4))), .pv (.lit (.int .u8 (k 5))), .pv (.lit (.int .u8 (k 6))), .pv (.lit (.int .u8 (k 7)))]) ?_
       refine rvP C (.pv (.lit (.int .i64 ver))) ?_
       refine rvP C (.agg [.pv (.lit (.int .u8 (k 0))), .pv (.lit (.int .u8 (k 1))), .pv (.lit (.int .u8 (k 2))), .pv (.lit (.int .u8 (k 3))), .pv (.lit (.int .u8 (k 4))), .pv (.lit (.int .u8 (k 5))), .pv (.lit (.int .u8 (k 6))), .pv (.lit (.int .u8 (k 7))), .pv (.lit (.int .i64 ver))]) ?_
       refine rvc_un (rexec_buildSliceF C eSeen [(Seen.mk k ver)] rfl rfl rfl rfl rfl rfl rfl (by decide) rfl ?_)
       refine rvc_un (rexec_callO hP C rfl rfl rfl rfl (insNilI_calls ((place l k).1) (Sl.mk false [(Seen.mk k ver)]) (place_nil (Nat.le_trans hl1 (by decide)) (hn ‹l.nil = true›)) (by simp) (by simp)) ?_)
       refine rvP C (.sl 43 0 ([(Seen.mk k ver)].length) 9 false) ?_
       refine rvc_nil ?_
       refine Awp.seq ?_
       refine Awp.freezeW 43 (encL eSeen [(Seen.mk k ver)]) ?_ [(6, sS (some true) eSeen []), (7, .pv (.lit (.int .i64 0))), (9, sS (some false) eSeen [(Seen.mk k ver)])] [(4, .cells [.pv (.lit (.int .u8 (k 0))), .pv (.lit (.int .u8 (k 1))), .pv (.lit (.int .u8 (k 2))), .pv (.lit (.int .u8 (k 3))), .pv (.lit (.int .u8 (k 4))), .pv (.lit (.int .u8 (k 5))), .pv (.lit (.int .u8 (k 6))), .pv (.lit (.int .u8 (k 7)))])] ?_ ?_ ?_
       · rfl
       · exact ⟨⟨_, rfl, .inl (.inl rfl)⟩, ⟨_, rfl, .inl (.inl rfl)⟩, ⟨_, rfl, .inl (.inr ⟨_, _, _, rfl, rfl⟩)⟩, trivial⟩
       · exact ⟨⟨(by show (4 : Nat) ≠ 43; decide), .inl rfl⟩, trivial⟩
       refine Awp.consP C ?_
       refine rvP C (sS (some false) eSeen [(Seen.mk k ver)]) ?_
       refine rvc_un (rexec_call hP C rfl rfl rfl (pRight_calls (Sl.mk false [(Seen.mk k ver)]) (by first | exact hl | exact KB_nil | exact KB_ins hl hk | exact KB_one hk | exact KB_setk hl (K8 (KB.at hl (by omega)))) (by first | (show _ ≤ 1000000; simp; done) | (show l.D.length ≤ 1000000; exact (Nat.le_trans hl1 (by decide))) | (rw [List.length_set]; exact (Nat.le_trans hl1 (by decide))) | (rw [insertL_len (place_toNat (Nat.le_trans hl1 (by decide)))]; simp; omega))) ?_)
       refine rvP C (.pv (.lit (.int .i64 (pRight (Sl.mk false [(Seen.mk k ver)]))))) ?_
       refine rvc_nil ?_
       refine Awp.consP C ?_
       refine rvP C (.pv (.lit (.int .i64 (pRight (Sl.mk false [(Seen.mk k ver)]))))) ?_
       refine rvP C (.pv (.lit (.bool ((pRight (Sl.mk false [(Seen.mk k ver)])) != 0)))) ?_
       refine rvc_nil ?_
       refine Awp.cond (b := ((pRight (Sl.mk false [(Seen.mk k ver)])) != 0)) rfl (fun h8 => ?_) (fun h8 => ?_)
       ·
        replace hR := of_true h8 hR
        refine Awp.consP C ?_
        refine rvP C (.pv (.lit (.int .i64 (pRight (Sl.mk false [(Seen.mk k ver)]))))) ?_
        refine rvP C (sS (some true) eSeen []) ?_
        refine rvP C (.pv (.lit (.int .i64 (pRight (Sl.mk false [(Seen.mk k ver)]))))) ?_
        refine rvc_nil ?_
        refine Awp.ret ?_
        subst hR
        exact ⟨.inl rfl, rfl⟩
       ·
        replace hR := of_false h8 hR
        refine Awp.skip ?_
        refine Awp.consP C ?_
        refine rvP C (sS (some false) eSeen [(Seen.mk k ver)]) ?_
        refine rvP C (sS (some false) eSeen [(Seen.mk k ver)]) ?_
        refine rvP C (.pv (.lit (.int .i64 0))) ?_
        refine rvc_nil ?_
        refine Awp.ret ?_
        subst hR
        exact ⟨.inl rfl, rfl⟩
     ·
      replace hR := of_false h5 hR
      refine rvc_un (rexec_callO hP C rfl rfl rfl rfl (cloneSeenO_calls l h5 (by have := eq_of_bne_false h1; have := eq_of_bne_false h2; have := of_decide_eq_false h3; have := of_decide_eq_false h4; omega)) ?_)
      refine rvP C (.sl 30 0 l.D.length 9 false) ?_
      refine rvc_nil ?_
      refine Awp.consP C ?_
      refine rvP C (sS (some l.nil) eSeen l.D) ?_
      refine rvP C (.agg [.pv (.lit (.int .u8 (k 0))), .pv (.lit (.int .u8 (k 1))), .pv (.lit (.int .u8 (k 2))), .pv (.lit (.int .u8 (k 3))), .pv (.lit (.int .u8 (k 4))), .pv (.lit (.int .u8 (k 5))), .pv (.lit (.int .u8 (k 6))), .pv (.lit (.int .u8 (k 7)))]) ?_
      refine rvc_un (rexec_call hP C rfl rfl rfl (place_calls l k (Nat.le_trans hl1 (by decide))) ?_)
      refine rvP C (.tup [.pv (.lit (.int .i64 ((place l k).1))), .pv (.lit (.bool ((place l k).2)))]) ?_
      refine rvP C (.pv (.lit (.int .i64 ((place l k).1)))) ?_
      refine rvP C (.pv (.lit (.bool ((place l k).2)))) ?_
      refine rvP C (.pv (.lit (.int .i64 ((place l k).1)))) ?_
      refine rvP C (.pv (.lit (.bool ((place l k).2)))) ?_
      refine rvc_nil ?_
      refine Awp.seq ?_
      refine Awp.block ?_
      refine Awp.consP C ?_
      refine rvP C (.pv (.lit (.bool ((place l k).2)))) ?_
      refine rvP C (.pv (.lit (.bool ((place l k).2)))) ?_
      refine rvc_nil ?_
      refine Awp.cond (b := (place l k).2) rfl (fun h9 => ?_) (fun h9 => ?_)
      ·
       replace hR := of_true h9 hR
       refine Awp.regionP C ?_
       refine rvP C (.sl 30 0 l.D.length 9 false) ?_
       refine rvP C (.pv (.lit (.int .i64 ((place l k).1)))) ?_
       refine rvP C (.sl 30 0 l.D.length 9 false) ?_
       refine rvP C (.pv (.lit (.int .i64 ((place l k).1)))) ?_
       have hpl_ := place_lt (k := k) (Nat.le_trans hl1 (by decide)) ‹(place l k).2 = true›
       have h10 : l.D[((place l k).1).toNat]? = some l.D[((place l k).1).toNat]! := getE (by have h_ := place_lt (k := k) (Nat.le_trans hl1 (by decide)) ‹(place l k).2 = true›; omega)
       refine rvc_un (rexec_prim C (δ := { v := .ptr 30 (0 + ((place l k).1).toNat * 9) }) rfl rfl rfl rfl ⟨(by have := eq_of_bne_false h1; have := eq_of_bne_false h2; have := of_decide_eq_false h3; have := of_decide_eq_false h4; omega), getlt h10 (by first | rfl | omega | (have := eq_of_bne_false h1; have := eq_of_bne_false h2; have := of_decide_eq_false h3; have := of_decide_eq_false h4; omega)) (by first | rfl | omega | simp)⟩ rfl ?_)
       refine rvP C (.ptr 30 (0 + ((place l k).1).toNat * 9 + 8)) ?_
       refine rvc_un (rexec_loadE C (e := eSeen) (((place l k).1).toNat) 8 (l.D[((place l k).1).toNat]!) (.pv (.lit (.int .i64 (l.D[((place l k).1).toNat]!.ver)))) rfl rfl rfl rfl h10 (by simp [eSeen]) (by decide) (by decide) rfl ?_)
       refine rvP C (.pv (.lit (.int .i64 ver))) ?_
       refine rvc_un (rexec_max C rfl rfl rfl ?_)
       refine rvc_un (rexec_prim C (δ := { v := .ptr 30 (0 + ((place l k).1).toNat * 9) }) rfl rfl rfl rfl ⟨(by have := eq_of_bne_false h1; have := eq_of_bne_false h2; have := of_decide_eq_false h3; have := of_decide_eq_false h4; omega), getlt h10 (by first | rfl | omega | (have := eq_of_bne_false h1; have := eq_of_bne_false h2; have := of_decide_eq_false h3; have := of_decide_eq_false h4; omega)) (by first | rfl | omega | simp)⟩ rfl ?_)
       refine rvP C (.ptr 30 (0 + ((place l k).1).toNat * 9 + 8)) ?_
       refine rvc_un (rexec_storeE C (e := eSeen) (((place l k).1).toNat) 8 (l.D[((place l k).1).toNat]!) (Seen.mk (ofL [(l.D[((place l k).1).toNat]!.key 0), (l.D[((place l k).1).toNat]!.key 1), (l.D[((place l k).1).toNat]!.key 2), (l.D[((place l k).1).toNat]!.key 3), (l.D[((place l k).1).toNat]!.key 4), (l.D[((place l k).1).toNat]!.key 5), (l.D[((place l k).1).toNat]!.key 6), (l.D[((place l k).1).toNat]!.key 7)]) (bif (decide ((l.D[((place l k).1).toNat]!.ver) < ver)) then ver else (l.D[((place l k).1).toNat]!.ver))) rfl rfl rfl rfl h10 (by simp [eSeen]) rfl rfl rfl (of_decide_eq_true rfl) rfl ?_)
       refine rvc_nil ?_
       refine Awp.seq ?_
       refine Awp.freezeW 30 (encL eSeen (l.D.set (((place l k).1).toNat) (Seen.mk (ofL [(l.D[((place l k).1).toNat]!.key 0), (l.D[((place l k).1).toNat]!.key 1), (l.D[((place l k).1).toNat]!.key 2), (l.D[((place l k).1).toNat]!.key 3), (l.D[((place l k).1).toNat]!.key 4), (l.D[((place l k).1).toNat]!.key 5), (l.D[((place l k).1).toNat]!.key 6), (l.D[((place l k).1).toNat]!.key 7)]) (bif (decide ((l.D[((place l k).1).toNat]!.ver) < ver)) then ver else (l.D[((place l k).1).toNat]!.ver))))) ?_ [(6, sS (some true) eSeen []), (7, .pv (.lit (.int .i64 0))), (9, sS (some false) eSeen (l.D.set (((place l k).1).toNat) (Seen.mk (ofL [(l.D[((place l k).1).toNat]!.key 0), (l.D[((place l k).1).toNat]!.key 1), (l.D[((place l k).1).toNat]!.key 2), (l.D[((place l k).1).toNat]!.key 3), (l.D[((place l k).1).toNat]!.key 4), (l.D[((place l k).1).toNat]!.key 5), (l.D[((place l k).1).toNat]!.key 6), (l.D[((place l k).1).toNat]!.key 7)]) (bif (decide ((l.D[((place l k).1).toNat]!.ver) < ver)) then ver else (l.D[((place l k).1).toNat]!.ver)))))] [(4, .cells [.pv (.lit (.int .u8 (k 0))), .pv (.lit (.int .u8 (k 1))), .pv (.lit (.int .u8 (k 2))), .pv (.lit (.int .u8 (k 3))), .pv (.lit (.int .u8 (k 4))), .pv (.lit (.int .u8 (k 5))), .pv (.lit (.int .u8 (k 6))), .pv (.lit (.int .u8 (k 7)))])] ?_ ?_ ?_
       · rfl
       · exact ⟨⟨_, rfl, .inl (.inl rfl)⟩, ⟨_, rfl, .inl (.inl rfl)⟩, ⟨_, rfl, .inl (.inr ⟨_, _, _, rfl, by simp [sS] <;> omega⟩)⟩, trivial⟩
       · exact ⟨⟨(by show (4 : Nat) ≠ 30; decide), .inl rfl⟩, trivial⟩
       refine Awp.consP C ?_
       refine rvP C (sS (some false) eSeen (l.D.set (((place l k).1).toNat) (Seen.mk (ofL [(l.D[((place l k).1).toNat]!.key 0), (l.D[((place l k).1).toNat]!.key 1), (l.D[((place l k).1).toNat]!.key 2), (l.D[((place l k).1).toNat]!.key 3), (l.D[((place l k).1).toNat]!.key 4), (l.D[((place l k).1).toNat]!.key 5), (l.D[((place l k).1).toNat]!.key 6), (l.D[((place l k).1).toNat]!.key 7)]) (bif (decide ((l.D[((place l k).1).toNat]!.ver) < ver)) then ver else (l.D[((place l k).1).toNat]!.ver))))) ?_
       refine rvc_un (rexec_call hP C rfl rfl rfl (pRight_calls (Sl.mk false (l.D.set (((place l k).1).toNat) (Seen.mk (ofL [(l.D[((place l k).1).toNat]!.key 0), (l.D[((place l k).1).toNat]!.key 1), (l.D[((place l k).1).toNat]!.key 2), (l.D[((place l k).1).toNat]!.key 3), (l.D[((place l k).1).toNat]!.key 4), (l.D[((place l k).1).toNat]!.key 5), (l.D[((place l k).1).toNat]!.key 6), (l.D[((place l k).1).toNat]!.key 7)]) (bif (decide ((l.D[((place l k).1).toNat]!.ver) < ver)) then ver else (l.D[((place l k).1).toNat]!.ver))))) (by first | exact hl | exact KB_nil | exact KB_ins hl hk | exact KB_one hk | exact KB_setk hl (K8 (KB.at hl (by omega)))) (by first | (show _ ≤ 1000000; simp; done) | (show l.D.length ≤ 1000000; exact (Nat.le_trans hl1 (by decide))) | (rw [List.length_set]; exact (Nat.le_trans hl1 (by decide))) | (rw [insertL_len (place_toNat (Nat.le_trans hl1 (by decide)))]; simp; omega))) ?_)
       refine rvP C (.pv (.lit (.int .i64 (pRight (Sl.mk false (l.D.set (((place l k).1).toNat) (Seen.mk (ofL [(l.D[((place l k).1).toNat]!.key 0), (l.D[((place l k).1).toNat]!.key 1), (l.D[((place l k).1).toNat]!.key 2), (l.D[((place l k).1).toNat]!.key 3), (l.D[((place l k).1).toNat]!.key 4), (l.D[((place l k).1).toNat]!.key 5), (l.D[((place l k).1).toNat]!.key 6), (l.D[((place l k).1).toNat]!.key 7)]) (bif (decide ((l.D[((place l k).1).toNat]!.ver) < ver)) then ver else (l.D[((place l k).1).toNat]!.ver))))))))) ?_
       refine rvc_nil ?_
       refine Awp.consP C ?_
       refine rvP C (.pv (.lit (.int .i64 (pRight (Sl.mk false (l.D.set (((place l k).1).toNat) (Seen.mk (ofL [(l.D[((place l k).1).toNat]!.key 0), (l.D[((place l k).1).toNat]!.key 1), (l.D[((place l k).1).toNat]!.key 2), (l.D[((place l k).1).toNat]!.key 3), (l.D[((place l k).1).toNat]!.key 4), (l.D[((place l k).1).toNat]!.key 5), (l.D[((place l k).1).toNat]!.key 6), (l.D[((place l k).1).toNat]!.key 7)]) (bif (decide ((l.D[((place l k).1).toNat]!.ver) < ver)) then ver else (l.D[((place l k).1).toNat]!.ver))))))))) ?_
       refine rvP C (.pv (.lit (.bool ((pRight (Sl.mk false (l.D.set (((place l k).1).toNat) (Seen.mk (ofL [(l.D[((place l k).1).toNat]!.key 0), (l.D[((place l k).1).toNat]!.key 1), (l.D[((place l k).1).toNat]!.key 2), (l.D[((place l k).1).toNat]!.key 3), (l.D[((place l k).1).toNat]!.key 4), (l.D[((place l k).1).toNat]!.key 5), (l.D[((place l k).1).toNat]!.key 6), (l.D[((place l k).1).toNat]!.key 7)]) (bif (decide ((l.D[((place l k).1).toNat]!.ver) < ver)) then ver else (l.D[((place l k).1).toNat]!.ver)))))) != 0)))) ?_
       refine rvc_nil ?_
       refine Awp.cond (b := ((pRight (Sl.mk false (l.D.set (((place l k).1).toNat) (Seen.mk (ofL [(l.D[((place l k).1).toNat]!.key 0), (l.D[((place l k).1).toNat]!.key 1), (l.D[((place l k).1).toNat]!.key 2), (l.D[((place l k).1).toNat]!.key 3), (l.D[((place l k).1).toNat]!.key 4), (l.D[((place l k).1).toNat]!.key 5), (l.D[((place l k).1).toNat]!.key 6), (l.D[((place l k).1).toNat]!.key 7)]) (bif (decide ((l.D[((place l k).1).toNat]!.ver) < ver)) then ver else (l.D[((place l k).1).toNat]!.ver)))))) != 0)) rfl (fun h11 => ?_) (fun h11 => ?_)
       ·
        replace hR := of_true h11 hR
        refine Awp.consP C ?_
        refine rvP C (.pv (.lit (.int .i64 (pRight (Sl.mk false (l.D.set (((place l k).1).toNat) (Seen.mk (ofL [(l.D[((place l k).1).toNat]!.key 0), (l.D[((place l k).1).toNat]!.key 1), (l.D[((place l k).1).toNat]!.key 2), (l.D[((place l k).1).toNat]!.key 3), (l.D[((place l k).1).toNat]!.key 4), (l.D[((place l k).1).toNat]!.key 5), (l.D[((place l k).1).toNat]!.key 6), (l.D[((place l k).1).toNat]!.key 7)]) (bif (decide ((l.D[((place l k).1).toNat]!.ver) < ver)) then ver else (l.D[((place l k).1).toNat]!.ver))))))))) ?_
        refine rvP C (sS (some true) eSeen []) ?_
        refine rvP C (.pv (.lit (.int .i64 (pRight (Sl.mk false (l.D.set (((place l k).1).toNat) (Seen.mk (ofL [(l.D[((place l k).1).toNat]!.key 0), (l.D[((place l k).1).toNat]!.key 1), (l.D[((place l k).1).toNat]!.key 2), (l.D[((place l k).1).toNat]!.key 3), (l.D[((place l k).1).toNat]!.key 4), (l.D[((place l k).1).toNat]!.key 5), (l.D[((place l k).1).toNat]!.key 6), (l.D[((place l k).1).toNat]!.key 7)]) (bif (decide ((l.D[((place l k).1).toNat]!.ver) < ver)) then ver else (l.D[((place l k).1).toNat]!.ver))))))))) ?_
        refine rvc_nil ?_
        refine Awp.ret ?_
        subst hR
        exact ⟨.inl rfl, rfl⟩
       ·
        replace hR := of_false h11 hR
        refine Awp.skip ?_
        refine Awp.consP C ?_
        refine rvP C (sS (some false) eSeen (l.D.set (((place l k).1).toNat) (Seen.mk (ofL [(l.D[((place l k).1).toNat]!.key 0), (l.D[((place l k).1).toNat]!.key 1), (l.D[((place l k).1).toNat]!.key 2), (l.D[((place l k).1).toNat]!.key 3), (l.D[((place l k).1).toNat]!.key 4), (l.D[((place l k).1).toNat]!.key 5), (l.D[((place l k).1).toNat]!.key 6), (l.D[((place l k).1).toNat]!.key 7)]) (bif (decide ((l.D[((place l k).1).toNat]!.ver) < ver)) then ver else (l.D[((place l k).1).toNat]!.ver))))) ?_
        refine rvP C (sS (some false) eSeen (l.D.set (((place l k).1).toNat) (Seen.mk (ofL [(l.D[((place l k).1).toNat]!.key 0), (l.D[((place l k).1).toNat]!.key 1), (l.D[((place l k).1).toNat]!.key 2), (l.D[((place l k).1).toNat]!.key 3), (l.D[((place l k).1).toNat]!.key 4), (l.D[((place l k).1).toNat]!.key 5), (l.D[((place l k).1).toNat]!.key 6), (l.D[((place l k).1).toNat]!.key 7)]) (bif (decide ((l.D[((place l k).1).toNat]!.ver) < ver)) then ver else (l.D[((place l k).1).toNat]!.ver))))) ?_
        refine rvP C (.pv (.lit (.int .i64 0))) ?_
        refine rvc_nil ?_
        refine Awp.ret ?_
        subst hR
        exact ⟨.inl rfl, rfl⟩
      ·
       replace hR := of_false h9 hR
       refine Awp.consP C ?_
       refine rvP C (.pv (.lit (.int .i64 ver))) ?_
       refine rvP C (.pv (.lit (.bool (ver == 0)))) ?_
       refine rvP C (.pv (.lit (.bool (ver == 0)))) ?_
       refine rvc_nil ?_
       refine Awp.cond (b := (ver == 0)) rfl (fun h12 => ?_) (fun h12 => ?_)
       ·
        replace hR := of_true h12 hR
        refine Awp.skip ?_
        refine Awp.seq ?_
        refine Awp.freezeW 30 (encL eSeen l.D) ?_ [(6, sS (some true) eSeen []), (7, .pv (.lit (.int .i64 0))), (9, sS (some false) eSeen l.D)] [(4, .cells [.pv (.lit (.int .u8 (k 0))), .pv (.lit (.int .u8 (k 1))), .pv (.lit (.int .u8 (k 2))), .pv (.lit (.int .u8 (k 3))), .pv (.lit (.int .u8 (k 4))), .pv (.lit (.int .u8 (k 5))), .pv (.lit (.int .u8 (k 6))), .pv (.lit (.int .u8 (k 7)))])] ?_ ?_ ?_
        · rfl
        · exact ⟨⟨_, rfl, .inl (.inl rfl)⟩, ⟨_, rfl, .inl (.inl rfl)⟩, ⟨_, rfl, .inl (.inr ⟨_, _, _, rfl, rfl⟩)⟩, trivial⟩
        · exact ⟨⟨(by show (4 : Nat) ≠ 30; decide), .inl rfl⟩, trivial⟩
        refine Awp.consP C ?_
        refine rvP C (sS (some false) eSeen l.D) ?_
        refine rvc_un (rexec_call hP C rfl rfl rfl (pRight_calls (Sl.mk false l.D) (by first | exact hl | exact KB_nil | exact KB_ins hl hk | exact KB_one hk | exact KB_setk hl (K8 (KB.at hl (by omega)))) (by first | (show _ ≤ 1000000; simp; done) | (show l.D.length ≤ 1000000; exact (Nat.le_trans hl1 (by decide))) | (rw [List.length_set]; exact (Nat.le_trans hl1 (by decide))) | (rw [insertL_len (place_toNat (Nat.le_trans hl1 (by decide)))]; simp; omega))) ?_)
        refine rvP C (.pv (.lit (.int .i64 (pRight (Sl.mk false l.D))))) ?_
        refine rvc_nil ?_
        refine Awp.consP C ?_
        refine rvP C (.pv (.lit (.int .i64 (pRight (Sl.mk false l.D))))) ?_
        refine rvP C (.pv (.lit (.bool ((pRight (Sl.mk false l.D)) != 0)))) ?_
        refine rvc_nil ?_
        refine Awp.cond (b := ((pRight (Sl.mk false l.D)) != 0)) rfl (fun h13 => ?_) (fun h13 => ?_)
        ·
         replace hR := of_true h13 hR
         refine Awp.consP C ?_
         refine rvP C (.pv (.lit (.int .i64 (pRight (Sl.mk false l.D))))) ?_
         refine rvP C (sS (some true) eSeen []) ?_
         refine rvP C (.pv (.lit (.int .i64 (pRight (Sl.mk false l.D))))) ?_
         refine rvc_nil ?_
         refine Awp.ret ?_
         subst hR
         exact ⟨.inl rfl, rfl⟩
        ·
         replace hR := of_false h13 hR
         refine Awp.skip ?_
         refine Awp.consP C ?_
         refine rvP C (sS (some false) eSeen l.D) ?_
         refine rvP C (sS (some false) eSeen l.D) ?_
         refine rvP C (.pv (.lit (.int .i64 0))) ?_
         refine rvc_nil ?_
         refine Awp.ret ?_
         subst hR
         exact ⟨.inl rfl, rfl⟩
       ·
        replace hR := of_false h12 hR
        refine Awp.region C (fun _ => .writer) (by kernel_rfl) ?_
        refine rvP C (.sl 30 0 l.D.length 9 false) ?_
        refine rvP C (.pv (.lit (.int .i64 ((place l k).1)))) ?_
        refine rvP C (.agg [.pv (.lit (.int .u8 (k 0))), .pv (.lit (.int .u8 (k 1))), .pv (.lit (.int .u8 (k 2))), .pv (.lit (.int .u8 (k 3))), .pv (.lit (.int .u8 (k 4))), .pv (.lit (.int .u8 (k 5))), .pv (.lit (.int .u8 (k 6))), .pv (.lit (.int .u8 (k 7)))]) ?_
        refine rvP C (.pv (.lit (.int .i64 ver))) ?_
        refine rvP C (.agg [.pv (.lit (.int .u8 (k 0))), .pv (.lit (.int .u8 (k 1))), .pv (.lit (.int .u8 (k 2))), .pv (.lit (.int .u8 (k 3))), .pv (.lit (.int .u8 (k 4))), .pv (.lit (.int .u8 (k 5))), .pv (.lit (.int .u8 (k 6))), .pv (.lit (.int .u8 (k 7))), .pv (.lit (.int .i64 ver))]) ?_
        refine rvc_un (rexec_buildSliceF C eSeen [(Seen.mk k ver)] rfl rfl rfl rfl rfl rfl rfl (by decide) rfl ?_)
        refine rvc_un (rexec_callT hP C (b := 30) rfl rfl rfl rfl (insertSI_calls l.D ((place l k).1) (Sl.mk false [(Seen.mk k ver)]) (place_le l k (Nat.le_trans hl1 (by decide))) (by simp) (Nat.le_trans hl1 (by decide)) (by simp)) rfl rfl ?_)
        refine rvP C (.sl 43 0 ((insertL l.D (((place l k).1).toNat) [(Seen.mk k ver)]).length) 9 false) ?_
        refine rvc_nil ?_
        refine Awp.seq ?_
        refine Awp.freezeW 43 (encL eSeen (insertL l.D (((place l k).1).toNat) [(Seen.mk k ver)])) ?_ [(6, sS (some true) eSeen []), (7, .pv (.lit (.int .i64 0))), (9, sS (some false) eSeen (insertL l.D (((place l k).1).toNat) [(Seen.mk k ver)]))] [(4, .cells [.pv (.lit (.int .u8 (k 0))), .pv (.lit (.int .u8 (k 1))), .pv (.lit (.int .u8 (k 2))), .pv (.lit (.int .u8 (k 3))), .pv (.lit (.int .u8 (k 4))), .pv (.lit (.int .u8 (k 5))), .pv (.lit (.int .u8 (k 6))), .pv (.lit (.int .u8 (k 7)))])] ?_ ?_ ?_
        · rfl
        · exact ⟨⟨_, rfl, .inl (.inl rfl)⟩, ⟨_, rfl, .inl (.inl rfl)⟩, ⟨_, rfl, .inl (.inr ⟨_, _, _, rfl, rfl⟩)⟩, trivial⟩
        · exact ⟨⟨(by show (4 : Nat) ≠ 43; decide), .inl rfl⟩, trivial⟩
        refine Awp.consP C ?_
        refine rvP C (sS (some false) eSeen (insertL l.D (((place l k).1).toNat) [(Seen.mk k ver)])) ?_
        refine rvc_un (rexec_call hP C rfl rfl rfl (pRight_calls (Sl.mk false (insertL l.D (((place l k).1).toNat) [(Seen.mk k ver)])) (by first | exact hl | exact KB_nil | exact KB_ins hl hk | exact KB_one hk | exact KB_setk hl (K8 (KB.at hl (by omega)))) (by first | (show _ ≤ 1000000; simp; done) | (show l.D.length ≤ 1000000; exact (Nat.le_trans hl1 (by decide))) | (rw [List.length_set]; exact (Nat.le_trans hl1 (by decide))) | (rw [insertL_len (place_toNat (Nat.le_trans hl1 (by decide)))]; simp; omega))) ?_)
        refine rvP C (.pv (.lit (.int .i64 (pRight (Sl.mk false (insertL l.D (((place l k).1).toNat) [(Seen.mk k ver)])))))) ?_
        refine rvc_nil ?_
        refine Awp.consP C ?_
        refine rvP C (.pv (.lit (.int .i64 (pRight (Sl.mk false (insertL l.D (((place l k).1).toNat) [(Seen.mk k ver)])))))) ?_
        refine rvP C (.pv (.lit (.bool ((pRight (Sl.mk false (insertL l.D (((place l k).1).toNat) [(Seen.mk k ver)]))) != 0)))) ?_
        refine rvc_nil ?_
        refine Awp.cond (b := ((pRight (Sl.mk false (insertL l.D (((place l k).1).toNat) [(Seen.mk k ver)]))) != 0)) rfl (fun h14 => ?_) (fun h14 => ?_)
        ·
         replace hR := of_true h14 hR
         refine Awp.consP C ?_
         refine rvP C (.pv (.lit (.int .i64 (pRight (Sl.mk false (insertL l.D (((place l k).1).toNat) [(Seen.mk k ver)])))))) ?_
         refine rvP C (sS (some true) eSeen []) ?_
         refine rvP C (.pv (.lit (.int .i64 (pRight (Sl.mk false (insertL l.D (((place l k).1).toNat) [(Seen.mk k ver)])))))) ?_
         refine rvc_nil ?_
         refine Awp.ret ?_
         subst hR
         exact ⟨.inl rfl, rfl⟩
        ·
         replace hR := of_false h14 hR
         refine Awp.skip ?_
         refine Awp.consP C ?_
         refine rvP C (sS (some false) eSeen (insertL l.D (((place l k).1).toNat) [(Seen.mk k ver)])) ?_
         refine rvP C (sS (some false) eSeen (insertL l.D (((place l k).1).toNat) [(Seen.mk k ver)])) ?_
         refine rvP C (.pv (.lit (.int .i64 0))) ?_
         refine rvc_nil ?_
         refine Awp.ret ?_
         subst hR
         exact ⟨.inl rfl, rfl⟩
end Go.Proofs.YthnghkkbnhjlgaaDoor
