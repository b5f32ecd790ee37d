import Derived.Test.YtihccnkegkkikaaM4
import Derived.Test.YtihccnkegkkikaaM3
import Derived.Test.YtihccnkegkkikaaM2
/- The reference: whom one asks, for a write. No conditions. -/
namespace Go.Proofs.Ytihccnkegkkikaa
open Go.Am
def rTriesW_l2 (many : Int) (kk : (List Int) → ((Sl Int) × Int)) : List Int → Nat → (List Int) → (Sl Int) × Int
  | [], _, out1 => kk out1
  | x1 :: x1s, i1, out1 => (bif (decide ((out1.length : Int) < many)) then rTriesW_l2 many kk x1s (i1 + 1) (out1 ++ [x1]) else rTriesW_l2 many kk x1s (i1 + 1) out1)
def rTriesW_l1 (many : Int) (l : (List Int)) : Nat → (List Int) → (Sl Int) × Int
  | 0, _ => default
  | nn + 1, out => (bif (decide ((out.length : Int) < many)) then rTriesW_l2 many (fun out2 => rTriesW_l1 many l nn out2) l 0 out else ((Sl.mk out.isEmpty out), 0))
def rTriesW_l0 (many : Int) : List Member → Nat → (List Int) → (Sl Int) × Int
  | [], _, l => rTriesW_l1 many l ((many.toNat - ([] : List Int).length) + 1) []
  | x :: xs, i, l => (bif (!x.fresh) then rTriesW_l0 many xs (i + 1) (l ++ [x.node]) else rTriesW_l0 many xs (i + 1) l)
def rTriesW (c : Chain) (w : (Nat → (Nat → Int))) (from_ : Int) (_write : Bool) (many : Int) : (Sl Int) × Int :=
  (bif ((rNear c w from_).2 != 0) then ((Sl.mk true []), (rNear c w from_).2) else (bif (decide (many < 0)) then ((Sl.mk true []), 1) else (bif (decide (many > 24)) then ((Sl.mk true []), 1) else rTriesW_l0 many c.members.D 0 [])))
theorem rTriesW_calls (c : Chain) (w : (Nat → (Nat → Int))) (from_ : Int) (write : Bool) (many : Int) (hwr : write = true) (hl1 : c.members.D.length ≤ 1000000) : PCalls Try.prog 36 [.agg [.pv (.lit (.int .i64 c.epoch)), sS (some c.members.nil) eMember c.members.D], .agg [.pv (.lit (.int .i64 ((w 0) 0))), .pv (.lit (.int .i64 ((w 0) 1))), .pv (.lit (.int .i64 ((w 0) 2))), .pv (.lit (.int .i64 ((w 1) 0))), .pv (.lit (.int .i64 ((w 1) 1))), .pv (.lit (.int .i64 ((w 1) 2))), .pv (.lit (.int .i64 ((w 2) 0))), .pv (.lit (.int .i64 ((w 2) 1))), .pv (.lit (.int .i64 ((w 2) 2)))], .pv (.lit (.int .i64 from_)), .pv (.lit (.bool write)), .pv (.lit (.int .i64 many))] (.tup [sS (some (rTriesW c w from_ write many).1.nil) (eI .i64) ((rTriesW c w from_ write many).1.D), .pv (.lit (.int .i64 ((rTriesW c w from_ write many).2)))]) := by
 generalize hR : rTriesW c w from_ write many = R
 refine PCalls.of_body tabOk Try.func36 rfl rfl rfl rfl rfl mixed fun E hP C hI => ?_
 refine Awp.consP C ?_
 refine rvc_un (rexec_prim C (δ := { v := .ptr 5 0, new := [(5, .cells [.pv (.lit (.int .i64 c.epoch)), sS (some c.members.nil) eMember c.members.D])] }) rfl rfl rfl rfl trivial rfl ?_)
 refine rvc_un (rexec_prim C (δ := { v := .ptr 6 0, new := [(6, .cells [.pv (.lit (.int .i64 ((w 0) 0))), .pv (.lit (.int .i64 ((w 0) 1))), .pv (.lit (.int .i64 ((w 0) 2))), .pv (.lit (.int .i64 ((w 1) 0))), .pv (.lit (.int .i64 ((w 1) 1))), .pv (.lit (.int .i64 ((w 1) 2))), .pv (.lit (.int .i64 ((w 2) 0))), .pv (.lit (.int .i64 ((w 2) 1))), .pv (.lit (.int .i64 ((w 2) 2)))])] }) rfl rfl rfl rfl trivial rfl ?_)
 refine rvP C (sS (some true) (eI .i64) []) ?_
 refine rvP C (.pv (.lit (.int .i64 0))) ?_
 refine rvc_nil ?_
 refine Awp.consP C ?_
 refine rvP C (.agg [.pv (.lit (.int .i64 c.epoch)), sS (some c.members.nil) eMember c.members.D]) ?_
 refine rvP C (.agg [.pv (.lit (.int .i64 ((w 0) 0))), .pv (.lit (.int .i64 ((w 0) 1))), .pv (.lit (.int .i64 ((w 0) 2))), .pv (.lit (.int .i64 ((w 1) 0))), .pv (.lit (.int .i64 ((w 1) 1))), .pv (.lit (.int .i64 ((w 1) 2))), .pv (.lit (.int .i64 ((w 2) 0))), .pv (.lit (.int .i64 ((w 2) 1))), .pv (.lit (.int .i64 ((w 2) 2)))]) ?_
 refine rvP C (.pv (.lit (.int .i64 from_))) ?_
 obtain ⟨nr, hq_nr⟩ : ∃ q_, q_ = (rNear c w from_) := ⟨_, rfl⟩
 have hc_nr := (rNear_calls c w from_ hl1)
 first | rw [← hq_nr] at hR hc_nr | (unfold rTriesW at hR; rw [← hq_nr] at hR hc_nr)
 have hf0_nr := rNear_len c w from_
 rw [← hq_nr] at hf0_nr
 refine rvc_un (rexec_call hP C rfl rfl rfl hc_nr ?_)
 refine rvP C (.tup [sS (some nr.1.nil) (eI .i64) nr.1.D, .pv (.lit (.int .i64 nr.2))]) ?_
 refine rvP C (sS (some nr.1.nil) (eI .i64) nr.1.D) ?_
 refine rvP C (.pv (.lit (.int .i64 nr.2))) ?_
 refine rvP C (sS (some nr.1.nil) (eI .i64) nr.1.D) ?_
 refine rvP C (.pv (.lit (.int .i64 nr.2))) ?_
 refine rvc_nil ?_
 refine Awp.seq ?_
 refine Awp.consP C ?_
 refine rvP C (.pv (.lit (.int .i64 nr.2))) ?_
 refine rvP C (.pv (.lit (.bool (nr.2 != 0)))) ?_
 refine rvc_nil ?_
 refine Awp.cond (b := (nr.2 != 0)) rfl (fun h1 => ?_) (fun h1 => ?_)
 ·
  replace hR := of_true h1 hR
  refine Awp.consP C ?_
  refine rvP C (.pv (.lit (.int .i64 nr.2))) ?_
  refine rvP C (sS (some true) (eI .i64) []) ?_
  refine rvP C (.pv (.lit (.int .i64 nr.2))) ?_
  refine rvc_nil ?_
  refine Awp.ret ?_
  subst hR
  exact ⟨.inl rfl, rfl⟩
 ·
  replace hR := of_false h1 hR
  refine Awp.skip ?_
  refine Awp.seq ?_
  refine Awp.consP C ?_
  refine rvP C (.pv (.lit (.int .i64 many))) ?_
  refine rvP C (.pv (.lit (.bool (decide (many < 0))))) ?_
  refine rvP C (.pv (.lit (.bool (decide (many < 0))))) ?_
  refine rvc_case 31 (decide (many < 0)) rfl (fun h2 => ?_) (fun h2 => ?_)
  ·
   replace hR := of_true h2 hR
   refine rvS ?_
   refine rvS ?_
   refine rvP C (.pv (.lit (.bool true))) ?_
   refine rvc_nil ?_
   refine Awp.condT (b := true) rfl rfl ?_
   refine Awp.consP C ?_
   refine rvP C (sS (some true) (eI .i64) []) ?_
   refine rvP C (.pv (.lit (.int .i64 1))) ?_
   refine rvc_nil ?_
   refine Awp.ret ?_
   subst hR
   exact ⟨.inl rfl, rfl⟩
  ·
   replace hR := of_false h2 hR
   refine rvO C (.pv (.lit (.int .i64 many))) ?_
   refine rvO C (.pv (.lit (.bool (decide (many > 24))))) ?_
   refine rvP C (.pv (.lit (.bool (decide (many > 24))))) ?_
   refine rvc_nil ?_
   refine Awp.cond (b := (decide (many > 24))) rfl (fun h3 => ?_) (fun h3 => ?_)
   ·
    replace hR := of_true h3 hR
    refine Awp.consP C ?_
    refine rvP C (sS (some true) (eI .i64) []) ?_
    refine rvP C (.pv (.lit (.int .i64 1))) ?_
    refine rvc_nil ?_
    refine Awp.ret ?_
    subst hR
    exact ⟨.inl rfl, rfl⟩
   ·
    replace hR := of_false h3 hR
    refine Awp.skip ?_
    refine Awp.seq ?_
    refine Awp.consP C ?_
    refine rvP C (.pv (.lit (.bool write))) ?_
    refine rvc_nil ?_
    refine Awp.condT (b := write) rfl hwr ?_
    refine Awp.consP C ?_
    refine rvP C (sS (some true) (eI .i64) []) ?_
    refine rvc_nil ?_
    refine Awp.consP C ?_
    refine rvP C (.ptr 5 1) ?_
    refine rvP C (sS (some c.members.nil) eMember c.members.D) ?_
    refine rvP C (.pv (.lit (.int .i64 (c.members.D.length : Int)))) ?_
    refine rvP C (.pv (.lit (.int .i64 0))) ?_
    refine rvc_nil ?_
    refine Awp.block ?_
    refine Awp.forR (σ := ((List Int))) (c.members.D.length) (fun i v => [(4, .pv (.lit (.int .i64 many))), (12, grow 900 (eI .i64) v), (37, sS (some c.members.nil) eMember c.members.D), (38, .pv (.lit (.int .i64 (c.members.D.length : Int)))), (39, .pv (.lit (.int .i64 (i : Int))))]) (fun i v => (growH 900 (eI .i64) v ++ ([]))) [900] (fun i v => (rTriesW_l0 many (c.members.D.drop i) i v = R) ∧ (v = fullTo c i) ∧ (v.length ≤ i)) [] ?_ ?_ (fun i l h4 hR => ?_)
    · exact ⟨hR, rfl, (by first | omega | (simp <;> omega))⟩
    · exact ⟨fun b => b, WeakerR.ofL (Ks := [900]) hI ⟨⟨rfl, rfl⟩, ⟨rfl, rfl⟩, ⟨rfl, rfl⟩, ⟨rfl, rfl⟩, ⟨rfl, rfl⟩, trivial⟩ (okH_grow (fun hne => absurd rfl hne) rfl rfl (okH_nil)) rfl⟩
    obtain ⟨hR, hV, hi_l⟩ := hR
    replace hi_l : l.length ≤ i := hi_l
    by_cases h5 : l = []
    ·
     refine Awp.wordsR [(4, .pv (.lit (.int .i64 many))), (12, sS (some l.isEmpty) (eI .i64) l), (37, sS (some c.members.nil) eMember c.members.D), (38, .pv (.lit (.int .i64 (c.members.D.length : Int)))), (39, .pv (.lit (.int .i64 (i : Int))))] [] [] (WeakerR.ofL (Ks := []) hI ⟨⟨rfl, rfl⟩, ⟨(by exact grow_at_nil (b := 900) (e := (eI .i64)) (l := l) rfl h5), rfl⟩, ⟨rfl, rfl⟩, ⟨rfl, rfl⟩, ⟨rfl, rfl⟩, trivial⟩ (okH_nil) rfl) ?_
     refine Awp.consP C ?_
     refine rvP C (.pv (.lit (.bool (decide ((i : Int) < (c.members.D.length : Int)))))) ?_
     refine rvc_nil ?_
     refine Awp.seq ?_
     refine Awp.cond (b := (decide ((i : Int) < (c.members.D.length : Int)))) rfl (fun h6 => ?_) (fun h6 => ?_)
     ·
      have h7 : i < c.members.D.length := by have := of_decide_eq_true h6; omega
      obtain ⟨x, h8⟩ := getX h7
      rw [drop_at h8] at hR
      refine Awp.skip ?_
      refine Awp.seq ?_
      refine Awp.block ?_
      refine Awp.consP C ?_
      refine rvc_un (rexec_idxS C rfl rfl rfl rfl rfl rfl x (Int.natCast_nonneg _) h8 ?_)
      refine rvP C (.agg [.pv (.lit (.int .i64 x.node)), .pv (.lit (.int .i64 x.site)), .pv (.lit (.bool x.fresh))]) ?_
      refine rvc_un (rexec_prim C (δ := { v := .ptr 15 0, new := [(15, .cells [.pv (.lit (.int .i64 0)), .pv (.lit (.int .i64 0)), .pv (.lit (.bool false))])] }) rfl rfl rfl rfl trivial rfl ?_)
      refine rvc_un (rexec_prim C (δ := { v := .undef, wr := [(15, some (.cells [.pv (.lit (.int .i64 x.node)), .pv (.lit (.int .i64 x.site)), .pv (.lit (.bool x.fresh))]))] }) rfl rfl rfl rfl trivial rfl ?_)
      refine rvc_nil ?_
      refine Awp.consP C ?_
      refine rvP C (.ptr 15 2) ?_
      refine rvP C (.pv (.lit (.bool x.fresh))) ?_
      refine rvP C (.pv (.lit (.bool (!x.fresh)))) ?_
      refine rvc_nil ?_
      refine Awp.cond (b := (!x.fresh)) rfl (fun h9 => ?_) (fun h9 => ?_)
      ·
       replace hR := of_true h9 hR
       refine Awp.regionP C ?_
       refine rvP C (sS (some l.isEmpty) (eI .i64) l) ?_
       refine rvP C (.ptr 15 0) ?_
       refine rvP C (.pv (.lit (.int .i64 x.node))) ?_
       refine rvc_un (rexec_buildSliceF C (eI .i64) [x.node] rfl rfl rfl rfl rfl rfl rfl (by decide) rfl ?_)
       refine rvc_un (rexec_appendG C rfl rfl rfl rfl rfl rfl rfl rfl (fun _ h => by cases h) rfl (en := (eI .i64)) (l := l) (D := [x.node]) rfl rfl h5 (by rw [h5]; rfl) (by simp) (by have := eq_of_bne_false h1; have := of_decide_eq_false h2; have := of_decide_eq_false h3; have := of_decide_eq_true h6; first | omega | (simp <;> omega)) (by decide) (nn := (l ++ [x.node]).length) (by simp) ?_)
       refine rvP C (.sl 50 0 ((l ++ [x.node]).length) 1 false) ?_
       refine rvc_nil ?_
       refine Awp.regionP C ?_
       refine rvP C (.pv (.lit (.int .i64 (IntKind.i64.wrap ((i : Int) + 1))))) ?_
       refine rvP C (.pv (.lit (.int .i64 (IntKind.i64.wrap ((i : Int) + 1))))) ?_
       refine rvc_nil ?_
       refine ⟨h7, (l ++ [x.node]), ?_, ?_⟩
       · exact ⟨hR, (by first | (rw [hV]; exact (fullTo_add ‹c.members.D[_]? = some _› (by simpa using ‹(!(_ : Bool)) = true›)).symm) | (rw [hV]; exact (fullTo_skip ‹c.members.D[_]? = some _› (by simpa using ‹(!(_ : Bool)) = false›)).symm)), (by first | omega | (simp <;> omega))⟩
       · exact ⟨fun b => bif b == 900 then 50 else (fun b => b) b, WeakerR.ofL (Ks := [900]) hI ⟨⟨rfl, rfl⟩, ⟨grow_to rfl rfl app_ne rfl rfl, grow_within rfl⟩, ⟨rfl, rfl⟩, ⟨rfl, rfl⟩, ⟨lit_cast (wrap_i64 (by omega) (by omega)), rfl⟩, trivial⟩ (okH_grow (fun _ => rfl) rfl rfl (okH_nil)) rfl⟩
      ·
       replace hR := of_false h9 hR
       refine Awp.skip ?_
       refine Awp.regionP C ?_
       refine rvP C (.pv (.lit (.int .i64 (IntKind.i64.wrap ((i : Int) + 1))))) ?_
       refine rvP C (.pv (.lit (.int .i64 (IntKind.i64.wrap ((i : Int) + 1))))) ?_
       refine rvc_nil ?_
       refine ⟨h7, l, ?_, ?_⟩
       · exact ⟨hR, (by first | (rw [hV]; exact (fullTo_add ‹c.members.D[_]? = some _› (by simpa using ‹(!(_ : Bool)) = true›)).symm) | (rw [hV]; exact (fullTo_skip ‹c.members.D[_]? = some _› (by simpa using ‹(!(_ : Bool)) = false›)).symm)), (by first | omega | (simp <;> omega))⟩
       · exact ⟨fun b => b, WeakerR.ofL (Ks := [900]) hI ⟨⟨rfl, rfl⟩, ⟨grow_to_nil rfl h5 (.inr rfl), grow_within rfl⟩, ⟨rfl, rfl⟩, ⟨rfl, rfl⟩, ⟨lit_cast (wrap_i64 (by omega) (by omega)), rfl⟩, trivial⟩ (okH_grow (fun hne => absurd h5 hne) rfl rfl (okH_nil)) rfl⟩
     ·
      have h7 : ¬ i < c.members.D.length := by have := of_decide_eq_false h6; omega
      rw [drop_end h7] at hR
      refine Awp.exit ?_
      refine Awp.consP C ?_
      refine rvP C (sS (some true) (eI .i64) []) ?_
      refine rvc_nil ?_
      refine Awp.seq ?_
      refine Awp.block ?_
      refine Awp.forM (σ := ((List Int))) (fun v => [(4, .pv (.lit (.int .i64 many))), (12, sS (some l.isEmpty) (eI .i64) l), (16, grow 901 (eI .i64) v)]) (fun v => (growH 901 (eI .i64) v ++ ([]))) [901] (fun n v => (many.toNat - (v : List Int).length) ≤ n ∧ rTriesW_l1 many l (n + 1) v = R) ((many.toNat - ([] : List Int).length)) [] ?_ ?_ (fun n_ out h10 => ?_)
      · exact ⟨Nat.le_refl _, hR⟩
      · exact ⟨fun b => b, WeakerR.ofL (Ks := [901]) hI ⟨⟨rfl, rfl⟩, ⟨rfl, rfl⟩, ⟨rfl, rfl⟩, trivial⟩ (okH_grow (fun hne => absurd rfl hne) rfl rfl (okH_nil)) rfl⟩
      obtain ⟨hm_, hR⟩ := h10
      replace hm_ : (many.toNat - (out : List Int).length) ≤ n_ := hm_
      have hp_ : 0 < l.length ∧ l.length ≤ 6 := by rw [hV, fullTo_all (by omega)]; exact full_len (able_ok (near_ok (by rw [near_eq, ← hq_nr]; exact eq_of_bne_false ‹(nr.2 != 0) = false›))).1
      have hm1_ := of_decide_eq_false ‹decide (many > 24) = false›
      by_cases h12 : out = []
      ·
       refine Awp.wordsR [(4, .pv (.lit (.int .i64 many))), (12, sS (some l.isEmpty) (eI .i64) l), (16, sS (some out.isEmpty) (eI .i64) out)] [] [] (WeakerR.ofL (Ks := []) hI ⟨⟨rfl, rfl⟩, ⟨rfl, rfl⟩, ⟨(by exact grow_at_nil (b := 901) (e := (eI .i64)) (l := out) rfl h12), rfl⟩, trivial⟩ (okH_nil) rfl) ?_
       refine Awp.seq ?_
       refine Awp.consP C ?_
       refine rvP C (sS (some out.isEmpty) (eI .i64) out) ?_
       refine rvP C (.pv (.lit (.int .i64 (out.length : Int)))) ?_
       refine rvP C (.pv (.lit (.int .i64 many))) ?_
       refine rvP C (.pv (.lit (.bool (decide ((out.length : Int) < many))))) ?_
       refine rvc_nil ?_
       refine Awp.cond (b := (decide ((out.length : Int) < many))) rfl (fun h13 => ?_) (fun h13 => ?_)
       ·
        replace hR := of_true h13 hR
        refine Awp.skip ?_
        refine Awp.block ?_
        refine Awp.consP C ?_
        refine rvP C (sS (some l.isEmpty) (eI .i64) l) ?_
        refine rvP C (.pv (.lit (.int .i64 (l.length : Int)))) ?_
        refine rvP C (.pv (.lit (.int .i64 0))) ?_
        refine rvc_nil ?_
        refine Awp.block ?_
        refine Awp.forR (σ := ((List Int))) (l.length) (fun i1 v => [(4, .pv (.lit (.int .i64 many))), (12, sS (some l.isEmpty) (eI .i64) l), (16, grow 902 (eI .i64) v), (56, sS (some l.isEmpty) (eI .i64) l), (57, .pv (.lit (.int .i64 (l.length : Int)))), (58, .pv (.lit (.int .i64 (i1 : Int))))]) (fun i1 v => (growH 902 (eI .i64) v ++ ([]))) [902] (fun i1 v => (rTriesW_l2 many (fun out1 => rTriesW_l1 many l n_ out1) (l.drop i1) i1 v = R) ∧ (v.length = min many.toNat ((out : List Int).length + i1)) ∧ (v.length ≤ out.length + i1)) out ?_ ?_ (fun i1 out1 h14 hR => ?_)
        · exact ⟨hR, (by have h_ := of_decide_eq_true ‹decide (_ < many) = true›; omega), (by first | omega | (simp <;> omega))⟩
        · exact ⟨fun b => b, WeakerR.ofL (Ks := [902]) hI ⟨⟨rfl, rfl⟩, ⟨rfl, rfl⟩, ⟨grow_to_nil rfl h12 (.inr rfl), grow_within rfl⟩, ⟨rfl, rfl⟩, ⟨rfl, rfl⟩, ⟨rfl, rfl⟩, trivial⟩ (okH_grow (fun hne => absurd h12 hne) rfl rfl (okH_nil)) rfl⟩
        obtain ⟨hR, hV, hi_out1⟩ := hR
        replace hi_out1 : out1.length ≤ out.length + i1 := hi_out1
        by_cases h15 : out1 = []
        ·
         refine Awp.wordsR [(4, .pv (.lit (.int .i64 many))), (12, sS (some l.isEmpty) (eI .i64) l), (16, sS (some out1.isEmpty) (eI .i64) out1), (56, sS (some l.isEmpty) (eI .i64) l), (57, .pv (.lit (.int .i64 (l.length : Int)))), (58, .pv (.lit (.int .i64 (i1 : Int))))] [] [] (WeakerR.ofL (Ks := []) hI ⟨⟨rfl, rfl⟩, ⟨rfl, rfl⟩, ⟨(by exact grow_at_nil (b := 902) (e := (eI .i64)) (l := out1) rfl h15), rfl⟩, ⟨rfl, rfl⟩, ⟨rfl, rfl⟩, ⟨rfl, rfl⟩, trivial⟩ (okH_nil) rfl) ?_
         refine Awp.consP C ?_
         refine rvP C (.pv (.lit (.bool (decide ((i1 : Int) < (l.length : Int)))))) ?_
         refine rvc_nil ?_
         refine Awp.seq ?_
         refine Awp.cond (b := (decide ((i1 : Int) < (l.length : Int)))) rfl (fun h16 => ?_) (fun h16 => ?_)
         ·
          have h17 : i1 < l.length := by have := of_decide_eq_true h16; omega
          obtain ⟨x1, h18⟩ := getX h17
          rw [drop_at h18] at hR
          refine Awp.skip ?_
          refine Awp.seq ?_
          refine Awp.block ?_
          refine Awp.consP C ?_
          refine rvc_un (rexec_idxS C rfl rfl rfl rfl rfl rfl x1 (Int.natCast_nonneg _) h18 ?_)
          refine rvP C (.pv (.lit (.int .i64 x1))) ?_
          refine rvP C (.pv (.lit (.int .i64 x1))) ?_
          refine rvc_nil ?_
          refine Awp.consP C ?_
          refine rvP C (sS (some out1.isEmpty) (eI .i64) out1) ?_
          refine rvP C (.pv (.lit (.int .i64 (out1.length : Int)))) ?_
          refine rvP C (.pv (.lit (.int .i64 many))) ?_
          refine rvP C (.pv (.lit (.bool (decide ((out1.length : Int) < many))))) ?_
          refine rvc_nil ?_
          refine Awp.cond (b := (decide ((out1.length : Int) < many))) rfl (fun h19 => ?_) (fun h19 => ?_)
          ·
           replace hR := of_true h19 hR
           refine Awp.regionP C ?_
           refine rvP C (sS (some out1.isEmpty) (eI .i64) out1) ?_
           refine rvP C (.pv (.lit (.int .i64 x1))) ?_
           refine rvc_un (rexec_buildSliceF C (eI .i64) [x1] rfl rfl rfl rfl rfl rfl rfl (by decide) rfl ?_)
           refine rvc_un (rexec_appendG C rfl rfl rfl rfl rfl rfl rfl rfl (fun _ h => by cases h) rfl (en := (eI .i64)) (l := out1) (D := [x1]) rfl rfl h15 (by rw [h15]; rfl) (by simp) (by have := eq_of_bne_false h1; have := of_decide_eq_false h2; have := of_decide_eq_false h3; have := of_decide_eq_false h6; have := of_decide_eq_true h13; have := of_decide_eq_true h16; have := of_decide_eq_true h19; first | omega | (simp <;> omega)) (by decide) (nn := (out1 ++ [x1]).length) (by simp) ?_)
           refine rvP C (.sl 69 0 ((out1 ++ [x1]).length) 1 false) ?_
           refine rvc_nil ?_
           refine Awp.regionP C ?_
           refine rvP C (.pv (.lit (.int .i64 (IntKind.i64.wrap ((i1 : Int) + 1))))) ?_
           refine rvP C (.pv (.lit (.int .i64 (IntKind.i64.wrap ((i1 : Int) + 1))))) ?_
           refine rvc_nil ?_
           refine ⟨h17, (out1 ++ [x1]), ?_, ?_⟩
           · exact ⟨hR, (by (try simp only [List.length_append, List.length_singleton]); first | (have h_ := of_decide_eq_true ‹decide (_ < many) = true›; omega) | (have h_ := of_decide_eq_false ‹decide (_ < many) = false›; omega)), (by first | omega | (simp <;> omega))⟩
           · exact ⟨fun b => bif b == 902 then 69 else (fun b => b) b, WeakerR.ofL (Ks := [902]) hI ⟨⟨rfl, rfl⟩, ⟨rfl, rfl⟩, ⟨grow_to rfl rfl app_ne rfl rfl, grow_within rfl⟩, ⟨rfl, rfl⟩, ⟨rfl, rfl⟩, ⟨lit_cast (wrap_i64 (by omega) (by omega)), rfl⟩, trivial⟩ (okH_grow (fun _ => rfl) rfl rfl (okH_nil)) rfl⟩
          ·
           replace hR := of_false h19 hR
           refine Awp.skip ?_
           refine Awp.regionP C ?_
           refine rvP C (.pv (.lit (.int .i64 (IntKind.i64.wrap ((i1 : Int) + 1))))) ?_
           refine rvP C (.pv (.lit (.int .i64 (IntKind.i64.wrap ((i1 : Int) + 1))))) ?_
           refine rvc_nil ?_
           refine ⟨h17, out1, ?_, ?_⟩
           · exact ⟨hR, (by (try simp only [List.length_append, List.length_singleton]); first | (have h_ := of_decide_eq_true ‹decide (_ < many) = true›; omega) | (have h_ := of_decide_eq_false ‹decide (_ < many) = false›; omega)), (by first | omega | (simp <;> omega))⟩
           · exact ⟨fun b => b, WeakerR.ofL (Ks := [902]) hI ⟨⟨rfl, rfl⟩, ⟨rfl, rfl⟩, ⟨grow_to_nil rfl h15 (.inr rfl), grow_within rfl⟩, ⟨rfl, rfl⟩, ⟨rfl, rfl⟩, ⟨lit_cast (wrap_i64 (by omega) (by omega)), rfl⟩, trivial⟩ (okH_grow (fun hne => absurd h15 hne) rfl rfl (okH_nil)) rfl⟩
         ·
          have h17 : ¬ i1 < l.length := by have := of_decide_eq_false h16; omega
          rw [drop_end h17] at hR
          refine Awp.exit ?_
          have h20 : (many.toNat - (out1 : List Int).length) < (many.toNat - (out : List Int).length) := by (have h_ := of_decide_eq_true ‹decide (_ < many) = true›; omega)
          obtain ⟨nn, rfl⟩ : ∃ nn, n_ = nn + 1 := ⟨n_ - 1, by omega⟩
          refine ⟨nn, out1, by omega, ⟨by show (many.toNat - (out1 : List Int).length) ≤ nn; omega, hR⟩, ?_⟩
          · exact ⟨fun b => b, WeakerR.ofL (Ks := [901]) hI ⟨⟨rfl, rfl⟩, ⟨rfl, rfl⟩, ⟨grow_to_nil rfl h15 (.inr rfl), grow_within rfl⟩, trivial⟩ (okH_grow (fun hne => absurd h15 hne) rfl rfl (okH_nil)) rfl⟩
        ·
         refine Awp.wordsR [(4, .pv (.lit (.int .i64 many))), (12, sS (some l.isEmpty) (eI .i64) l), (16, .sl 902 0 out1.length 1 false), (56, sS (some l.isEmpty) (eI .i64) l), (57, .pv (.lit (.int .i64 (l.length : Int)))), (58, .pv (.lit (.int .i64 (i1 : Int))))] [(902, .cells (encC (eI .i64) out1))] [902] (WeakerR.ofL (Ks := [902]) hI ⟨⟨rfl, rfl⟩, ⟨rfl, rfl⟩, ⟨(by exact grow_at_cons (b := 902) (b' := 902) (e := (eI .i64)) (l := out1) rfl h15 rfl rfl rfl), rfl⟩, ⟨rfl, rfl⟩, ⟨rfl, rfl⟩, ⟨rfl, rfl⟩, trivial⟩ (okH_list (look_cons h15 rfl) rfl rfl (okH_nil)) rfl) ?_
         refine Awp.consP C ?_
         refine rvP C (.pv (.lit (.bool (decide ((i1 : Int) < (l.length : Int)))))) ?_
         refine rvc_nil ?_
         refine Awp.seq ?_
         refine Awp.cond (b := (decide ((i1 : Int) < (l.length : Int)))) rfl (fun h21 => ?_) (fun h21 => ?_)
         ·
          have h22 : i1 < l.length := by have := of_decide_eq_true h21; omega
          obtain ⟨x1, h23⟩ := getX h22
          rw [drop_at h23] at hR
          refine Awp.skip ?_
          refine Awp.seq ?_
          refine Awp.block ?_
          refine Awp.consP C ?_
          refine rvc_un (rexec_idxS C rfl rfl rfl rfl rfl rfl x1 (Int.natCast_nonneg _) h23 ?_)
          refine rvP C (.pv (.lit (.int .i64 x1))) ?_
          refine rvP C (.pv (.lit (.int .i64 x1))) ?_
          refine rvc_nil ?_
          refine Awp.consP C ?_
          refine rvP C (.sl 902 0 out1.length 1 false) ?_
          refine rvP C (.pv (.lit (.int .i64 (out1.length : Int)))) ?_
          refine rvP C (.pv (.lit (.int .i64 many))) ?_
          refine rvP C (.pv (.lit (.bool (decide ((out1.length : Int) < many))))) ?_
          refine rvc_nil ?_
          refine Awp.cond (b := (decide ((out1.length : Int) < many))) rfl (fun h24 => ?_) (fun h24 => ?_)
          ·
           replace hR := of_true h24 hR
           refine Awp.regionP C ?_
           refine rvP C (.sl 902 0 out1.length 1 false) ?_
           refine rvP C (.pv (.lit (.int .i64 x1))) ?_
           refine rvc_un (rexec_buildSliceF C (eI .i64) [x1] rfl rfl rfl rfl rfl rfl rfl (by decide) rfl ?_)
           refine rvc_un (rexec_append C rfl rfl rfl rfl rfl rfl rfl rfl (fun _ h => by cases h) rfl (en := (eI .i64)) (D0 := out1) (D := [x1]) rfl rfl rfl rfl (by have := eq_of_bne_false h1; have := of_decide_eq_false h2; have := of_decide_eq_false h3; have := of_decide_eq_false h6; have := of_decide_eq_true h13; have := of_decide_eq_true h21; have := of_decide_eq_true h24; first | omega | (simp <;> omega)) (by decide) (nn := (out1 ++ [x1]).length) (by simp) ?_)
           refine rvP C (.sl 69 0 ((out1 ++ [x1]).length) 1 false) ?_
           refine rvc_nil ?_
           refine Awp.regionP C ?_
           refine rvP C (.pv (.lit (.int .i64 (IntKind.i64.wrap ((i1 : Int) + 1))))) ?_
           refine rvP C (.pv (.lit (.int .i64 (IntKind.i64.wrap ((i1 : Int) + 1))))) ?_
           refine rvc_nil ?_
           refine ⟨h22, (out1 ++ [x1]), ?_, ?_⟩
           · exact ⟨hR, (by (try simp only [List.length_append, List.length_singleton]); first | (have h_ := of_decide_eq_true ‹decide (_ < many) = true›; omega) | (have h_ := of_decide_eq_false ‹decide (_ < many) = false›; omega)), (by first | omega | (simp <;> omega))⟩
           · exact ⟨fun b => bif b == 902 then 69 else (fun b => b) b, WeakerR.ofL (Ks := [902]) hI ⟨⟨rfl, rfl⟩, ⟨rfl, rfl⟩, ⟨grow_to rfl rfl app_ne rfl rfl, grow_within rfl⟩, ⟨rfl, rfl⟩, ⟨rfl, rfl⟩, ⟨lit_cast (wrap_i64 (by omega) (by omega)), rfl⟩, trivial⟩ (okH_grow (fun _ => rfl) rfl rfl (okH_nil)) rfl⟩
          ·
           replace hR := of_false h24 hR
           refine Awp.skip ?_
           refine Awp.regionP C ?_
           refine rvP C (.pv (.lit (.int .i64 (IntKind.i64.wrap ((i1 : Int) + 1))))) ?_
           refine rvP C (.pv (.lit (.int .i64 (IntKind.i64.wrap ((i1 : Int) + 1))))) ?_
           refine rvc_nil ?_
           refine ⟨h22, out1, ?_, ?_⟩
           · exact ⟨hR, (by (try simp only [List.length_append, List.length_singleton]); first | (have h_ := of_decide_eq_true ‹decide (_ < many) = true›; omega) | (have h_ := of_decide_eq_false ‹decide (_ < many) = false›; omega)), (by first | omega | (simp <;> omega))⟩
           · exact ⟨fun b => b, WeakerR.ofL (Ks := [902]) hI ⟨⟨rfl, rfl⟩, ⟨rfl, rfl⟩, ⟨grow_to rfl rfl h15 rfl rfl, grow_within rfl⟩, ⟨rfl, rfl⟩, ⟨rfl, rfl⟩, ⟨lit_cast (wrap_i64 (by omega) (by omega)), rfl⟩, trivial⟩ (okH_grow (fun _ => rfl) rfl rfl (okH_nil)) rfl⟩
         ·
          have h22 : ¬ i1 < l.length := by have := of_decide_eq_false h21; omega
          rw [drop_end h22] at hR
          refine Awp.exit ?_
          have h25 : (many.toNat - (out1 : List Int).length) < (many.toNat - (out : List Int).length) := by (have h_ := of_decide_eq_true ‹decide (_ < many) = true›; omega)
          obtain ⟨nn, rfl⟩ : ∃ nn, n_ = nn + 1 := ⟨n_ - 1, by omega⟩
          refine ⟨nn, out1, by omega, ⟨by show (many.toNat - (out1 : List Int).length) ≤ nn; omega, hR⟩, ?_⟩
          · exact ⟨fun b => bif b == 901 then 902 else (fun b => b) b, WeakerR.ofL (Ks := [901]) hI ⟨⟨rfl, rfl⟩, ⟨rfl, rfl⟩, ⟨grow_to rfl rfl h15 rfl rfl, grow_within rfl⟩, trivial⟩ (okH_grow (fun _ => rfl) rfl rfl (okH_nil)) rfl⟩
       ·
        replace hR := of_false h13 hR
        refine Awp.exit ?_
        refine Awp.consP C ?_
        refine rvP C (sS (some out.isEmpty) (eI .i64) out) ?_
        refine rvP C (sS (some out.isEmpty) (eI .i64) out) ?_
        refine rvP C (.pv (.lit (.int .i64 0))) ?_
        refine rvc_nil ?_
        refine Awp.ret ?_
        subst hR
        exact ⟨.inl rfl, rfl⟩
      ·
       refine Awp.wordsR [(4, .pv (.lit (.int .i64 many))), (12, sS (some l.isEmpty) (eI .i64) l), (16, .sl 901 0 out.length 1 false)] [(901, .cells (encC (eI .i64) out))] [901] (WeakerR.ofL (Ks := [901]) hI ⟨⟨rfl, rfl⟩, ⟨rfl, rfl⟩, ⟨(by exact grow_at_cons (b := 901) (b' := 901) (e := (eI .i64)) (l := out) rfl h12 rfl rfl rfl), rfl⟩, trivial⟩ (okH_list (look_cons h12 rfl) rfl rfl (okH_nil)) rfl) ?_
       refine Awp.seq ?_
       refine Awp.consP C ?_
       refine rvP C (.sl 901 0 out.length 1 false) ?_
       refine rvP C (.pv (.lit (.int .i64 (out.length : Int)))) ?_
       refine rvP C (.pv (.lit (.int .i64 many))) ?_
       refine rvP C (.pv (.lit (.bool (decide ((out.length : Int) < many))))) ?_
       refine rvc_nil ?_
       refine Awp.cond (b := (decide ((out.length : Int) < many))) rfl (fun h26 => ?_) (fun h26 => ?_)
       ·
        replace hR := of_true h26 hR
        refine Awp.skip ?_
        refine Awp.block ?_
        refine Awp.consP C ?_
        refine rvP C (sS (some l.isEmpty) (eI .i64) l) ?_
        refine rvP C (.pv (.lit (.int .i64 (l.length : Int)))) ?_
        refine rvP C (.pv (.lit (.int .i64 0))) ?_
        refine rvc_nil ?_
        refine Awp.block ?_
        refine Awp.forR (σ := ((List Int))) (l.length) (fun i2 v => [(4, .pv (.lit (.int .i64 many))), (12, sS (some l.isEmpty) (eI .i64) l), (16, .sl 903 0 v.length 1 false), (56, sS (some l.isEmpty) (eI .i64) l), (57, .pv (.lit (.int .i64 (l.length : Int)))), (58, .pv (.lit (.int .i64 (i2 : Int))))]) (fun i2 v => [(903, .cells (encC (eI .i64) v))]) [903] (fun i2 v => (rTriesW_l2 many (fun out2 => rTriesW_l1 many l n_ out2) (l.drop i2) i2 v = R) ∧ (v.length = min many.toNat ((out : List Int).length + i2)) ∧ (v ≠ [] ∧ v.length ≤ out.length + i2)) out ?_ ?_ (fun i2 out2 h27 hR => ?_)
        · exact ⟨hR, (by have h_ := of_decide_eq_true ‹decide (_ < many) = true›; omega), ⟨h12, (by first | omega | (simp <;> omega))⟩⟩
        · exact ⟨fun b => bif b == 903 then 901 else (fun b => b) b, WeakerR.ofL (Ks := [903]) hI ⟨⟨rfl, rfl⟩, ⟨rfl, rfl⟩, ⟨rfl, rfl⟩, ⟨rfl, rfl⟩, ⟨rfl, rfl⟩, ⟨rfl, rfl⟩, trivial⟩ (okH_list rfl rfl rfl (okH_nil)) rfl⟩
        obtain ⟨hR, hV, ⟨hn_out2, hi_out2⟩⟩ := hR
        replace hi_out2 : out2.length ≤ out.length + i2 := hi_out2
        refine Awp.consP C ?_
        refine rvP C (.pv (.lit (.bool (decide ((i2 : Int) < (l.length : Int)))))) ?_
        refine rvc_nil ?_
        refine Awp.seq ?_
        refine Awp.cond (b := (decide ((i2 : Int) < (l.length : Int)))) rfl (fun h28 => ?_) (fun h28 => ?_)
        ·
         have h29 : i2 < l.length := by have := of_decide_eq_true h28; omega
         obtain ⟨x2, h30⟩ := getX h29
         rw [drop_at h30] at hR
         refine Awp.skip ?_
         refine Awp.seq ?_
         refine Awp.block ?_
         refine Awp.consP C ?_
         refine rvc_un (rexec_idxS C rfl rfl rfl rfl rfl rfl x2 (Int.natCast_nonneg _) h30 ?_)
         refine rvP C (.pv (.lit (.int .i64 x2))) ?_
         refine rvP C (.pv (.lit (.int .i64 x2))) ?_
         refine rvc_nil ?_
         refine Awp.consP C ?_
         refine rvP C (.sl 903 0 out2.length 1 false) ?_
         refine rvP C (.pv (.lit (.int .i64 (out2.length : Int)))) ?_
         refine rvP C (.pv (.lit (.int .i64 many))) ?_
         refine rvP C (.pv (.lit (.bool (decide ((out2.length : Int) < many))))) ?_
         refine rvc_nil ?_
         refine Awp.cond (b := (decide ((out2.length : Int) < many))) rfl (fun h31 => ?_) (fun h31 => ?_)
         ·
          replace hR := of_true h31 hR
          refine Awp.regionP C ?_
          refine rvP C (.sl 903 0 out2.length 1 false) ?_
          refine rvP C (.pv (.lit (.int .i64 x2))) ?_
          refine rvc_un (rexec_buildSliceF C (eI .i64) [x2] rfl rfl rfl rfl rfl rfl rfl (by decide) rfl ?_)
          refine rvc_un (rexec_append C rfl rfl rfl rfl rfl rfl rfl rfl (fun _ h => by cases h) rfl (en := (eI .i64)) (D0 := out2) (D := [x2]) rfl rfl rfl rfl (by have := eq_of_bne_false h1; have := of_decide_eq_false h2; have := of_decide_eq_false h3; have := of_decide_eq_false h6; have := of_decide_eq_true h26; have := of_decide_eq_true h28; have := of_decide_eq_true h31; first | omega | (simp <;> omega)) (by decide) (nn := (out2 ++ [x2]).length) (by simp) ?_)
          refine rvP C (.sl 69 0 ((out2 ++ [x2]).length) 1 false) ?_
          refine rvc_nil ?_
          refine Awp.regionP C ?_
          refine rvP C (.pv (.lit (.int .i64 (IntKind.i64.wrap ((i2 : Int) + 1))))) ?_
          refine rvP C (.pv (.lit (.int .i64 (IntKind.i64.wrap ((i2 : Int) + 1))))) ?_
          refine rvc_nil ?_
          refine ⟨h29, (out2 ++ [x2]), ?_, ?_⟩
          · exact ⟨hR, (by (try simp only [List.length_append, List.length_singleton]); first | (have h_ := of_decide_eq_true ‹decide (_ < many) = true›; omega) | (have h_ := of_decide_eq_false ‹decide (_ < many) = false›; omega)), ⟨app_ne, (by first | omega | (simp <;> omega))⟩⟩
          · exact ⟨fun b => bif b == 903 then 69 else (fun b => b) b, WeakerR.ofL (Ks := [903]) hI ⟨⟨rfl, rfl⟩, ⟨rfl, rfl⟩, ⟨rfl, rfl⟩, ⟨rfl, rfl⟩, ⟨rfl, rfl⟩, ⟨lit_cast (wrap_i64 (by omega) (by omega)), rfl⟩, trivial⟩ (okH_list rfl rfl rfl (okH_nil)) rfl⟩
         ·
          replace hR := of_false h31 hR
          refine Awp.skip ?_
          refine Awp.regionP C ?_
          refine rvP C (.pv (.lit (.int .i64 (IntKind.i64.wrap ((i2 : Int) + 1))))) ?_
          refine rvP C (.pv (.lit (.int .i64 (IntKind.i64.wrap ((i2 : Int) + 1))))) ?_
          refine rvc_nil ?_
          refine ⟨h29, out2, ?_, ?_⟩
          · exact ⟨hR, (by (try simp only [List.length_append, List.length_singleton]); first | (have h_ := of_decide_eq_true ‹decide (_ < many) = true›; omega) | (have h_ := of_decide_eq_false ‹decide (_ < many) = false›; omega)), ⟨hn_out2, (by first | omega | (simp <;> omega))⟩⟩
          · exact ⟨fun b => b, WeakerR.ofL (Ks := [903]) hI ⟨⟨rfl, rfl⟩, ⟨rfl, rfl⟩, ⟨rfl, rfl⟩, ⟨rfl, rfl⟩, ⟨rfl, rfl⟩, ⟨lit_cast (wrap_i64 (by omega) (by omega)), rfl⟩, trivial⟩ (okH_list rfl rfl rfl (okH_nil)) rfl⟩
        ·
         have h29 : ¬ i2 < l.length := by have := of_decide_eq_false h28; omega
         rw [drop_end h29] at hR
         refine Awp.exit ?_
         have h32 : (many.toNat - (out2 : List Int).length) < (many.toNat - (out : List Int).length) := by (have h_ := of_decide_eq_true ‹decide (_ < many) = true›; omega)
         obtain ⟨nn, rfl⟩ : ∃ nn, n_ = nn + 1 := ⟨n_ - 1, by omega⟩
         refine ⟨nn, out2, by omega, ⟨by show (many.toNat - (out2 : List Int).length) ≤ nn; omega, hR⟩, ?_⟩
         · exact ⟨fun b => bif b == 901 then 903 else (fun b => b) b, WeakerR.ofL (Ks := [901]) hI ⟨⟨rfl, rfl⟩, ⟨rfl, rfl⟩, ⟨grow_to rfl rfl hn_out2 rfl rfl, grow_within rfl⟩, trivial⟩ (okH_grow (fun _ => rfl) rfl rfl (okH_nil)) rfl⟩
       ·
        replace hR := of_false h26 hR
        refine Awp.exit ?_
        refine Awp.consP C ?_
        refine rvP C (.sl 901 0 out.length 1 false) ?_
        refine rvP C (.sl 901 0 out.length 1 false) ?_
        refine rvP C (.pv (.lit (.int .i64 0))) ?_
        refine rvc_nil ?_
        refine Awp.freezeW 901 (encL (eI .i64) out) ?_ [(10, sS (some out.isEmpty) (eI .i64) out), (11, .pv (.lit (.int .i64 0)))] [] ?_ ?_ ?_
        · rfl
        · exact ⟨⟨_, rfl, .inl (.inr ⟨_, _, _, rfl, by rw [ne_isEmpty h12]; rfl⟩)⟩, ⟨_, rfl, .inl (.inl rfl)⟩, trivial⟩
        · exact trivial
        refine Awp.ret ?_
        subst hR
        exact ⟨.inl rfl, rfl⟩
      -- !! two models: ('(bif (decide ((out.length : Int) < many)) then rTriesW_l2 many (fun out1 => rTriesW_l1 many l nn out1) l 0 out else ((Sl.mk out.isEmpty out), 0))', '') ||| ('(bif (decide ((out.length : Int) < many)) then rTriesW_l2 many (fun out2 => rTriesW_l1 many l nn out2) l 0 out else ((Sl.mk out.isEmpty out), 0))', '')
    ·
     refine Awp.wordsR [(4, .pv (.lit (.int .i64 many))), (12, .sl 900 0 l.length 1 false), (37, sS (some c.members.nil) eMember c.members.D), (38, .pv (.lit (.int .i64 (c.members.D.length : Int)))), (39, .pv (.lit (.int .i64 (i : Int))))] [(900, .cells (encC (eI .i64) l))] [900] (WeakerR.ofL (Ks := [900]) hI ⟨⟨rfl, rfl⟩, ⟨(by exact grow_at_cons (b := 900) (b' := 900) (e := (eI .i64)) (l := l) rfl h5 rfl rfl rfl), rfl⟩, ⟨rfl, rfl⟩, ⟨rfl, rfl⟩, ⟨rfl, rfl⟩, trivial⟩ (okH_list (look_cons h5 rfl) rfl rfl (okH_nil)) rfl) ?_
     refine Awp.consP C ?_
     refine rvP C (.pv (.lit (.bool (decide ((i : Int) < (c.members.D.length : Int)))))) ?_
     refine rvc_nil ?_
     refine Awp.seq ?_
     refine Awp.cond (b := (decide ((i : Int) < (c.members.D.length : Int)))) rfl (fun h33 => ?_) (fun h33 => ?_)
     ·
      have h34 : i < c.members.D.length := by have := of_decide_eq_true h33; omega
      obtain ⟨x, h35⟩ := getX h34
      rw [drop_at h35] at hR
      refine Awp.skip ?_
      refine Awp.seq ?_
      refine Awp.block ?_
      refine Awp.consP C ?_
      refine rvc_un (rexec_idxS C rfl rfl rfl rfl rfl rfl x (Int.natCast_nonneg _) h35 ?_)
      refine rvP C (.agg [.pv (.lit (.int .i64 x.node)), .pv (.lit (.int .i64 x.site)), .pv (.lit (.bool x.fresh))]) ?_
      refine rvc_un (rexec_prim C (δ := { v := .ptr 15 0, new := [(15, .cells [.pv (.lit (.int .i64 0)), .pv (.lit (.int .i64 0)), .pv (.lit (.bool false))])] }) rfl rfl rfl rfl trivial rfl ?_)
      refine rvc_un (rexec_prim C (δ := { v := .undef, wr := [(15, some (.cells [.pv (.lit (.int .i64 x.node)), .pv (.lit (.int .i64 x.site)), .pv (.lit (.bool x.fresh))]))] }) rfl rfl rfl rfl trivial rfl ?_)
      refine rvc_nil ?_
      refine Awp.consP C ?_
      refine rvP C (.ptr 15 2) ?_
      refine rvP C (.pv (.lit (.bool x.fresh))) ?_
      refine rvP C (.pv (.lit (.bool (!x.fresh)))) ?_
      refine rvc_nil ?_
      refine Awp.cond (b := (!x.fresh)) rfl (fun h36 => ?_) (fun h36 => ?_)
      ·
       replace hR := of_true h36 hR
       refine Awp.regionP C ?_
       refine rvP C (.sl 900 0 l.length 1 false) ?_
       refine rvP C (.ptr 15 0) ?_
       refine rvP C (.pv (.lit (.int .i64 x.node))) ?_
       refine rvc_un (rexec_buildSliceF C (eI .i64) [x.node] rfl rfl rfl rfl rfl rfl rfl (by decide) rfl ?_)
       refine rvc_un (rexec_append C rfl rfl rfl rfl rfl rfl rfl rfl (fun _ h => by cases h) rfl (en := (eI .i64)) (D0 := l) (D := [x.node]) rfl rfl rfl rfl (by have := eq_of_bne_false h1; have := of_decide_eq_false h2; have := of_decide_eq_false h3; have := of_decide_eq_true h33; first | omega | (simp <;> omega)) (by decide) (nn := (l ++ [x.node]).length) (by simp) ?_)
       refine rvP C (.sl 50 0 ((l ++ [x.node]).length) 1 false) ?_
       refine rvc_nil ?_
       refine Awp.regionP C ?_
       refine rvP C (.pv (.lit (.int .i64 (IntKind.i64.wrap ((i : Int) + 1))))) ?_
       refine rvP C (.pv (.lit (.int .i64 (IntKind.i64.wrap ((i : Int) + 1))))) ?_
       refine rvc_nil ?_
       refine ⟨h34, (l ++ [x.node]), ?_, ?_⟩
       · exact ⟨hR, (by first | (rw [hV]; exact (fullTo_add ‹c.members.D[_]? = some _› (by simpa using ‹(!(_ : Bool)) = true›)).symm) | (rw [hV]; exact (fullTo_skip ‹c.members.D[_]? = some _› (by simpa using ‹(!(_ : Bool)) = false›)).symm)), (by first | omega | (simp <;> omega))⟩
       · exact ⟨fun b => bif b == 900 then 50 else (fun b => b) b, WeakerR.ofL (Ks := [900]) hI ⟨⟨rfl, rfl⟩, ⟨grow_to rfl rfl app_ne rfl rfl, grow_within rfl⟩, ⟨rfl, rfl⟩, ⟨rfl, rfl⟩, ⟨lit_cast (wrap_i64 (by omega) (by omega)), rfl⟩, trivial⟩ (okH_grow (fun _ => rfl) rfl rfl (okH_nil)) rfl⟩
      ·
       replace hR := of_false h36 hR
       refine Awp.skip ?_
       refine Awp.regionP C ?_
       refine rvP C (.pv (.lit (.int .i64 (IntKind.i64.wrap ((i : Int) + 1))))) ?_
       refine rvP C (.pv (.lit (.int .i64 (IntKind.i64.wrap ((i : Int) + 1))))) ?_
       refine rvc_nil ?_
       refine ⟨h34, l, ?_, ?_⟩
       · exact ⟨hR, (by first | (rw [hV]; exact (fullTo_add ‹c.members.D[_]? = some _› (by simpa using ‹(!(_ : Bool)) = true›)).symm) | (rw [hV]; exact (fullTo_skip ‹c.members.D[_]? = some _› (by simpa using ‹(!(_ : Bool)) = false›)).symm)), (by first | omega | (simp <;> omega))⟩
       · exact ⟨fun b => b, WeakerR.ofL (Ks := [900]) hI ⟨⟨rfl, rfl⟩, ⟨grow_to rfl rfl h5 rfl rfl, grow_within rfl⟩, ⟨rfl, rfl⟩, ⟨rfl, rfl⟩, ⟨lit_cast (wrap_i64 (by omega) (by omega)), rfl⟩, trivial⟩ (okH_grow (fun _ => rfl) rfl rfl (okH_nil)) rfl⟩
     ·
      have h34 : ¬ i < c.members.D.length := by have := of_decide_eq_false h33; omega
      rw [drop_end h34] at hR
      refine Awp.exit ?_
      refine Awp.consP C ?_
      refine rvP C (sS (some true) (eI .i64) []) ?_
      refine rvc_nil ?_
      refine Awp.seq ?_
      refine Awp.block ?_
      refine Awp.forM (σ := ((List Int))) (fun v => [(4, .pv (.lit (.int .i64 many))), (12, .sl 900 0 l.length 1 false), (16, grow 904 (eI .i64) v)]) (fun v => (growH 904 (eI .i64) v ++ ([(900, .cells (encC (eI .i64) l))]))) [900, 904] (fun n v => (many.toNat - (v : List Int).length) ≤ n ∧ rTriesW_l1 many l (n + 1) v = R) ((many.toNat - ([] : List Int).length)) [] ?_ ?_ (fun n_ out3 h37 => ?_)
      · exact ⟨Nat.le_refl _, hR⟩
      · exact ⟨fun b => b, WeakerR.ofL (Ks := [900, 904]) hI ⟨⟨rfl, rfl⟩, ⟨rfl, rfl⟩, ⟨rfl, rfl⟩, trivial⟩ (okH_grow (fun hne => absurd rfl hne) rfl rfl (okH_list rfl rfl rfl (okH_nil))) rfl⟩
      obtain ⟨hm_, hR⟩ := h37
      replace hm_ : (many.toNat - (out3 : List Int).length) ≤ n_ := hm_
      have hp_ : 0 < l.length ∧ l.length ≤ 6 := by rw [hV, fullTo_all (by omega)]; exact full_len (able_ok (near_ok (by rw [near_eq, ← hq_nr]; exact eq_of_bne_false ‹(nr.2 != 0) = false›))).1
      have hm1_ := of_decide_eq_false ‹decide (many > 24) = false›
      by_cases h39 : out3 = []
      ·
       refine Awp.wordsR [(4, .pv (.lit (.int .i64 many))), (12, .sl 900 0 l.length 1 false), (16, sS (some out3.isEmpty) (eI .i64) out3)] [(900, .cells (encC (eI .i64) l))] [900] (WeakerR.ofL (Ks := [900]) hI ⟨⟨rfl, rfl⟩, ⟨rfl, rfl⟩, ⟨(by exact grow_at_nil (b := 904) (e := (eI .i64)) (l := out3) rfl h39), rfl⟩, trivial⟩ (okH_list (look_nil h39 rfl) rfl rfl (okH_nil)) rfl) ?_
       refine Awp.seq ?_
       refine Awp.consP C ?_
       refine rvP C (sS (some out3.isEmpty) (eI .i64) out3) ?_
       refine rvP C (.pv (.lit (.int .i64 (out3.length : Int)))) ?_
       refine rvP C (.pv (.lit (.int .i64 many))) ?_
       refine rvP C (.pv (.lit (.bool (decide ((out3.length : Int) < many))))) ?_
       refine rvc_nil ?_
       refine Awp.cond (b := (decide ((out3.length : Int) < many))) rfl (fun h40 => ?_) (fun h40 => ?_)
       ·
        replace hR := of_true h40 hR
        refine Awp.skip ?_
        refine Awp.block ?_
        refine Awp.consP C ?_
        refine rvP C (.sl 900 0 l.length 1 false) ?_
        refine rvP C (.pv (.lit (.int .i64 (l.length : Int)))) ?_
        refine rvP C (.pv (.lit (.int .i64 0))) ?_
        refine rvc_nil ?_
        refine Awp.block ?_
        refine Awp.forR (σ := ((List Int))) (l.length) (fun i3 v => [(4, .pv (.lit (.int .i64 many))), (12, .sl 900 0 l.length 1 false), (16, grow 905 (eI .i64) v), (56, .sl 900 0 l.length 1 false), (57, .pv (.lit (.int .i64 (l.length : Int)))), (58, .pv (.lit (.int .i64 (i3 : Int))))]) (fun i3 v => (growH 905 (eI .i64) v ++ ([(900, .cells (encC (eI .i64) l))]))) [900, 905] (fun i3 v => (rTriesW_l2 many (fun out4 => rTriesW_l1 many l n_ out4) (l.drop i3) i3 v = R) ∧ (v.length = min many.toNat ((out3 : List Int).length + i3)) ∧ (v.length ≤ out3.length + i3)) out3 ?_ ?_ (fun i3 out4 h41 hR => ?_)
        · exact ⟨hR, (by have h_ := of_decide_eq_true ‹decide (_ < many) = true›; omega), (by first | omega | (simp <;> omega))⟩
        · exact ⟨fun b => b, WeakerR.ofL (Ks := [900, 905]) hI ⟨⟨rfl, rfl⟩, ⟨rfl, rfl⟩, ⟨grow_to_nil rfl h39 (.inr rfl), grow_within rfl⟩, ⟨rfl, rfl⟩, ⟨rfl, rfl⟩, ⟨rfl, rfl⟩, trivial⟩ (okH_grow (fun hne => absurd h39 hne) rfl rfl (okH_list rfl rfl rfl (okH_nil))) rfl⟩
        obtain ⟨hR, hV, hi_out4⟩ := hR
        replace hi_out4 : out4.length ≤ out3.length + i3 := hi_out4
        by_cases h42 : out4 = []
        ·
         refine Awp.wordsR [(4, .pv (.lit (.int .i64 many))), (12, .sl 900 0 l.length 1 false), (16, sS (some out4.isEmpty) (eI .i64) out4), (56, .sl 900 0 l.length 1 false), (57, .pv (.lit (.int .i64 (l.length : Int)))), (58, .pv (.lit (.int .i64 (i3 : Int))))] [(900, .cells (encC (eI .i64) l))] [900] (WeakerR.ofL (Ks := [900]) hI ⟨⟨rfl, rfl⟩, ⟨rfl, rfl⟩, ⟨(by exact grow_at_nil (b := 905) (e := (eI .i64)) (l := out4) rfl h42), rfl⟩, ⟨rfl, rfl⟩, ⟨rfl, rfl⟩, ⟨rfl, rfl⟩, trivial⟩ (okH_list (look_nil h42 rfl) rfl rfl (okH_nil)) rfl) ?_
         refine Awp.consP C ?_
         refine rvP C (.pv (.lit (.bool (decide ((i3 : Int) < (l.length : Int)))))) ?_
         refine rvc_nil ?_
         refine Awp.seq ?_
         refine Awp.cond (b := (decide ((i3 : Int) < (l.length : Int)))) rfl (fun h43 => ?_) (fun h43 => ?_)
         ·
          have h44 : i3 < l.length := by have := of_decide_eq_true h43; omega
          obtain ⟨x3, h45⟩ := getX h44
          rw [drop_at h45] at hR
          refine Awp.skip ?_
          refine Awp.seq ?_
          refine Awp.block ?_
          refine Awp.consP C ?_
          refine rvc_un (rexec_prim C (δ := { v := .ptr 900 (0 + i3 * 1) }) rfl rfl rfl rfl ⟨(by have := eq_of_bne_false h1; have := of_decide_eq_false h2; have := of_decide_eq_false h3; have := of_decide_eq_false h33; have := of_decide_eq_true h40; have := of_decide_eq_true h43; omega), getlt h45 (by first | rfl | omega | (have := eq_of_bne_false h1; have := of_decide_eq_false h2; have := of_decide_eq_false h3; have := of_decide_eq_false h33; have := of_decide_eq_true h40; have := of_decide_eq_true h43; omega)) (by first | rfl | omega | simp)⟩ rfl ?_)
          refine rvc_un (rexec_loadE C (e := (eI .i64)) i3 0 x3 (.pv (.lit (.int .i64 x3))) rfl rfl rfl rfl h45 (by simp [eI]) (by decide) (by decide) rfl ?_)
          refine rvP C (.pv (.lit (.int .i64 x3))) ?_
          refine rvc_nil ?_
          refine Awp.consP C ?_
          refine rvP C (sS (some out4.isEmpty) (eI .i64) out4) ?_
          refine rvP C (.pv (.lit (.int .i64 (out4.length : Int)))) ?_
          refine rvP C (.pv (.lit (.int .i64 many))) ?_
          refine rvP C (.pv (.lit (.bool (decide ((out4.length : Int) < many))))) ?_
          refine rvc_nil ?_
          refine Awp.cond (b := (decide ((out4.length : Int) < many))) rfl (fun h46 => ?_) (fun h46 => ?_)
          ·
           replace hR := of_true h46 hR
           refine Awp.regionP C ?_
           refine rvP C (sS (some out4.isEmpty) (eI .i64) out4) ?_
           refine rvP C (.pv (.lit (.int .i64 x3))) ?_
           refine rvc_un (rexec_buildSliceF C (eI .i64) [x3] rfl rfl rfl rfl rfl rfl rfl (by decide) rfl ?_)
           refine rvc_un (rexec_appendG C rfl rfl rfl rfl rfl rfl rfl rfl (fun _ h => by cases h) rfl (en := (eI .i64)) (l := out4) (D := [x3]) rfl rfl h42 (by rw [h42]; rfl) (by simp) (by have := eq_of_bne_false h1; have := of_decide_eq_false h2; have := of_decide_eq_false h3; have := of_decide_eq_false h33; have := of_decide_eq_true h40; have := of_decide_eq_true h43; have := of_decide_eq_true h46; first | omega | (simp <;> omega)) (by decide) (nn := (out4 ++ [x3]).length) (by simp) ?_)
           refine rvP C (.sl 69 0 ((out4 ++ [x3]).length) 1 false) ?_
           refine rvc_nil ?_
           refine Awp.regionP C ?_
           refine rvP C (.pv (.lit (.int .i64 (IntKind.i64.wrap ((i3 : Int) + 1))))) ?_
           refine rvP C (.pv (.lit (.int .i64 (IntKind.i64.wrap ((i3 : Int) + 1))))) ?_
           refine rvc_nil ?_
           refine ⟨h44, (out4 ++ [x3]), ?_, ?_⟩
           · exact ⟨hR, (by (try simp only [List.length_append, List.length_singleton]); first | (have h_ := of_decide_eq_true ‹decide (_ < many) = true›; omega) | (have h_ := of_decide_eq_false ‹decide (_ < many) = false›; omega)), (by first | omega | (simp <;> omega))⟩
           · exact ⟨fun b => bif b == 905 then 69 else (fun b => b) b, WeakerR.ofL (Ks := [900, 905]) hI ⟨⟨rfl, rfl⟩, ⟨rfl, rfl⟩, ⟨grow_to rfl rfl app_ne rfl rfl, grow_within rfl⟩, ⟨rfl, rfl⟩, ⟨rfl, rfl⟩, ⟨lit_cast (wrap_i64 (by omega) (by omega)), rfl⟩, trivial⟩ (okH_grow (fun _ => rfl) rfl rfl (okH_list rfl rfl rfl (okH_nil))) rfl⟩
          ·
           replace hR := of_false h46 hR
           refine Awp.skip ?_
           refine Awp.regionP C ?_
           refine rvP C (.pv (.lit (.int .i64 (IntKind.i64.wrap ((i3 : Int) + 1))))) ?_
           refine rvP C (.pv (.lit (.int .i64 (IntKind.i64.wrap ((i3 : Int) + 1))))) ?_
           refine rvc_nil ?_
           refine ⟨h44, out4, ?_, ?_⟩
           · exact ⟨hR, (by (try simp only [List.length_append, List.length_singleton]); first | (have h_ := of_decide_eq_true ‹decide (_ < many) = true›; omega) | (have h_ := of_decide_eq_false ‹decide (_ < many) = false›; omega)), (by first | omega | (simp <;> omega))⟩
           · exact ⟨fun b => b, WeakerR.ofL (Ks := [900, 905]) hI ⟨⟨rfl, rfl⟩, ⟨rfl, rfl⟩, ⟨grow_to_nil rfl h42 (.inr rfl), grow_within rfl⟩, ⟨rfl, rfl⟩, ⟨rfl, rfl⟩, ⟨lit_cast (wrap_i64 (by omega) (by omega)), rfl⟩, trivial⟩ (okH_grow (fun hne => absurd h42 hne) rfl rfl (okH_list rfl rfl rfl (okH_nil))) rfl⟩
         ·
          have h44 : ¬ i3 < l.length := by have := of_decide_eq_false h43; omega
          rw [drop_end h44] at hR
          refine Awp.exit ?_
          have h47 : (many.toNat - (out4 : List Int).length) < (many.toNat - (out3 : List Int).length) := by (have h_ := of_decide_eq_true ‹decide (_ < many) = true›; omega)
          obtain ⟨nn, rfl⟩ : ∃ nn, n_ = nn + 1 := ⟨n_ - 1, by omega⟩
          refine ⟨nn, out4, by omega, ⟨by show (many.toNat - (out4 : List Int).length) ≤ nn; omega, hR⟩, ?_⟩
          · exact ⟨fun b => b, WeakerR.ofL (Ks := [900, 904]) hI ⟨⟨rfl, rfl⟩, ⟨rfl, rfl⟩, ⟨grow_to_nil rfl h42 (.inr rfl), grow_within rfl⟩, trivial⟩ (okH_grow (fun hne => absurd h42 hne) rfl rfl (okH_list rfl rfl rfl (okH_nil))) rfl⟩
        ·
         refine Awp.wordsR [(4, .pv (.lit (.int .i64 many))), (12, .sl 900 0 l.length 1 false), (16, .sl 905 0 out4.length 1 false), (56, .sl 900 0 l.length 1 false), (57, .pv (.lit (.int .i64 (l.length : Int)))), (58, .pv (.lit (.int .i64 (i3 : Int))))] [(905, .cells (encC (eI .i64) out4)), (900, .cells (encC (eI .i64) l))] [900, 905] (WeakerR.ofL (Ks := [900, 905]) hI ⟨⟨rfl, rfl⟩, ⟨rfl, rfl⟩, ⟨(by exact grow_at_cons (b := 905) (b' := 905) (e := (eI .i64)) (l := out4) rfl h42 rfl rfl rfl), rfl⟩, ⟨rfl, rfl⟩, ⟨rfl, rfl⟩, ⟨rfl, rfl⟩, trivial⟩ (okH_list (look_cons h42 rfl) rfl rfl (okH_list (look_cons h42 rfl) rfl rfl (okH_nil))) rfl) ?_
         refine Awp.consP C ?_
         refine rvP C (.pv (.lit (.bool (decide ((i3 : Int) < (l.length : Int)))))) ?_
         refine rvc_nil ?_
         refine Awp.seq ?_
         refine Awp.cond (b := (decide ((i3 : Int) < (l.length : Int)))) rfl (fun h48 => ?_) (fun h48 => ?_)
         ·
          have h49 : i3 < l.length := by have := of_decide_eq_true h48; omega
          obtain ⟨x3, h50⟩ := getX h49
          rw [drop_at h50] at hR
          refine Awp.skip ?_
          refine Awp.seq ?_
          refine Awp.block ?_
          refine Awp.consP C ?_
          refine rvc_un (rexec_prim C (δ := { v := .ptr 900 (0 + i3 * 1) }) rfl rfl rfl rfl ⟨(by have := eq_of_bne_false h1; have := of_decide_eq_false h2; have := of_decide_eq_false h3; have := of_decide_eq_false h33; have := of_decide_eq_true h40; have := of_decide_eq_true h48; omega), getlt h50 (by first | rfl | omega | (have := eq_of_bne_false h1; have := of_decide_eq_false h2; have := of_decide_eq_false h3; have := of_decide_eq_false h33; have := of_decide_eq_true h40; have := of_decide_eq_true h48; omega)) (by first | rfl | omega | simp)⟩ rfl ?_)
          refine rvc_un (rexec_loadE C (e := (eI .i64)) i3 0 x3 (.pv (.lit (.int .i64 x3))) rfl rfl rfl rfl h50 (by simp [eI]) (by decide) (by decide) rfl ?_)
          refine rvP C (.pv (.lit (.int .i64 x3))) ?_
          refine rvc_nil ?_
          refine Awp.consP C ?_
          refine rvP C (.sl 905 0 out4.length 1 false) ?_
          refine rvP C (.pv (.lit (.int .i64 (out4.length : Int)))) ?_
          refine rvP C (.pv (.lit (.int .i64 many))) ?_
          refine rvP C (.pv (.lit (.bool (decide ((out4.length : Int) < many))))) ?_
          refine rvc_nil ?_
          refine Awp.cond (b := (decide ((out4.length : Int) < many))) rfl (fun h51 => ?_) (fun h51 => ?_)
          ·
           replace hR := of_true h51 hR
           refine Awp.regionP C ?_
           refine rvP C (.sl 905 0 out4.length 1 false) ?_
           refine rvP C (.pv (.lit (.int .i64 x3))) ?_
           refine rvc_un (rexec_buildSliceF C (eI .i64) [x3] rfl rfl rfl rfl rfl rfl rfl (by decide) rfl ?_)
           refine rvc_un (rexec_append C rfl rfl rfl rfl rfl rfl rfl rfl (fun _ h => by cases h) rfl (en := (eI .i64)) (D0 := out4) (D := [x3]) rfl rfl rfl rfl (by have := eq_of_bne_false h1; have := of_decide_eq_false h2; have := of_decide_eq_false h3; have := of_decide_eq_false h33; have := of_decide_eq_true h40; have := of_decide_eq_true h48; have := of_decide_eq_true h51; first | omega | (simp <;> omega)) (by decide) (nn := (out4 ++ [x3]).length) (by simp) ?_)
           refine rvP C (.sl 69 0 ((out4 ++ [x3]).length) 1 false) ?_
           refine rvc_nil ?_
           refine Awp.regionP C ?_
           refine rvP C (.pv (.lit (.int .i64 (IntKind.i64.wrap ((i3 : Int) + 1))))) ?_
           refine rvP C (.pv (.lit (.int .i64 (IntKind.i64.wrap ((i3 : Int) + 1))))) ?_
           refine rvc_nil ?_
           refine ⟨h49, (out4 ++ [x3]), ?_, ?_⟩
           · exact ⟨hR, (by (try simp only [List.length_append, List.length_singleton]); first | (have h_ := of_decide_eq_true ‹decide (_ < many) = true›; omega) | (have h_ := of_decide_eq_false ‹decide (_ < many) = false›; omega)), (by first | omega | (simp <;> omega))⟩
           · exact ⟨fun b => bif b == 905 then 69 else (fun b => b) b, WeakerR.ofL (Ks := [900, 905]) hI ⟨⟨rfl, rfl⟩, ⟨rfl, rfl⟩, ⟨grow_to rfl rfl app_ne rfl rfl, grow_within rfl⟩, ⟨rfl, rfl⟩, ⟨rfl, rfl⟩, ⟨lit_cast (wrap_i64 (by omega) (by omega)), rfl⟩, trivial⟩ (okH_grow (fun _ => rfl) rfl rfl (okH_list rfl rfl rfl (okH_nil))) rfl⟩
          ·
           replace hR := of_false h51 hR
           refine Awp.skip ?_
           refine Awp.regionP C ?_
           refine rvP C (.pv (.lit (.int .i64 (IntKind.i64.wrap ((i3 : Int) + 1))))) ?_
           refine rvP C (.pv (.lit (.int .i64 (IntKind.i64.wrap ((i3 : Int) + 1))))) ?_
           refine rvc_nil ?_
           refine ⟨h49, out4, ?_, ?_⟩
           · exact ⟨hR, (by (try simp only [List.length_append, List.length_singleton]); first | (have h_ := of_decide_eq_true ‹decide (_ < many) = true›; omega) | (have h_ := of_decide_eq_false ‹decide (_ < many) = false›; omega)), (by first | omega | (simp <;> omega))⟩
           · exact ⟨fun b => b, WeakerR.ofL (Ks := [900, 905]) hI ⟨⟨rfl, rfl⟩, ⟨rfl, rfl⟩, ⟨grow_to rfl rfl h42 rfl rfl, grow_within rfl⟩, ⟨rfl, rfl⟩, ⟨rfl, rfl⟩, ⟨lit_cast (wrap_i64 (by omega) (by omega)), rfl⟩, trivial⟩ (okH_grow (fun _ => rfl) rfl rfl (okH_list rfl rfl rfl (okH_nil))) rfl⟩
         ·
          have h49 : ¬ i3 < l.length := by have := of_decide_eq_false h48; omega
          rw [drop_end h49] at hR
          refine Awp.exit ?_
          have h52 : (many.toNat - (out4 : List Int).length) < (many.toNat - (out3 : List Int).length) := by (have h_ := of_decide_eq_true ‹decide (_ < many) = true›; omega)
          obtain ⟨nn, rfl⟩ : ∃ nn, n_ = nn + 1 := ⟨n_ - 1, by omega⟩
          refine ⟨nn, out4, by omega, ⟨by show (many.toNat - (out4 : List Int).length) ≤ nn; omega, hR⟩, ?_⟩
          · exact ⟨fun b => bif b == 904 then 905 else (fun b => b) b, WeakerR.ofL (Ks := [900, 904]) hI ⟨⟨rfl, rfl⟩, ⟨rfl, rfl⟩, ⟨grow_to rfl rfl h42 rfl rfl, grow_within rfl⟩, trivial⟩ (okH_grow (fun _ => rfl) rfl rfl (okH_list rfl rfl rfl (okH_nil))) rfl⟩
       ·
        replace hR := of_false h40 hR
        refine Awp.exit ?_
        refine Awp.consP C ?_
        refine rvP C (sS (some out3.isEmpty) (eI .i64) out3) ?_
        refine rvP C (sS (some out3.isEmpty) (eI .i64) out3) ?_
        refine rvP C (.pv (.lit (.int .i64 0))) ?_
        refine rvc_nil ?_
        refine Awp.ret ?_
        subst hR
        exact ⟨.inl rfl, rfl⟩
      ·
       refine Awp.wordsR [(4, .pv (.lit (.int .i64 many))), (12, .sl 900 0 l.length 1 false), (16, .sl 904 0 out3.length 1 false)] [(904, .cells (encC (eI .i64) out3)), (900, .cells (encC (eI .i64) l))] [900, 904] (WeakerR.ofL (Ks := [900, 904]) hI ⟨⟨rfl, rfl⟩, ⟨rfl, rfl⟩, ⟨(by exact grow_at_cons (b := 904) (b' := 904) (e := (eI .i64)) (l := out3) rfl h39 rfl rfl rfl), rfl⟩, trivial⟩ (okH_list (look_cons h39 rfl) rfl rfl (okH_list (look_cons h39 rfl) rfl rfl (okH_nil))) rfl) ?_
       refine Awp.seq ?_
       refine Awp.consP C ?_
       refine rvP C (.sl 904 0 out3.length 1 false) ?_
       refine rvP C (.pv (.lit (.int .i64 (out3.length : Int)))) ?_
       refine rvP C (.pv (.lit (.int .i64 many))) ?_
       refine rvP C (.pv (.lit (.bool (decide ((out3.length : Int) < many))))) ?_
       refine rvc_nil ?_
       refine Awp.cond (b := (decide ((out3.length : Int) < many))) rfl (fun h53 => ?_) (fun h53 => ?_)
       ·
        replace hR := of_true h53 hR
        refine Awp.skip ?_
        refine Awp.block ?_
        refine Awp.consP C ?_
        refine rvP C (.sl 900 0 l.length 1 false) ?_
        refine rvP C (.pv (.lit (.int .i64 (l.length : Int)))) ?_
        refine rvP C (.pv (.lit (.int .i64 0))) ?_
        refine rvc_nil ?_
        refine Awp.block ?_
        refine Awp.forR (σ := ((List Int))) (l.length) (fun i4 v => [(4, .pv (.lit (.int .i64 many))), (12, .sl 900 0 l.length 1 false), (16, .sl 906 0 v.length 1 false), (56, .sl 900 0 l.length 1 false), (57, .pv (.lit (.int .i64 (l.length : Int)))), (58, .pv (.lit (.int .i64 (i4 : Int))))]) (fun i4 v => [(900, .cells (encC (eI .i64) l)), (906, .cells (encC (eI .i64) v))]) [900, 906] (fun i4 v => (rTriesW_l2 many (fun out5 => rTriesW_l1 many l n_ out5) (l.drop i4) i4 v = R) ∧ (v.length = min many.toNat ((out3 : List Int).length + i4)) ∧ (v ≠ [] ∧ v.length ≤ out3.length + i4)) out3 ?_ ?_ (fun i4 out5 h54 hR => ?_)
        · exact ⟨hR, (by have h_ := of_decide_eq_true ‹decide (_ < many) = true›; omega), ⟨h39, (by first | omega | (simp <;> omega))⟩⟩
        · exact ⟨fun b => bif b == 906 then 904 else (fun b => b) b, WeakerR.ofL (Ks := [900, 906]) hI ⟨⟨rfl, rfl⟩, ⟨rfl, rfl⟩, ⟨rfl, rfl⟩, ⟨rfl, rfl⟩, ⟨rfl, rfl⟩, ⟨rfl, rfl⟩, trivial⟩ (okH_list rfl rfl rfl (okH_list rfl rfl rfl (okH_nil))) rfl⟩
        obtain ⟨hR, hV, ⟨hn_out5, hi_out5⟩⟩ := hR
        replace hi_out5 : out5.length ≤ out3.length + i4 := hi_out5
        refine Awp.consP C ?_
        refine rvP C (.pv (.lit (.bool (decide ((i4 : Int) < (l.length : Int)))))) ?_
        refine rvc_nil ?_
        refine Awp.seq ?_
        refine Awp.cond (b := (decide ((i4 : Int) < (l.length : Int)))) rfl (fun h55 => ?_) (fun h55 => ?_)
        ·
         have h56 : i4 < l.length := by have := of_decide_eq_true h55; omega
         obtain ⟨x4, h57⟩ := getX h56
         rw [drop_at h57] at hR
         refine Awp.skip ?_
         refine Awp.seq ?_
         refine Awp.block ?_
         refine Awp.consP C ?_
         refine rvc_un (rexec_prim C (δ := { v := .ptr 900 (0 + i4 * 1) }) rfl rfl rfl rfl ⟨(by have := eq_of_bne_false h1; have := of_decide_eq_false h2; have := of_decide_eq_false h3; have := of_decide_eq_false h33; have := of_decide_eq_true h53; have := of_decide_eq_true h55; omega), getlt h57 (by first | rfl | omega | (have := eq_of_bne_false h1; have := of_decide_eq_false h2; have := of_decide_eq_false h3; have := of_decide_eq_false h33; have := of_decide_eq_true h53; have := of_decide_eq_true h55; omega)) (by first | rfl | omega | simp)⟩ rfl ?_)
         refine rvc_un (rexec_loadE C (e := (eI .i64)) i4 0 x4 (.pv (.lit (.int .i64 x4))) rfl rfl rfl rfl h57 (by simp [eI]) (by decide) (by decide) rfl ?_)
         refine rvP C (.pv (.lit (.int .i64 x4))) ?_
         refine rvc_nil ?_
         refine Awp.consP C ?_
         refine rvP C (.sl 906 0 out5.length 1 false) ?_
         refine rvP C (.pv (.lit (.int .i64 (out5.length : Int)))) ?_
         refine rvP C (.pv (.lit (.int .i64 many))) ?_
         refine rvP C (.pv (.lit (.bool (decide ((out5.length : Int) < many))))) ?_
         refine rvc_nil ?_
         refine Awp.cond (b := (decide ((out5.length : Int) < many))) rfl (fun h58 => ?_) (fun h58 => ?_)
         ·
          replace hR := of_true h58 hR
          refine Awp.regionP C ?_
          refine rvP C (.sl 906 0 out5.length 1 false) ?_
          refine rvP C (.pv (.lit (.int .i64 x4))) ?_
          refine rvc_un (rexec_buildSliceF C (eI .i64) [x4] rfl rfl rfl rfl rfl rfl rfl (by decide) rfl ?_)
          refine rvc_un (rexec_append C rfl rfl rfl rfl rfl rfl rfl rfl (fun _ h => by cases h) rfl (en := (eI .i64)) (D0 := out5) (D := [x4]) rfl rfl rfl rfl (by have := eq_of_bne_false h1; have := of_decide_eq_false h2; have := of_decide_eq_false h3; have := of_decide_eq_false h33; have := of_decide_eq_true h53; have := of_decide_eq_true h55; have := of_decide_eq_true h58; first | omega | (simp <;> omega)) (by decide) (nn := (out5 ++ [x4]).length) (by simp) ?_)
          refine rvP C (.sl 69 0 ((out5 ++ [x4]).length) 1 false) ?_
          refine rvc_nil ?_
          refine Awp.regionP C ?_
          refine rvP C (.pv (.lit (.int .i64 (IntKind.i64.wrap ((i4 : Int) + 1))))) ?_
          refine rvP C (.pv (.lit (.int .i64 (IntKind.i64.wrap ((i4 : Int) + 1))))) ?_
          refine rvc_nil ?_
          refine ⟨h56, (out5 ++ [x4]), ?_, ?_⟩
          · exact ⟨hR, (by (try simp only [List.length_append, List.length_singleton]); first | (have h_ := of_decide_eq_true ‹decide (_ < many) = true›; omega) | (have h_ := of_decide_eq_false ‹decide (_ < many) = false›; omega)), ⟨app_ne, (by first | omega | (simp <;> omega))⟩⟩
          · exact ⟨fun b => bif b == 906 then 69 else (fun b => b) b, WeakerR.ofL (Ks := [900, 906]) hI ⟨⟨rfl, rfl⟩, ⟨rfl, rfl⟩, ⟨rfl, rfl⟩, ⟨rfl, rfl⟩, ⟨rfl, rfl⟩, ⟨lit_cast (wrap_i64 (by omega) (by omega)), rfl⟩, trivial⟩ (okH_list rfl rfl rfl (okH_list rfl rfl rfl (okH_nil))) rfl⟩
         ·
          replace hR := of_false h58 hR
          refine Awp.skip ?_
          refine Awp.regionP C ?_
          refine rvP C (.pv (.lit (.int .i64 (IntKind.i64.wrap ((i4 : Int) + 1))))) ?_
          refine rvP C (.pv (.lit (.int .i64 (IntKind.i64.wrap ((i4 : Int) + 1))))) ?_
          refine rvc_nil ?_
          refine ⟨h56, out5, ?_, ?_⟩
          · exact ⟨hR, (by (try simp only [List.length_append, List.length_singleton]); first | (have h_ := of_decide_eq_true ‹decide (_ < many) = true›; omega) | (have h_ := of_decide_eq_false ‹decide (_ < many) = false›; omega)), ⟨hn_out5, (by first | omega | (simp <;> omega))⟩⟩
          · exact ⟨fun b => b, WeakerR.ofL (Ks := [900, 906]) hI ⟨⟨rfl, rfl⟩, ⟨rfl, rfl⟩, ⟨rfl, rfl⟩, ⟨rfl, rfl⟩, ⟨rfl, rfl⟩, ⟨lit_cast (wrap_i64 (by omega) (by omega)), rfl⟩, trivial⟩ (okH_list rfl rfl rfl (okH_list rfl rfl rfl (okH_nil))) rfl⟩
        ·
         have h56 : ¬ i4 < l.length := by have := of_decide_eq_false h55; omega
         rw [drop_end h56] at hR
         refine Awp.exit ?_
         have h59 : (many.toNat - (out5 : List Int).length) < (many.toNat - (out3 : List Int).length) := by (have h_ := of_decide_eq_true ‹decide (_ < many) = true›; omega)
         obtain ⟨nn, rfl⟩ : ∃ nn, n_ = nn + 1 := ⟨n_ - 1, by omega⟩
         refine ⟨nn, out5, by omega, ⟨by show (many.toNat - (out5 : List Int).length) ≤ nn; omega, hR⟩, ?_⟩
         · exact ⟨fun b => bif b == 904 then 906 else (fun b => b) b, WeakerR.ofL (Ks := [900, 904]) hI ⟨⟨rfl, rfl⟩, ⟨rfl, rfl⟩, ⟨grow_to rfl rfl hn_out5 rfl rfl, grow_within rfl⟩, trivial⟩ (okH_grow (fun _ => rfl) rfl rfl (okH_list rfl rfl rfl (okH_nil))) rfl⟩
       ·
        replace hR := of_false h53 hR
        refine Awp.exit ?_
        refine Awp.consP C ?_
        refine rvP C (.sl 904 0 out3.length 1 false) ?_
        refine rvP C (.sl 904 0 out3.length 1 false) ?_
        refine rvP C (.pv (.lit (.int .i64 0))) ?_
        refine rvc_nil ?_
        refine Awp.freezeW 904 (encL (eI .i64) out3) ?_ [(10, sS (some out3.isEmpty) (eI .i64) out3), (11, .pv (.lit (.int .i64 0)))] [(900, .cells (encC (eI .i64) l))] ?_ ?_ ?_
        · rfl
        · exact ⟨⟨_, rfl, .inl (.inr ⟨_, _, _, rfl, by rw [ne_isEmpty h39]; rfl⟩)⟩, ⟨_, rfl, .inl (.inl rfl)⟩, trivial⟩
        · exact ⟨⟨(by show (900 : Nat) ≠ 904; decide), .inl rfl⟩, trivial⟩
        refine Awp.ret ?_
        subst hR
        exact ⟨.inl rfl, rfl⟩
      -- !! two models: ('(bif (decide ((out3.length : Int) < many)) then rTriesW_l2 many (fun out4 => rTriesW_l1 many l nn out4) l 0 out3 else ((Sl.mk out3.isEmpty out3), 0))', '') ||| ('(bif (decide ((out3.length : Int) < many)) then rTriesW_l2 many (fun out5 => rTriesW_l1 many l nn out5) l 0 out3 else ((Sl.mk out3.isEmpty out3), 0))', '')
end Go.Proofs.Ytihccnkegkkikaa
/- Whom one asks: round and round. No conditions. -/
namespace Go.Proofs.Ytihccnkegkkikaa
open Go.Am
def cyc (l : List Int) (n : Nat) : List Int := (List.range n).map fun i => l[i % l.length]!
theorem cyc_succ (l : List Int) (n : Nat) : cyc l (n + 1) = cyc l n ++ [l[n % l.length]!] := by
  unfold cyc
  rw [List.range_succ, List.map_append]; rfl
theorem cyc_len (l : List Int) (n : Nat) : (cyc l n).length = n := by unfold cyc; simp
theorem tm_nat (i n : Nat) : ((i : Int).tmod (n : Int)).toNat = i % n := by
  rw [Int.tmod_eq_emod_of_nonneg (by omega)]
  omega
theorem tries_w {c : Chain} (hc : check c = 0) : ∀ (k i : Nat), tries_l0 c k i (cyc (fullNodes c) i) = (Sl.mk (cyc (fullNodes c) (i + k)).isEmpty (cyc (fullNodes c) (i + k)), 0)
  | 0, i => rfl
  | k + 1, i => by
    unfold tries_l0
    have h1 : (sortInts (allO (whole c)) (fun x0 x1 => triesF x0 x1 c)) = fullNodes c := tries_list hc
    have h2 : (allO (whole c)).length = (fullNodes c).length := (all_perm hc).length_eq
    rw [h1, h2, tm_nat, ← cyc_succ, tries_w hc k (i + 1), show i + 1 + k = i + (k + 1) by omega]
theorem tries_r (nr : Sl Int × Int) : ∀ (k i : Nat), tries_l0b nr k i (cyc nr.1.D i) = (Sl.mk (cyc nr.1.D (i + k)).isEmpty (cyc nr.1.D (i + k)), 0)
  | 0, i => rfl
  | k + 1, i => by
    unfold tries_l0b
    rw [tm_nat, ← cyc_succ, tries_r nr k (i + 1), show i + 1 + k = i + (k + 1) by omega]
theorem loop_in {f : List Int → Nat → List Int → Sl Int × Int} {many : Int} {m : Nat} (hm : many = (m : Int)) {kk : List Int → Sl Int × Int} (h0 : ∀ i out, f [] i out = kk out) (h1 : ∀ x xs i out, f (x :: xs) i out = bif decide ((out.length : Int) < many) then f xs (i + 1) (out ++ [x]) else f xs (i + 1) out)
    {l : List Int} {base : Nat} (hb : base % l.length = 0) : ∀ (xs : List Int) (i j : Nat), xs = l.drop i → i ≤ l.length → f xs j (cyc l (min m (base + i))) = kk (cyc l (min m (base + l.length)))
  | [], i, j, hx, hi => by
    have : l.length ≤ i := by
      have := congrArg List.length hx
      rw [List.length_drop] at this
      simp only [List.length_nil] at this; omega
    rw [h0, show i = l.length by omega]
  | x :: xs, i, j, hx, hi => by
    have hlt : i < l.length := by
      have := congrArg List.length hx
      rw [List.length_drop, List.length_cons] at this; omega
    have hxi : l[i]? = some x := by
      have := congrArg (fun z => z[0]?) hx
      rw [List.getElem?_drop] at this
      exact this.symm
    have hxs : xs = l.drop (i + 1) := by
      have := congrArg List.tail hx
      rw [List.tail_drop] at this
      exact this
    rw [h1, cyc_len, hm]
    by_cases h : base + i < m
    · rw [decide_eq_true (by omega), cond_true]
      have e1 : min m (base + i) = base + i := by omega
      have e2 : (base + i) % l.length = i := by rw [Nat.add_mod, hb, Nat.zero_add, Nat.mod_mod, Nat.mod_eq_of_lt hlt]
      have e3 : l[i]! = x := by rw [List.getElem!_eq_getElem?_getD, hxi]; rfl
      have e4 : cyc l (min m (base + i)) ++ [x] = cyc l (min m (base + (i + 1))) := by
        rw [e1, show min m (base + (i + 1)) = base + i + 1 by omega, cyc_succ, e2, e3]
      rw [e4]
      exact loop_in hm h0 h1 hb xs (i + 1) (j + 1) hxs (by omega)
    · rw [decide_eq_false (by omega), cond_false, show min m (base + i) = min m (base + (i + 1)) by omega]
      exact loop_in hm h0 h1 hb xs (i + 1) (j + 1) hxs (by omega)
theorem loop_out {g : Nat → List Int → Sl Int × Int} {fin : (List Int → Sl Int × Int) → List Int → Nat → List Int → Sl Int × Int} {many : Int} {m : Nat} (hm : many = (m : Int)) {l : List Int} (hl : 0 < l.length)
    (hf : ∀ kk, (∀ i out, fin kk [] i out = kk out) ∧ ∀ x xs i out, fin kk (x :: xs) i out = bif decide ((out.length : Int) < many) then fin kk xs (i + 1) (out ++ [x]) else fin kk xs (i + 1) out)
    (hg : ∀ n out, g (n + 1) out = bif decide ((out.length : Int) < many) then fin (fun o => g n o) l 0 out else (Sl.mk out.isEmpty out, 0)) :
    ∀ (n base : Nat), base % l.length = 0 → m - min m base < n → g n (cyc l (min m base)) = (Sl.mk (cyc l m).isEmpty (cyc l m), 0)
  | 0, _, _, h => absurd h (Nat.not_lt_zero _)
  | n + 1, base, hb, h => by
    rw [hg, cyc_len, hm]
    by_cases hlt : base < m
    · rw [decide_eq_true (by omega), cond_true]
      obtain ⟨f0, f1⟩ := hf (fun o => g n o)
      have := loop_in hm f0 f1 hb l 0 0 (by simp) (Nat.zero_le _)
      rw [Nat.add_zero] at this
      rw [this]
      exact loop_out hm hl hf hg n (base + l.length) (by rw [Nat.add_mod, hb, Nat.mod_self]; simp) (by omega)
    · rw [decide_eq_false (by omega), cond_false, show min m base = m by omega]
theorem full_l0 (many : Int) : ∀ (xs : List Member) (i : Nat) (l : List Int), rTriesW_l0 many xs i l = rTriesW_l1 many (l ++ (xs.filter fun m => !m.fresh).map (·.node)) (many.toNat + 1) []
  | [], _, l => by unfold rTriesW_l0; simp
  | x :: xs, i, l => by
    unfold rTriesW_l0
    cases hf : x.fresh
    · rw [Bool.not_false, cond_true, full_l0 many xs, List.filter_cons, hf]; simp
    · rw [Bool.not_true, cond_false, full_l0 many xs, List.filter_cons, hf]; simp
def rTries (c : Chain) (w : Nat → Nat → Int) (from_ : Int) (write : Bool) (many : Int) : Sl Int × Int := bif write then rTriesW c w from_ write many else rTriesR c w from_ write many
theorem tries_eq (c : Chain) (w : Nat → Nat → Int) (f : Int) (write : Bool) (many : Int) : tries c w f write many = rTries c w f write many ∧ (tries c w f write many).1.D.length ≤ 24 ∧ ((tries c w f write many).2 = 0 → ((tries c w f write many).1.D.length : Int) = many) := by
  unfold tries rTries rTriesW rTriesR
  rw [← near_eq]
  cases h : ((near c w f).2 != 0)
  case true =>
    have h0 : (near c w f).2 ≠ 0 := by simpa using h
    cases write <;> exact ⟨rfl, Nat.zero_le _, fun h => absurd h h0⟩
  have hn0 := eq_of_bne_false h
  have hc := (able_ok (near_ok hn0)).1
  by_cases h1 : many < 0
  · rw [decide_eq_true h1]
    cases write <;> exact ⟨rfl, Nat.zero_le _, fun h => by cases h⟩
  · by_cases h2 : many > 24
    · rw [decide_eq_false h1, decide_eq_true h2]
      cases write <;> exact ⟨rfl, Nat.zero_le _, fun h => by cases h⟩
    · rw [decide_eq_false h1, decide_eq_false h2]
      obtain ⟨m, rfl⟩ : ∃ m : Nat, many = (m : Int) := ⟨many.toNat, by omega⟩
      cases write
      · have e1 := tries_r (near c w f) m 0
        have e2 := loop_out (g := rTriesR_l0 (m : Int) (near c w f)) (fin := rTriesR_l1 (m : Int)) rfl (near_pos hn0) (fun kk => ⟨fun _ _ => rfl, fun _ _ _ _ => rfl⟩) (fun _ _ => rfl) (m + 1) 0 (by simp) (by omega)
        rw [show min m 0 = 0 by omega] at e2
        simp only [cond_false, Int.toNat_natCast]
        rw [show ([] : List Int) = cyc (near c w f).1.D 0 from rfl, e1, show (m - (cyc (near c w f).1.D 0).length) + 1 = m + 1 by rw [cyc_len]; omega, e2, Nat.zero_add]
        exact ⟨rfl, by show (cyc _ m).length ≤ 24; rw [cyc_len]; omega, fun _ => by show ((cyc _ m).length : Int) = _; rw [cyc_len]⟩
      · have e1 := tries_w hc m 0
        have e2 := loop_out (g := rTriesW_l1 (m : Int) (fullNodes c)) (fin := rTriesW_l2 (m : Int)) rfl (full_len hc).1 (fun kk => ⟨fun _ _ => rfl, fun _ _ _ _ => rfl⟩) (fun _ _ => rfl) (m + 1) 0 (by simp) (by omega)
        rw [show min m 0 = 0 by omega] at e2
        simp only [cond_false, cond_true, Int.toNat_natCast]
        rw [full_l0, List.nil_append, Int.toNat_natCast, show ((c.members.D.filter fun m => !m.fresh).map (·.node)) = fullNodes c from rfl]
        rw [show ([] : List Int) = cyc (fullNodes c) 0 from rfl, e1, e2, Nat.zero_add]
        exact ⟨rfl, by show (cyc _ m).length ≤ 24; rw [cyc_len]; omega, fun _ => by show ((cyc _ m).length : Int) = _; rw [cyc_len]⟩
theorem tries_len (c : Chain) (w : Nat → Nat → Int) (f : Int) (write : Bool) (many : Int) : (tries c w f write many).1.D.length ≤ 24 := (tries_eq c w f write many).2.1
end Go.Proofs.Ytihccnkegkkikaa
/- The reference: whom one asks. No conditions. -/
namespace Go.Proofs.Ytihccnkegkkikaa
open Go.Am
theorem rTries_calls (c : Chain) (w : (Nat → (Nat → Int))) (from_ : Int) (write : Bool) (many : Int) (hl1 : c.members.D.length ≤ 1000000) : PCalls Try.prog 36 [.agg [.pv (.lit (.int .i64 c.epoch)), sS (some c.members.nil) eMember c.members.D], .agg [.pv (.lit (.int .i64 ((w 0) 0))), .pv (.lit (.int .i64 ((w 0) 1))), .pv (.lit (.int .i64 ((w 0) 2))), .pv (.lit (.int .i64 ((w 1) 0))), .pv (.lit (.int .i64 ((w 1) 1))), .pv (.lit (.int .i64 ((w 1) 2))), .pv (.lit (.int .i64 ((w 2) 0))), .pv (.lit (.int .i64 ((w 2) 1))), .pv (.lit (.int .i64 ((w 2) 2)))], .pv (.lit (.int .i64 from_)), .pv (.lit (.bool write)), .pv (.lit (.int .i64 many))] (.tup [sS (some (rTries c w from_ write many).1.nil) (eI .i64) ((rTries c w from_ write many).1.D), .pv (.lit (.int .i64 ((rTries c w from_ write many).2)))]) := by
  cases hwr : write
  · rw [hwr] at *
    exact rTriesR_calls c w from_ false many rfl hl1
  · rw [hwr] at *
    exact rTriesW_calls c w from_ true many rfl hl1
end Go.Proofs.Ytihccnkegkkikaa
/- Law: whom one asks. No conditions. -/
namespace Go.Proofs.Ytihccnkegkkikaa
open Go.Am
def lawTries (c : Chain) (w : (Nat → (Nat → Int))) (from_ : Int) (write : Bool) (n : Int) : Bool :=
  (bif (decide ((c.members.D.length : Int) > 60)) then (awake ) else (bif (eqInts (tries c w from_ write n).1 (rTries c w from_ write n).1) then (bif ((tries c w from_ write n).2 == (rTries c w from_ write n).2) then (bif ((tries c w from_ write n).2 != 0) then (awake ) else (bif (((tries c w from_ write n).1.D.length : Int) == n) then (awake ) else false)) else false) else false))
theorem lawTries_calls (c : Chain) (w : (Nat → (Nat → Int))) (from_ : Int) (write : Bool) (n : Int) (hn : c.members.nil = true → c.members.D = []) (hl1 : c.members.D.length ≤ 1000000) : PCalls Try.prog 10 [.agg [.pv (.lit (.int .i64 c.epoch)), sS (some c.members.nil) eMember c.members.D], .agg [.pv (.lit (.int .i64 ((w 0) 0))), .pv (.lit (.int .i64 ((w 0) 1))), .pv (.lit (.int .i64 ((w 0) 2))), .pv (.lit (.int .i64 ((w 1) 0))), .pv (.lit (.int .i64 ((w 1) 1))), .pv (.lit (.int .i64 ((w 1) 2))), .pv (.lit (.int .i64 ((w 2) 0))), .pv (.lit (.int .i64 ((w 2) 1))), .pv (.lit (.int .i64 ((w 2) 2)))], .pv (.lit (.int .i64 from_)), .pv (.lit (.bool write)), .pv (.lit (.int .i64 n))] (.pv (.lit (.bool (lawTries c w from_ write n)))) := by
 generalize hR : lawTries c w from_ write n = R
 refine PCalls.of_body tabOk Try.func10 rfl rfl rfl rfl rfl mixed fun E hP C hI => ?_
 refine Awp.consP C ?_
 refine rvc_un (rexec_prim C (δ := { v := .ptr 5 0, new := [(5, .cells [.pv (.lit (.int .i64 c.epoch)), sS (some c.members.nil) eMember c.members.D])] }) rfl rfl rfl rfl trivial rfl ?_)
 refine rvc_un (rexec_prim C (δ := { v := .ptr 6 0, new := [(6, .cells [.pv (.lit (.int .i64 ((w 0) 0))), .pv (.lit (.int .i64 ((w 0) 1))), .pv (.lit (.int .i64 ((w 0) 2))), .pv (.lit (.int .i64 ((w 1) 0))), .pv (.lit (.int .i64 ((w 1) 1))), .pv (.lit (.int .i64 ((w 1) 2))), .pv (.lit (.int .i64 ((w 2) 0))), .pv (.lit (.int .i64 ((w 2) 1))), .pv (.lit (.int .i64 ((w 2) 2)))])] }) rfl rfl rfl rfl trivial rfl ?_)
 refine rvP C (.pv (.lit (.bool false))) ?_
 refine rvc_nil ?_
 refine Awp.seq ?_
 refine Awp.consP C ?_
 refine rvP C (.ptr 5 1) ?_
 refine rvP C (sS (some c.members.nil) eMember c.members.D) ?_
 refine rvP C (.pv (.lit (.int .i64 (c.members.D.length : Int)))) ?_
 refine rvP C (.pv (.lit (.bool (decide ((c.members.D.length : Int) > 60))))) ?_
 refine rvc_nil ?_
 refine Awp.cond (b := (decide ((c.members.D.length : Int) > 60))) rfl (fun h1 => ?_) (fun h1 => ?_)
 ·
  replace hR := of_true h1 hR
  refine Awp.consP C ?_
  obtain ⟨aw, hq_aw⟩ : ∃ q_, q_ = (awake ) := ⟨_, rfl⟩
  have hc_aw := (awake_calls )
  first | rw [← hq_aw] at hR hc_aw | (unfold lawTries at hR; rw [← hq_aw] at hR hc_aw)
  refine rvc_un (rexec_call hP C rfl rfl rfl hc_aw ?_)
  refine rvP C (.pv (.lit (.bool aw))) ?_
  refine rvc_nil ?_
  refine Awp.ret ?_
  subst hR
  exact ⟨.inl rfl, rfl⟩
 ·
  replace hR := of_false h1 hR
  refine Awp.skip ?_
  refine Awp.consP C ?_
  refine rvP C (.agg [.pv (.lit (.int .i64 c.epoch)), sS (some c.members.nil) eMember c.members.D]) ?_
  refine rvP C (.agg [.pv (.lit (.int .i64 ((w 0) 0))), .pv (.lit (.int .i64 ((w 0) 1))), .pv (.lit (.int .i64 ((w 0) 2))), .pv (.lit (.int .i64 ((w 1) 0))), .pv (.lit (.int .i64 ((w 1) 1))), .pv (.lit (.int .i64 ((w 1) 2))), .pv (.lit (.int .i64 ((w 2) 0))), .pv (.lit (.int .i64 ((w 2) 1))), .pv (.lit (.int .i64 ((w 2) 2)))]) ?_
  refine rvP C (.pv (.lit (.int .i64 from_))) ?_
  refine rvP C (.pv (.lit (.bool write))) ?_
  refine rvP C (.pv (.lit (.int .i64 n))) ?_
  obtain ⟨ta, hq_ta⟩ : ∃ q_, q_ = (tries c w from_ write n) := ⟨_, rfl⟩
  have hc_ta := (tries_calls c w from_ write n hn hl1)
  first | rw [← hq_ta] at hR hc_ta | (unfold lawTries at hR; rw [← hq_ta] at hR hc_ta)
  have hf0_ta := tries_len c w from_ write n
  rw [← hq_ta] at hf0_ta
  refine rvc_un (rexec_call hP C rfl rfl rfl hc_ta ?_)
  refine rvP C (.tup [sS (some ta.1.nil) (eI .i64) ta.1.D, .pv (.lit (.int .i64 ta.2))]) ?_
  refine rvP C (sS (some ta.1.nil) (eI .i64) ta.1.D) ?_
  refine rvP C (.pv (.lit (.int .i64 ta.2))) ?_
  refine rvP C (sS (some ta.1.nil) (eI .i64) ta.1.D) ?_
  refine rvP C (.pv (.lit (.int .i64 ta.2))) ?_
  refine rvc_nil ?_
  refine Awp.consP C ?_
  refine rvP C (.agg [.pv (.lit (.int .i64 c.epoch)), sS (some c.members.nil) eMember c.members.D]) ?_
  refine rvP C (.agg [.pv (.lit (.int .i64 ((w 0) 0))), .pv (.lit (.int .i64 ((w 0) 1))), .pv (.lit (.int .i64 ((w 0) 2))), .pv (.lit (.int .i64 ((w 1) 0))), .pv (.lit (.int .i64 ((w 1) 1))), .pv (.lit (.int .i64 ((w 1) 2))), .pv (.lit (.int .i64 ((w 2) 0))), .pv (.lit (.int .i64 ((w 2) 1))), .pv (.lit (.int .i64 ((w 2) 2)))]) ?_
  refine rvP C (.pv (.lit (.int .i64 from_))) ?_
  refine rvP C (.pv (.lit (.bool write))) ?_
  refine rvP C (.pv (.lit (.int .i64 n))) ?_
  obtain ⟨tb, hq_tb⟩ : ∃ q_, q_ = (rTries c w from_ write n) := ⟨_, rfl⟩
  have hc_tb := (rTries_calls c w from_ write n hl1)
  first | rw [← hq_tb] at hR hc_tb | (unfold lawTries at hR; rw [← hq_tb] at hR hc_tb)
  refine rvc_un (rexec_call hP C rfl rfl rfl hc_tb ?_)
  refine rvP C (.tup [sS (some tb.1.nil) (eI .i64) tb.1.D, .pv (.lit (.int .i64 tb.2))]) ?_
  refine rvP C (sS (some tb.1.nil) (eI .i64) tb.1.D) ?_
  refine rvP C (.pv (.lit (.int .i64 tb.2))) ?_
  refine rvP C (sS (some tb.1.nil) (eI .i64) tb.1.D) ?_
  refine rvP C (.pv (.lit (.int .i64 tb.2))) ?_
  refine rvc_nil ?_
  refine Awp.consP C ?_
  refine rvP C (sS (some ta.1.nil) (eI .i64) ta.1.D) ?_
  refine rvP C (sS (some tb.1.nil) (eI .i64) tb.1.D) ?_
  refine rvc_un (rexec_call hP C rfl rfl rfl (eqInts_calls ta.1 tb.1 (Nat.le_trans hf0_ta (by decide))) ?_)
  refine rvP C (.pv (.lit (.bool (eqInts ta.1 tb.1)))) ?_
  refine rvc_case 41 (eqInts ta.1 tb.1) rfl (fun h2 => ?_) (fun h2 => ?_)
  ·
   replace hR := of_true h2 hR
   refine rvO C (.pv (.lit (.int .i64 ta.2))) ?_
   refine rvO C (.pv (.lit (.int .i64 tb.2))) ?_
   refine rvO C (.pv (.lit (.bool (ta.2 == tb.2)))) ?_
   refine rvP C (.pv (.lit (.bool (ta.2 == tb.2)))) ?_
   refine rvP C (.pv (.lit (.bool (ta.2 == tb.2)))) ?_
   refine rvc_case 46 (ta.2 == tb.2) rfl (fun h3 => ?_) (fun h3 => ?_)
   ·
    replace hR := of_true h3 hR
    refine rvO C (.pv (.lit (.int .i64 ta.2))) ?_
    refine rvO C (.pv (.lit (.bool (ta.2 != 0)))) ?_
    refine rvO C (.pv (.lit (.bool (ta.2 != 0)))) ?_
    refine rvc_case 49 (ta.2 != 0) rfl (fun h4 => ?_) (fun h4 => ?_)
    ·
     replace hR := of_true h4 hR
     refine rvS ?_
     refine rvS ?_
     refine rvS ?_
     refine rvS ?_
     refine rvO C (.pv (.lit (.bool true))) ?_
     refine rvP C (.pv (.lit (.bool true))) ?_
     refine rvP C (.pv (.lit (.bool true))) ?_
     obtain ⟨aw1, hq_aw1⟩ : ∃ q_, q_ = (awake ) := ⟨_, rfl⟩
     have hc_aw1 := (awake_calls )
     first | rw [← hq_aw1] at hR hc_aw1 | (unfold lawTries at hR; rw [← hq_aw1] at hR hc_aw1)
     refine rvc_open rfl rfl rfl (rexec_call hP C rfl rfl rfl hc_aw1 ?_)
     refine rvP C (.pv (.lit (.bool aw1))) ?_
     refine rvP C (.pv (.lit (.bool aw1))) ?_
     refine rvc_nil ?_
     refine Awp.ret ?_
     subst hR
     exact ⟨.inl rfl, rfl⟩
    ·
     replace hR := of_false h4 hR
     refine rvO C (sS (some ta.1.nil) (eI .i64) ta.1.D) ?_
     refine rvO C (.pv (.lit (.int .i64 (ta.1.D.length : Int)))) ?_
     refine rvO C (.pv (.lit (.int .i64 n))) ?_
     refine rvO C (.pv (.lit (.bool ((ta.1.D.length : Int) == n)))) ?_
     refine rvO C (.pv (.lit (.bool ((ta.1.D.length : Int) == n)))) ?_
     refine rvP C (.pv (.lit (.bool ((ta.1.D.length : Int) == n)))) ?_
     refine rvP C (.pv (.lit (.bool ((ta.1.D.length : Int) == n)))) ?_
     refine rvc_case 56 ((ta.1.D.length : Int) == n) rfl (fun h5 => ?_) (fun h5 => ?_)
     ·
      replace hR := of_true h5 hR
      obtain ⟨aw2, hq_aw2⟩ : ∃ q_, q_ = (awake ) := ⟨_, rfl⟩
      have hc_aw2 := (awake_calls )
      first | rw [← hq_aw2] at hR hc_aw2 | (unfold lawTries at hR; rw [← hq_aw2] at hR hc_aw2)
      refine rvc_open rfl rfl rfl (rexec_call hP C rfl rfl rfl hc_aw2 ?_)
      refine rvP C (.pv (.lit (.bool aw2))) ?_
      refine rvP C (.pv (.lit (.bool aw2))) ?_
      refine rvc_nil ?_
      refine Awp.ret ?_
      subst hR
      exact ⟨.inl rfl, rfl⟩
     ·
      replace hR := of_false h5 hR
      refine rvS ?_
      refine rvP C (.pv (.lit (.bool false))) ?_
      refine rvP C (.pv (.lit (.bool false))) ?_
      refine rvc_nil ?_
      refine Awp.ret ?_
      subst hR
      exact ⟨.inl rfl, rfl⟩
   ·
    replace hR := of_false h3 hR
    refine rvS ?_
    refine rvS ?_
    refine rvS ?_
    refine rvc_shutU rfl rfl rfl ?_
    refine rvc_shutU rfl rfl rfl ?_
    refine rvc_shutU rfl rfl rfl ?_
    refine rvc_shutU rfl rfl rfl ?_
    refine rvS ?_
    refine rvP C (.pv (.lit (.bool false))) ?_
    refine rvP C (.pv (.lit (.bool false))) ?_
    refine rvS ?_
    refine rvP C (.pv (.lit (.bool false))) ?_
    refine rvP C (.pv (.lit (.bool false))) ?_
    refine rvc_nil ?_
    refine Awp.ret ?_
    subst hR
    exact ⟨.inl rfl, rfl⟩
  ·
   replace hR := of_false h2 hR
   refine rvS ?_
   refine rvS ?_
   refine rvS ?_
   refine rvP C (.pv (.lit (.bool false))) ?_
   refine rvP C (.pv (.lit (.bool false))) ?_
   refine rvS ?_
   refine rvS ?_
   refine rvS ?_
   refine rvc_shutU rfl rfl rfl ?_
   refine rvc_shutU rfl rfl rfl ?_
   refine rvc_shutU rfl rfl rfl ?_
   refine rvc_shutU rfl rfl rfl ?_
   refine rvS ?_
   refine rvP C (.pv (.lit (.bool false))) ?_
   refine rvP C (.pv (.lit (.bool false))) ?_
   refine rvS ?_
   refine rvP C (.pv (.lit (.bool false))) ?_
   refine rvP C (.pv (.lit (.bool false))) ?_
   refine rvc_nil ?_
   refine Awp.ret ?_
   subst hR
   exact ⟨.inl rfl, rfl⟩
end Go.Proofs.Ytihccnkegkkikaa
/- Law: whom one asks, of too many. No conditions. -/
namespace Go.Proofs.Ytihccnkegkkikaa
open Go.Am
def biglawTries (_c : Chain) (_w : (Nat → (Nat → Int))) (_from_ : Int) (_write : Bool) (_n : Int) : Bool :=
  (awake )
theorem biglawTries_calls (c : Chain) (w : (Nat → (Nat → Int))) (from_ : Int) (write : Bool) (n : Int) (hbig : (decide ((c.members.D.length : Int) > 60)) = true) : PCalls Try.prog 10 [.agg [.pv (.lit (.int .i64 c.epoch)), sS (some c.members.nil) eMember c.members.D], .agg [.pv (.lit (.int .i64 ((w 0) 0))), .pv (.lit (.int .i64 ((w 0) 1))), .pv (.lit (.int .i64 ((w 0) 2))), .pv (.lit (.int .i64 ((w 1) 0))), .pv (.lit (.int .i64 ((w 1) 1))), .pv (.lit (.int .i64 ((w 1) 2))), .pv (.lit (.int .i64 ((w 2) 0))), .pv (.lit (.int .i64 ((w 2) 1))), .pv (.lit (.int .i64 ((w 2) 2)))], .pv (.lit (.int .i64 from_)), .pv (.lit (.bool write)), .pv (.lit (.int .i64 n))] (.pv (.lit (.bool (biglawTries c w from_ write n)))) := by
 generalize hR : biglawTries c w from_ write n = R
 refine PCalls.of_body tabOk Try.func10 rfl rfl rfl rfl rfl mixed fun E hP C hI => ?_
 refine Awp.consP C ?_
 refine rvc_un (rexec_prim C (δ := { v := .ptr 5 0, new := [(5, .cells [.pv (.lit (.int .i64 c.epoch)), sS (some c.members.nil) eMember c.members.D])] }) rfl rfl rfl rfl trivial rfl ?_)
 refine rvc_un (rexec_prim C (δ := { v := .ptr 6 0, new := [(6, .cells [.pv (.lit (.int .i64 ((w 0) 0))), .pv (.lit (.int .i64 ((w 0) 1))), .pv (.lit (.int .i64 ((w 0) 2))), .pv (.lit (.int .i64 ((w 1) 0))), .pv (.lit (.int .i64 ((w 1) 1))), .pv (.lit (.int .i64 ((w 1) 2))), .pv (.lit (.int .i64 ((w 2) 0))), .pv (.lit (.int .i64 ((w 2) 1))), .pv (.lit (.int .i64 ((w 2) 2)))])] }) rfl rfl rfl rfl trivial rfl ?_)
 refine rvP C (.pv (.lit (.bool false))) ?_
 refine rvc_nil ?_
 refine Awp.seq ?_
 refine Awp.consP C ?_
 refine rvP C (.ptr 5 1) ?_
 refine rvP C (sS (some c.members.nil) eMember c.members.D) ?_
 refine rvP C (.pv (.lit (.int .i64 (c.members.D.length : Int)))) ?_
 refine rvP C (.pv (.lit (.bool (decide ((c.members.D.length : Int) > 60))))) ?_
 refine rvc_nil ?_
 refine Awp.condT (b := (decide ((c.members.D.length : Int) > 60))) rfl hbig ?_
 refine Awp.consP C ?_
 obtain ⟨aw, hq_aw⟩ : ∃ q_, q_ = (awake ) := ⟨_, rfl⟩
 have hc_aw := (awake_calls )
 first | rw [← hq_aw] at hR hc_aw | (unfold biglawTries at hR; rw [← hq_aw] at hR hc_aw)
 refine rvc_un (rexec_call hP C rfl rfl rfl hc_aw ?_)
 refine rvP C (.pv (.lit (.bool aw))) ?_
 refine rvc_nil ?_
 refine Awp.ret ?_
 subst hR
 exact ⟨.inl rfl, rfl⟩
end Go.Proofs.Ytihccnkegkkikaa
/- Inputs of chapter 13, as plain values. No conditions. -/
namespace Go.Proofs.Ytihccnkegkkikaa
open Go.Am
set_option maxRecDepth 100000 in
theorem flat3 {m : Nat} {ps : List PV} (h : Flat Try.prog (m + 1) 3 ps) : ∃ n, ps = [.lit (.int .i64 n)] ∧ (Lit.int .i64 n).wf = true := by
  unfold Flat at h
  rw [Try.underlying3] at h
  exact h
set_option maxRecDepth 100000 in
theorem flat4 {m : Nat} {ps : List PV} (h : Flat Try.prog (m + 1) 4 ps) : ∃ b, ps = [.lit (.bool b)] ∧ True := by
  unfold Flat at h
  rw [Try.underlying4] at h
  obtain ⟨b, h⟩ := h
  exact ⟨b, h, trivial⟩
def WT35 (x : Member) : Prop := (Lit.int .i64 x.node).wf = true ∧ (Lit.int .i64 x.site).wf = true ∧ True
set_option maxRecDepth 100000 in
theorem flat35 {m : Nat} {ps : List PV} (h : Flat Try.prog (m + 2) 35 ps) : ∃ x : Member, ps = eMember.enc x ∧ WT35 x := by
  unfold Flat at h
  rw [Try.underlying35] at h
  obtain ⟨a0, b0, e0, h0, a1, b1, e1, h1, a2, b2, e2, h2, el⟩ := h
  obtain ⟨x0, rfl, w0⟩ := flat3 (m := m + 0) h0
  obtain ⟨x1, rfl, w1⟩ := flat3 (m := m + 0) h1
  obtain ⟨x2, rfl, w2⟩ := flat4 (m := m + 0) h2
  subst el
  subst e2
  subst e1
  subst e0
  exact ⟨⟨x0, x1, x2⟩, rfl, w0, w1, w2⟩
def WT22 (s : Sl Member) : Prop := s.D.length ≤ maxLen ∧ (s.nil = true → s.D = []) ∧ ∀ x ∈ s.D, WT35 x
set_option maxRecDepth 100000 in
theorem flat22 {m : Nat} {ps : List PV} (h : Flat Try.prog (m + 3) 22 ps) : ∃ s : Sl Member, ps = [.sl (some s.nil) s.D.length (encL eMember s.D)] ∧ WT22 s := by
  unfold Flat at h
  rw [Try.underlying22] at h
  obtain ⟨b, D, rfl, h1, h2, h3⟩ := h
  obtain ⟨D2, e1, e2, e3⟩ := enc_list (e := eMember) (W := fun x => WT35 x) D fun y hy => flat35 (h3 y hy)
  rw [e2, ← e1]
  exact ⟨⟨b, D2⟩, rfl, (by show D2.length ≤ _; rw [e1]; exact h1), (fun hb => by have := h2 hb; rw [this] at e1; exact List.eq_nil_of_length_eq_zero e1), e3⟩
def WT24 (x : Chain) : Prop := (Lit.int .i64 x.epoch).wf = true ∧ WT22 x.members
set_option maxRecDepth 100000 in
theorem flat24 {m : Nat} {ps : List PV} (h : Flat Try.prog (m + 4) 24 ps) : ∃ x : Chain, ps = eChain.enc x ∧ WT24 x := by
  unfold Flat at h
  rw [Try.underlying24] at h
  obtain ⟨a0, b0, e0, h0, a1, b1, e1, h1, el⟩ := h
  obtain ⟨x0, rfl, w0⟩ := flat3 (m := m + 2) h0
  obtain ⟨x1, rfl, w1⟩ := flat22 (m := m + 0) h1
  subst el
  subst e1
  subst e0
  exact ⟨⟨x0, x1⟩, rfl, w0, w1⟩
end Go.Proofs.Ytihccnkegkkikaa
/- The contract of the law RouteTries: it is true, whatever the input. No conditions. -/
namespace Go.Proofs.Ytihccnkegkkikaa
open Go.Am
theorem lawTries_true (c : Chain) (w : Nat → Nat → Int) (f : Int) (write : Bool) (n : Int) : lawTries c w f write n = true := by
  unfold lawTries
  obtain ⟨h1, _, h3⟩ := tries_eq c w f write n
  rw [← h1, eqInts_self, awake_true]
  cases h : ((tries c w f write n).2 != 0)
  · have h0 := h3 (eq_of_bne_false h)
    rw [h0]
    cases decide ((c.members.D.length : Int) > 60) <;> simp
  · cases decide ((c.members.D.length : Int) > 60) <;> simp
theorem routeTries_calls (c : Chain) (wc : WT24 c) (w : Nat → Nat → Int) (f : Int) (_ : (Lit.int .i64 f).wf = true) (write : Bool) (n : Int) (_ : (Lit.int .i64 n).wf = true) : PCalls Try.prog 10 [.agg ((eChain.enc c).map .pv), .agg (rows3 fun p q => .pv (.lit (.int .i64 (w p q)))), .pv (.lit (.int .i64 f)), .pv (.lit (.bool write)), .pv (.lit (.int .i64 n))] (.pv (.bool true)) := by
  cases hb : (decide ((c.members.D.length : Int) > 60))
  · have := of_decide_eq_false hb
    have r := lawTries_calls c w f write n wc.2.2.1 (by omega)
    rw [lawTries_true] at r
    exact r
  · have r := biglawTries_calls c w f write n hb
    rw [show biglawTries c w f write n = true from awake_true] at r
    exact r
end Go.Proofs.Ytihccnkegkkikaa
/- An abstract machine over the kit's calls, part 34: three rows of three numbers that are handed in. No conditions. -/
namespace Go.Am
section
variable {H : Type} {enc : TypeId × Value → H} {P : Program} {w : World} {base : Nat} {spare : Nat → Bool} {held : Bool}
theorem lits_VHs {k : IntKind} {ι : Nat → Option (Nat × Nat)} {imm : Nat → Prop} {w' : World} : ∀ (l : List Value) (A : List Int), l.length = A.length → (∀ i, i < A.length → l[i]? = some (.int k (A.getD i 0))) → VHs ι imm w' (A.map fun z => .pv (.lit (.int k z))) l := by
  intro l
  induction l with
  | nil => intro A hA _; cases A with
    | nil => rfl
    | cons a A => simp at hA
  | cons v l ih => intro A hA hA2; cases A with
    | nil => simp at hA
    | cons a A =>
      have h0 := hA2 0 (by simp)
      simp only [List.getElem?_cons_zero, List.getD_cons_zero, Option.some.injEq] at h0
      subst h0
      exact ⟨_, l, rfl, ⟨rfl, rfl⟩, ih A (by simpa using hA) fun i hi => by simpa using hA2 (i + 1) (by simpa using hi)⟩
theorem open_arr33 {r : Reach} {b0 : Nat} {t e e2 : Nat} {k : IntKind} {v : Value} {d : DataW H} {ps : List MemPlace} (ht : P.underlying t = some (.array 3 e)) (he : P.underlying e = some (.array 3 e2)) (he2 : P.underlying e2 = some (.int k)) (hc2 : P.cellsOf e2 = 1) (hc : P.cellsOf e = 3) (hct : P.cellsOf t = 9) (hval : Value.okWide P w r b0 t v) (hd : DataW.Trod enc P w base spare held t v d ps) :
    ∃ f : Nat → Nat → Int, ∀ ι imm w', VH ι imm w' (.agg (rows3 fun p q => .pv (.lit (.int k (f p q))))) v := by
  simp only [Value.okWide, ht] at hval
  obtain ⟨cs, rfl, hsz, _⟩ := hval
  obtain ⟨fuel, hf⟩ := hd
  obtain ⟨xs, m, rfl, _, hl, hlx, hx⟩ := DataW.trod_array ht hf
  simp only [Value.cells] at hl hx
  have hn : cs.toList.length = 9 := by rw [hl, hct]
  have key : ∀ i j, i < 3 → j < 3 → ∃ z, cs.toList[i * 3 + j]? = some (.int k z) := fun i j hi hj => by
    have h1 := hx i hi
    obtain ⟨y, hy⟩ : ∃ y, xs[i]? = some y := ⟨xs[i], by simp [hlx, hi]⟩
    rw [hy] at h1
    obtain ⟨ys, m2, _, _, _, hly, hx2⟩ := DataW.trod_array he h1
    have h2 := hx2 j hj
    obtain ⟨y2, hy2⟩ : ∃ y, ys[j]? = some y := ⟨ys[j], by simp [hly, hj]⟩
    rw [hy2] at h2
    obtain ⟨z, h3, _, _⟩ := DataW.trod_int he2 h2
    rw [hc2, hc, Nat.mul_one] at h3
    refine ⟨z, ?_⟩
    have h5 := congrArg (fun l => l[0]?) h3
    simp only [List.getElem?_cons_zero] at h5
    rw [List.getElem?_take_of_lt (by omega), List.getElem?_drop, List.getElem?_take_of_lt (by omega), List.getElem?_drop] at h5
    simpa using h5
  refine ⟨fun i j => match cs.toList[i * 3 + j]? with | some (.int _ z) => z | _ => 0, fun ι imm w' => ⟨cs.toList, by simp, ?_⟩⟩
  generalize hf : (fun i j : Nat => match cs.toList[i * 3 + j]? with | some (.int _ z) => z | _ => 0) = f
  have hval : ∀ i j, i < 3 → j < 3 → cs.toList[i * 3 + j]? = some (.int k (f i j)) := fun i j hi hj => by
    obtain ⟨z, hz⟩ := key i j hi hj
    have : f i j = z := by rw [← hf]; simp only [hz]
    rw [hz, this]
  exact lits_VHs cs.toList (rows3 f) (by rw [hn]; rfl) fun n hn9 => by
    have hn9 : n < 9 := hn9
    have h := hval (n / 3) (n % 3) (by omega) (by omega)
    rw [show n / 3 * 3 + n % 3 = n by omega] at h
    rw [h]
    congr 2
    rcases (by omega : n = 0 ∨ n = 1 ∨ n = 2 ∨ n = 3 ∨ n = 4 ∨ n = 5 ∨ n = 6 ∨ n = 7 ∨ n = 8) with rfl | rfl | rfl | rfl | rfl | rfl | rfl | rfl | rfl <;> rfl
end
end Go.Am
/- What all rows of this seat need: no knob is turned, the types are laid out. No conditions. -/
namespace Go.Proofs.Ytihccnkegkkikaa
open Go.Am
theorem own : ownKnob Try.prog.godebug = none := by kernel_rfl
theorem laidOut : laidOutB Try.prog = true := by kernel_rfl
end Go.Proofs.Ytihccnkegkkikaa
