import Derived.Test.YthnghkkbnhjlgaaDoorM1
import Derived.Test.YthnghkkbnhjlgaaDoorM2
import Derived.Test.YthnghkkbnhjlgaaDoorM3
import Derived.Test.YthnghkkbnhjlgaaDoorM5
import Derived.KernelRfl
import Derived.Test.YthnghkkbnhjlgaaDoorM4
/- What a pass says, in plain words: both the same, and what was seen comes back. No conditions. -/
namespace Go.Proofs.YthnghkkbnhjlgaaDoor
open Go.Am
theorem parse_enc {D : List Int} {xs : List Seen} (hD : B8 D) (h : parse D = some xs) : D = encB xs ∧ (1 ≤ xs.length ∧ xs.length ≤ 6) ∧ KB xs := by
  unfold parse at h
  cases e1 : rin 1 6 D with
  | none => rw [e1] at h; cases h
  | some q =>
    obtain ⟨n, r⟩ := q
    rw [e1] at h
    dsimp only at h
    obtain ⟨g1, _, g3, g4⟩ := rin_some e1
    obtain ⟨f1, _, _⟩ := vd_vb 0 D n r hD g1
    cases e2 : decS n r with
    | none => rw [e2] at h; cases h
    | some q =>
      obtain ⟨zs, r3⟩ := q
      rw [e2] at h
      cases r3 with
      | cons y ys => cases h
      | nil =>
        injection h with h
        subst h
        obtain ⟨i1, i2, i3, _, _⟩ := enc_decS n r zs [] (fun x hx => hD x (by rw [f1]; simp [hx])) e2
        refine ⟨?_, by omega, i3⟩
        unfold encB
        have e : (IntKind.u64.wrap (zs.length : Int)).toNat = n := by rw [wrapU]; omega
        rw [e]
        rw [List.append_nil] at i1
        rw [← i1]; exact f1
theorem parse_encB {l : List Seen} (h1 : 1 ≤ l.length) (h6 : l.length ≤ 6) (hv : ∀ x ∈ l, 1 ≤ x.ver ∧ x.ver ≤ 1099511627776) : parse (encB l) = some (l.map back) := by
  have e : (IntKind.u64.wrap (l.length : Int)).toNat = l.length := by rw [wrapU]; omega
  have e1 : vd 0 (encB l) = some (l.length, encS l) := by
    unfold encB
    rw [e]
    exact vb_vd _ 0 _ (by omega) (fun q => absurd q (Nat.lt_irrefl 0))
  have e2 : rin 1 6 (encB l) = some (l.length, encS l) := by
    unfold rin
    rw [e1]
    dsimp only
    rw [if_pos (by omega)]
  have e3 := decS_enc l [] hv
  rw [List.append_nil] at e3
  unfold parse
  rw [e2]
  dsimp only
  rw [e3]
theorem back_rd : ∀ {l : List Seen}, KB l → (l.map back).map rd = l.map rd
  | [], _ => rfl
  | x :: xs, h => by
    obtain ⟨h1, h2⟩ := h.cons
    rw [List.map_cons, List.map_cons, List.map_cons, back_rd h2]
    congr 1
    show (kL (unw (word x.key)), x.ver) = (kL x.key, x.ver)
    rw [unw_word h1]
/-- Bytes, cut ahead of their seal. -/
def cutB (b : Sl Int) : Sl Int := Sl.mk b.nil (b.D.take (b.D.length - 8))
def cutT (b : Sl Int) : List Int := b.D.drop (b.D.length - 8)
theorem cutB_B8 {b : Sl Int} (h : B8 b.D) : B8 (cutB b).D := fun x hx => h x (List.mem_of_mem_take hx)
theorem cutT_B8 {b : Sl Int} (h : B8 b.D) : B8 (cutT b) := fun x hx => h x (List.mem_of_mem_drop hx)
theorem wrap8c {n : Nat} (h : n ≤ 1000000) (h8 : 8 ≤ n) : (IntKind.i64.wrap ((n : Int) - 8)).toNat = n - 8 := by
  rw [wrapP (by omega)]; omega
/-- May the bytes be looked at? -/
def lookR (key b : Sl Int) : Option (Sl Seen × Int) := if key.D.length ≠ 16 then some (Sl.mk true [], 1) else if b.D = [] then some (Sl.mk true [], 0) else if 120 < b.D.length ∨ b.D.length < 8 then some badR else none
theorem look_chain {key b : Sl Int} (S : Sl Seen × Int) : (bif ((key.D.length : Int) != 16) then (Sl.mk true [], 1) else (bif ((b.D.length : Int) == 0) then (Sl.mk true [], 0) else (bif (decide ((b.D.length : Int) > 120)) then badR else (bif (decide ((b.D.length : Int) < 8)) then badR else S)))) = match lookR key b with
    | some r => r
    | none => S := by
  have e16 : ((key.D.length : Int) != 16) = !decide (key.D.length = 16) := by
    rw [Bool.eq_iff_iff]; simp; omega
  rw [e16, isEmpty_len]
  by_cases h : key.D.length = 16
  · by_cases hb : b.D = []
    · have e : lookR key b = some (Sl.mk true [], 0) := by unfold lookR; rw [if_neg (fun q => q h), if_pos hb]
      rw [e, decide_eq_true h, hb]; rfl
    · by_cases hn : 120 < b.D.length ∨ b.D.length < 8
      · have e : lookR key b = some badR := by unfold lookR; rw [if_neg (fun q => q h), if_neg hb, if_pos hn]
        rw [e, decide_eq_true h, show b.D.isEmpty = false by simpa using hb]
        by_cases h1 : 120 < b.D.length
        · rw [decide_eq_true (show (b.D.length : Int) > 120 by omega)]; rfl
        · rw [decide_eq_false (show ¬ (b.D.length : Int) > 120 by omega), decide_eq_true (show (b.D.length : Int) < 8 by omega)]; rfl
      · have e : lookR key b = none := by unfold lookR; rw [if_neg (fun q => q h), if_neg hb, if_neg hn]
        rw [e, decide_eq_true h, show b.D.isEmpty = false by simpa using hb, decide_eq_false (show ¬ (b.D.length : Int) > 120 by omega), decide_eq_false (show ¬ (b.D.length : Int) < 8 by omega)]; rfl
  · have e : lookR key b = some (Sl.mk true [], 1) := by unfold lookR; rw [if_pos h]
    rw [e, decide_eq_false h]; rfl
theorem lookR_none {key b : Sl Int} (h : lookR key b = none) : key.D.length = 16 ∧ b.D ≠ [] ∧ b.D.length ≤ 120 ∧ 8 ≤ b.D.length := by
  unfold lookR at h
  split at h
  · cases h
  · split at h
    · cases h
    · split at h
      · cases h
      · rename_i h1 h2 h3
        refine ⟨Classical.byContradiction h1, h2, ?_, ?_⟩ <;> omega
theorem pRead_eq {key b : Sl Int} (hB : B8 b.D) : pRead key b = match lookR key b with
    | some r => r
    | none => if sealL key (cutB b).D = cutT b then pRead_l0 (rdIn (rdNew (cutB b)) 1 6).2.toNat 0 [] (rdIn (rdNew (cutB b)) 1 6).1 else badR := by
  unfold pRead
  refine (look_chain _).trans ?_
  cases e : lookR key b with
  | some r => rfl
  | none =>
    obtain ⟨k16, hne, h120, h8⟩ := lookR_none e
    dsimp only
    rw [wrap8c (by omega) (by omega)]
    have e1 : (mark key (Sl.mk b.nil (b.D.take (b.D.length - 8)))).2 = if key.D.length = 16 then 0 else 1 := rfl
    have e2 : eqBytes (mark key (Sl.mk b.nil (b.D.take (b.D.length - 8)))).1 (Sl.mk b.nil (b.D.drop (b.D.length - 8))) = decide (sealL key (cutB b).D = cutT b) := by
      unfold eqBytes
      rw [mark_D]
      exact str_eq (sealL_B8 _ _) (cutT_B8 hB)
    rw [e1, if_pos k16, e2]
    show (bif !decide (sealL key (cutB b).D = cutT b) then badR else pRead_l0 (rdIn (rdNew (cutB b)) 1 6).2.toNat 0 [] (rdIn (rdNew (cutB b)) 1 6).1) = _
    generalize pRead_l0 (rdIn (rdNew (cutB b)) 1 6).2.toNat 0 [] (rdIn (rdNew (cutB b)) 1 6).1 = X
    by_cases hs : sealL key (cutB b).D = cutT b
    · rw [decide_eq_true hs, if_pos hs]; rfl
    · rw [decide_eq_false hs, if_neg hs]; rfl
theorem passL_B8 (key : Sl Int) (l : List Seen) : B8 (passL key l) := fun x hx => by
  rcases List.mem_append.1 hx with hx | hx
  · exact encB_B8 l x hx
  · exact sealL_B8 _ _ x hx
theorem pfin_len {ys : List Seen} (hk : KB ys) (hl : ys.length ≤ 1000000) : (pfin ys).1.D.length ≤ 6 := by
  unfold pfin
  cases e : (pRight (Sl.mk ys.isEmpty ys) != 0)
  · have e0 : pRight (Sl.mk ys.isEmpty ys) = 0 := by simpa using e
    exact ((pRight_zero (l := Sl.mk ys.isEmpty ys) hk hl).1 e0).1
  · exact Nat.zero_le _
theorem pRead_len {key b : Sl Int} (hB : B8 b.D) : (pRead key b).1.D.length ≤ 6 := by
  rw [pRead_eq hB]
  cases e : lookR key b with
  | some r =>
    unfold lookR at e
    dsimp only
    split at e
    · injection e with e; rw [← e]; exact Nat.zero_le _
    · split at e
      · injection e with e; rw [← e]; exact Nat.zero_le _
      · split at e
        · injection e with e; rw [← e]; exact Nat.zero_le _
        · cases e
  | none =>
    obtain ⟨k16, hne, h120, h8⟩ := lookR_none e
    have hcl : (cutB b).D.length ≤ 1000000 := by
      show (b.D.take _).length ≤ _
      rw [List.length_take]; omega
    have hp := pRead_parse (cutB b) (cutB_B8 hB) hcl
    dsimp only
    split
    · cases ep : parse (cutB b).D with
      | none => rw [hp.2 ep]; exact Nat.zero_le _
      | some xs =>
        obtain ⟨ys, p1, p2, p3⟩ := hp.1 xs ep
        obtain ⟨c1, c2, c3⟩ := parse_enc (cutB_B8 hB) ep
        rw [p3]
        exact pfin_len p2 (by rw [len_rd p1]; omega)
    · exact Nat.zero_le _
theorem make_B8 (key : Sl Int) (l : Sl Seen) : B8 (pMake key l).1.D := by
  rw [pMake_eq]
  unfold mkSpec
  cases (pRight l != 0)
  · cases decide (key.D.length = 16)
    · exact fun x (h : x ∈ ([] : List Int)) => nomatch h
    · cases l.D.isEmpty
      · exact passL_B8 key l.D
      · exact fun x (h : x ∈ ([] : List Int)) => nomatch h
  · exact fun x (h : x ∈ ([] : List Int)) => nomatch h
theorem vb_len_le : ∀ (k n : Nat), n < 128 ^ (k + 1) → (vb n).length ≤ k + 1
  | 0, n, h => by rw [vb_lt (by simpa using h)]; exact Nat.le_refl _
  | k + 1, n, h => by
    rcases Nat.lt_or_ge n 128 with h1 | h1
    · rw [vb_lt h1]; show 1 ≤ _; omega
    · rw [vb_ge h1]
      have : n / 128 < 128 ^ (k + 1) := Nat.div_lt_of_lt_mul (by rw [Nat.pow_succ, Nat.mul_comm] at h; exact h)
      have := vb_len_le k (n / 128) this
      show (vb (n / 128)).length + 1 ≤ _
      omega
theorem encS_len16 : ∀ {l : List Seen}, (∀ x ∈ l, 1 ≤ x.ver ∧ x.ver ≤ 1099511627776) → (encS l).length ≤ 16 * l.length
  | [], _ => Nat.le_refl _
  | x :: xs, h => by
    have hx := h x (by simp)
    have h1 := vb_len (n := (word x.key).toNat) (by have := (word_ok x.key); omega)
    have e : IntKind.u64.wrap x.ver = x.ver := by rw [wrapU]; omega
    have hp : (128 : Nat) ^ (5 + 1) = 4398046511104 := by decide
    have h2 := vb_len_le 5 x.ver.toNat (by omega)
    have := encS_len16 (l := xs) fun y hy => h y (by simp [hy])
    unfold encS
    rw [e, List.length_append, List.length_append, List.length_cons]; omega
theorem encB_len6 {l : List Seen} (h6 : l.length ≤ 6) (hv : ∀ x ∈ l, 1 ≤ x.ver ∧ x.ver ≤ 1099511627776) : (encB l).length ≤ 97 := by
  have := encS_len16 hv
  have e : (IntKind.u64.wrap (l.length : Int)).toNat = l.length := by rw [wrapU]; omega
  unfold encB
  rw [e, vb_lt (by omega)]
  show (encS l).length + 1 ≤ _
  omega
theorem passL_cut (key : Sl Int) (l : List Seen) : (cutB (Sl.mk false (passL key l))).D = encB l ∧ cutT (Sl.mk false (passL key l)) = sealL key (encB l) := by
  have hl : (passL key l).length - 8 = (encB l).length := by
    unfold passL
    rw [List.length_append, sealL_len]; omega
  constructor
  · show (passL key l).take ((passL key l).length - 8) = _
    rw [hl]; exact List.take_left
  · show (passL key l).drop ((passL key l).length - 8) = _
    rw [hl]; exact List.drop_left
theorem pass_back {key : Sl Int} {l : Sl Seen} (hk : key.D.length = 16) (hl : KB l.D) (hl1 : l.D.length ≤ 1000000) (h0 : pRight l = 0) :
    (pMake key l).2 = 0 ∧ (pRead key (pMake key l).1).2 = 0 ∧ (pRead key (pMake key l).1).1.D.map rd = l.D.map rd ∧ (pMake key l).1.D.length ≤ 120 ∧ (pMake key l).1.D.isEmpty = l.D.isEmpty ∧ B8 (pMake key l).1.D := by
  obtain ⟨h6, hr⟩ := (pRight_zero hl hl1).1 h0
  rw [pMake_eq]
  unfold mkSpec
  rw [show (pRight l != 0) = false by simpa using h0, decide_eq_true hk, cond_false, cond_true]
  cases he : l.D.isEmpty
  · rw [cond_false]
    dsimp only
    have hv : ∀ x ∈ l.D, 1 ≤ x.ver ∧ x.ver ≤ 1099511627776 := fun x hx => by
      have := ver_ok (rt_mem hr x hx)
      omega
    have h1 : 1 ≤ l.D.length := by
      cases hD : l.D with
      | nil => rw [hD] at he; simp at he
      | cons x xs => simp
    have hlen := encB_len6 h6 hv
    have hpl : (passL key l.D).length = (encB l.D).length + 8 := by
      unfold passL
      rw [List.length_append, sealL_len]
    have hB : B8 (Sl.mk false (passL key l.D)).D := passL_B8 key l.D
    obtain ⟨c1, c2⟩ := passL_cut key l.D
    have hlook : lookR key (Sl.mk false (passL key l.D)) = none := by
      unfold lookR
      rw [if_neg (fun q => q hk), if_neg, if_neg]
      · show ¬ (120 < (passL key l.D).length ∨ (passL key l.D).length < 8)
        omega
      · intro q
        have : (passL key l.D).length = 0 := by
          have := congrArg List.length q
          exact this
        omega
    have hcl : (cutB (Sl.mk false (passL key l.D))).D.length ≤ 1000000 := by rw [c1]; omega
    have hp := pRead_parse (cutB (Sl.mk false (passL key l.D))) (cutB_B8 hB) hcl
    have hparse : parse (cutB (Sl.mk false (passL key l.D))).D = some (l.D.map back) := by
      rw [c1]; exact parse_encB h1 h6 hv
    obtain ⟨ys, p1, p2, p3⟩ := hp.1 _ hparse
    have hyr : ys.map rd = l.D.map rd := p1.trans (back_rd hl)
    have hread : pRead key (Sl.mk false (passL key l.D)) = pfin ys := by
      rw [pRead_eq hB, hlook]
      dsimp only
      rw [if_pos (by rw [c1, c2]), p3]
    have hpy : pRight (Sl.mk ys.isEmpty ys) = 0 := by
      rw [← h0]
      exact pRight_rd (X := Sl.mk ys.isEmpty ys) (Y := l) p2 hl (by show ys.length ≤ _; rw [len_rd hyr]; exact hl1) hyr
    have hfin : pfin ys = (Sl.mk ys.isEmpty ys, 0) := by
      unfold pfin
      rw [hpy]; rfl
    rw [hread, hfin]
    refine ⟨rfl, rfl, hyr, by omega, ?_, hB⟩
    cases hP : passL key l.D with
    | nil => rw [hP] at hpl; simp at hpl
    | cons a tl => rfl
  · rw [cond_true]
    have hD : l.D = [] := by simpa using he
    have hlook : lookR key (Sl.mk true []) = some (Sl.mk true [], 0) := by
      unfold lookR
      rw [if_neg (fun q => q hk), if_pos rfl]
    have hread : pRead key (Sl.mk true []) = (Sl.mk true [], 0) := by
      rw [pRead_eq (b := Sl.mk true []) (fun x (h : x ∈ ([] : List Int)) => nomatch h), hlook]
    dsimp only
    rw [hread, hD]
    exact ⟨rfl, rfl, rfl, Nat.zero_le _, rfl, fun x (h : x ∈ ([] : List Int)) => nomatch h⟩
def awake  : Bool :=
  (bif ((pSee (Sl.mk true []) (nameK [(97 : Int)]) 3).2 == 0) then (bif ((pSee (pSee (Sl.mk true []) (nameK [(97 : Int)]) 3).1 (nameK [(98 : Int)]) 1).2 == 0) then (bif ((pSee (pSee (pSee (Sl.mk true []) (nameK [(97 : Int)]) 3).1 (nameK [(98 : Int)]) 1).1 (nameK [(97 : Int)]) 2).2 == 0) then (bif (((pMake (Sl.mk false [48, 49, 50, 51, 52, 53, 54, 55, 56, 57, 97, 98, 99, 100, 101, 102]) (pSee (pSee (pSee (Sl.mk true []) (nameK [(97 : Int)]) 3).1 (nameK [(98 : Int)]) 1).1 (nameK [(97 : Int)]) 2).1).2) == 0) then (bif (((pRead (Sl.mk false [48, 49, 50, 51, 52, 53, 54, 55, 56, 57, 97, 98, 99, 100, 101, 102]) ((pMake (Sl.mk false [48, 49, 50, 51, 52, 53, 54, 55, 56, 57, 97, 98, 99, 100, 101, 102]) (pSee (pSee (pSee (Sl.mk true []) (nameK [(97 : Int)]) 3).1 (nameK [(98 : Int)]) 1).1 (nameK [(97 : Int)]) 2).1).1)).2) == 0) then (bif (((pRead (Sl.mk false [48, 49, 50, 51, 52, 53, 54, 55, 56, 57, 97, 98, 99, 100, 101, 102]) (Sl.mk false (List.replicate 7 0))).2) == 100) then (bif (eqSeen (pSee (pSee (pSee (Sl.mk true []) (nameK [(97 : Int)]) 3).1 (nameK [(98 : Int)]) 1).1 (nameK [(97 : Int)]) 2).1 (Sl.mk false [(Seen.mk (nameK [(97 : Int)]) 3), (Seen.mk (nameK [(98 : Int)]) 1)])) then (eqSeen ((pRead (Sl.mk false [48, 49, 50, 51, 52, 53, 54, 55, 56, 57, 97, 98, 99, 100, 101, 102]) ((pMake (Sl.mk false [48, 49, 50, 51, 52, 53, 54, 55, 56, 57, 97, 98, 99, 100, 101, 102]) (pSee (pSee (pSee (Sl.mk true []) (nameK [(97 : Int)]) 3).1 (nameK [(98 : Int)]) 1).1 (nameK [(97 : Int)]) 2).1).1)).1) (pSee (pSee (pSee (Sl.mk true []) (nameK [(97 : Int)]) 3).1 (nameK [(98 : Int)]) 1).1 (nameK [(97 : Int)]) 2).1) else false) else false) else false) else false) else false) else false) else false)
theorem awake_calls   : PCalls Tryd.prog 13 [] (.pv (.lit (.bool (awake )))) := by
 generalize hR : awake  = R
 refine PCalls.of_body tabOk Tryd.func13 rfl rfl rfl rfl rfl mixed fun E hP C hI => ?_
 refine Awp.consP C ?_
 refine rvP C (.pv (.lit (.bool false))) ?_
 refine rvc_nil ?_
 refine Awp.cons C (fun o => match o.dst with | some 13 => .writes [12] | _ => .writer) (by kernel_rfl) ?_
 refine rvc_un (rexec_prim C (δ := { v := .sl 12 0 ([48, 49, 50, 51, 52, 53, 54, 55, 56, 57, 97, 98, 99, 100, 101, 102].length) 1 true, new := [(12, .cells (encC (eI .u8) [48, 49, 50, 51, 52, 53, 54, 55, 56, 57, 97, 98, 99, 100, 101, 102]))] }) rfl rfl rfl rfl trivial rfl ?_)
 refine rvc_un (rexec_convOwn C rfl [48, 49, 50, 51, 52, 53, 54, 55, 56, 57, 97, 98, 99, 100, 101, 102] rfl rfl rfl rfl rfl rfl rfl ?_)
 refine rvP C (sS (some false) (eI .u8) [48, 49, 50, 51, 52, 53, 54, 55, 56, 57, 97, 98, 99, 100, 101, 102]) ?_
 refine rvc_nil ?_
 refine Awp.consP C ?_
 refine rvc_un (rexec_call hP C rfl rfl rfl (nameK_calls [(97 : Int)] (rng8 97 (by decide))) ?_)
 obtain ⟨s1, hq_s1⟩ : ∃ q_, q_ = (pSee (Sl.mk true []) (nameK [(97 : Int)]) 3) := ⟨_, rfl⟩
 have hc_s1 := (pSee_calls (Sl.mk true []) (nameK [(97 : Int)]) 3 KB_nil (name1_B 97 (by decide)) (fun _ => rfl) (Nat.zero_le _))
 first | rw [← hq_s1] at hR hc_s1 | (unfold awake at hR; rw [← hq_s1] at hR hc_s1)
 have hf0_s1 := pSee_ok (l := (Sl.mk true [])) (k := (nameK [(97 : Int)])) (v := 3) KB_nil (name1_B 97 (by decide)) (fun _ => rfl) (Nat.zero_le _)
 rw [← hq_s1] at hf0_s1
 refine rvc_un (rexec_call hP C rfl rfl rfl hc_s1 ?_)
 refine rvP C (.tup [sS (some s1.1.nil) eSeen s1.1.D, .pv (.lit (.int .i64 s1.2))]) ?_
 refine rvP C (sS (some s1.1.nil) eSeen s1.1.D) ?_
 refine rvP C (.pv (.lit (.int .i64 s1.2))) ?_
 refine rvP C (sS (some s1.1.nil) eSeen s1.1.D) ?_
 refine rvP C (.pv (.lit (.int .i64 s1.2))) ?_
 refine rvc_nil ?_
 refine Awp.consP C ?_
 refine rvP C (sS (some s1.1.nil) eSeen s1.1.D) ?_
 refine rvc_un (rexec_call hP C rfl rfl rfl (nameK_calls [(98 : Int)] (rng8 98 (by decide))) ?_)
 obtain ⟨s2, hq_s2⟩ : ∃ q_, q_ = (pSee s1.1 (nameK [(98 : Int)]) 1) := ⟨_, rfl⟩
 have hc_s2 := (pSee_calls s1.1 (nameK [(98 : Int)]) 1 hf0_s1.1 (name1_B 98 (by decide)) hf0_s1.2.1 hf0_s1.2.2)
 first | rw [← hq_s2] at hR hc_s2 | (unfold awake at hR; rw [← hq_s2] at hR hc_s2)
 have hf0_s2 := pSee_ok (l := s1.1) (k := (nameK [(98 : Int)])) (v := 1) hf0_s1.1 (name1_B 98 (by decide)) hf0_s1.2.1 hf0_s1.2.2
 rw [← hq_s2] at hf0_s2
 refine rvc_un (rexec_call hP C rfl rfl rfl hc_s2 ?_)
 refine rvP C (.tup [sS (some s2.1.nil) eSeen s2.1.D, .pv (.lit (.int .i64 s2.2))]) ?_
 refine rvP C (sS (some s2.1.nil) eSeen s2.1.D) ?_
 refine rvP C (.pv (.lit (.int .i64 s2.2))) ?_
 refine rvP C (sS (some s2.1.nil) eSeen s2.1.D) ?_
 refine rvP C (.pv (.lit (.int .i64 s2.2))) ?_
 refine rvc_nil ?_
 refine Awp.consP C ?_
 refine rvP C (sS (some s2.1.nil) eSeen s2.1.D) ?_
 refine rvc_un (rexec_call hP C rfl rfl rfl (nameK_calls [(97 : Int)] (rng8 97 (by decide))) ?_)
 obtain ⟨s3, hq_s3⟩ : ∃ q_, q_ = (pSee s2.1 (nameK [(97 : Int)]) 2) := ⟨_, rfl⟩
 have hc_s3 := (pSee_calls s2.1 (nameK [(97 : Int)]) 2 hf0_s2.1 (name1_B 97 (by decide)) hf0_s2.2.1 hf0_s2.2.2)
 first | rw [← hq_s3] at hR hc_s3 | (unfold awake at hR; rw [← hq_s3] at hR hc_s3)
 have hf0_s3 := pSee_ok (l := s2.1) (k := (nameK [(97 : Int)])) (v := 2) hf0_s2.1 (name1_B 97 (by decide)) hf0_s2.2.1 hf0_s2.2.2
 rw [← hq_s3] at hf0_s3
 refine rvc_un (rexec_call hP C rfl rfl rfl hc_s3 ?_)
 refine rvP C (.tup [sS (some s3.1.nil) eSeen s3.1.D, .pv (.lit (.int .i64 s3.2))]) ?_
 refine rvP C (sS (some s3.1.nil) eSeen s3.1.D) ?_
 refine rvP C (.pv (.lit (.int .i64 s3.2))) ?_
 refine rvP C (sS (some s3.1.nil) eSeen s3.1.D) ?_
 refine rvP C (.pv (.lit (.int .i64 s3.2))) ?_
 refine rvc_nil ?_
 refine Awp.consP C ?_
 refine rvP C (sS (some false) (eI .u8) [48, 49, 50, 51, 52, 53, 54, 55, 56, 57, 97, 98, 99, 100, 101, 102]) ?_
 refine rvP C (sS (some s3.1.nil) eSeen s3.1.D) ?_
 refine rvc_un (rexec_call hP C rfl rfl rfl (pMake_calls (Sl.mk false [48, 49, 50, 51, 52, 53, 54, 55, 56, 57, 97, 98, 99, 100, 101, 102]) s3.1 hf0_s3.1 hf0_s3.2.2) ?_)
 refine rvP C (.tup [sS (some (pMake (Sl.mk false [48, 49, 50, 51, 52, 53, 54, 55, 56, 57, 97, 98, 99, 100, 101, 102]) s3.1).1.nil) (eI .u8) ((pMake (Sl.mk false [48, 49, 50, 51, 52, 53, 54, 55, 56, 57, 97, 98, 99, 100, 101, 102]) s3.1).1.D), .pv (.lit (.int .i64 ((pMake (Sl.mk false [48, 49, 50, 51, 52, 53, 54, 55, 56, 57, 97, 98, 99, 100, 101, 102]) s3.1).2)))]) ?_
 refine rvP C (sS (some (pMake (Sl.mk false [48, 49, 50, 51, 52, 53, 54, 55, 56, 57, 97, 98, 99, 100, 101, 102]) s3.1).1.nil) (eI .u8) ((pMake (Sl.mk false [48, 49, 50, 51, 52, 53, 54, 55, 56, 57, 97, 98, 99, 100, 101, 102]) s3.1).1.D)) ?_
 refine rvP C (.pv (.lit (.int .i64 ((pMake (Sl.mk false [48, 49, 50, 51, 52, 53, 54, 55, 56, 57, 97, 98, 99, 100, 101, 102]) s3.1).2)))) ?_
 refine rvP C (sS (some (pMake (Sl.mk false [48, 49, 50, 51, 52, 53, 54, 55, 56, 57, 97, 98, 99, 100, 101, 102]) s3.1).1.nil) (eI .u8) ((pMake (Sl.mk false [48, 49, 50, 51, 52, 53, 54, 55, 56, 57, 97, 98, 99, 100, 101, 102]) s3.1).1.D)) ?_
 refine rvP C (.pv (.lit (.int .i64 ((pMake (Sl.mk false [48, 49, 50, 51, 52, 53, 54, 55, 56, 57, 97, 98, 99, 100, 101, 102]) s3.1).2)))) ?_
 refine rvc_nil ?_
 refine Awp.consP C ?_
 refine rvP C (sS (some false) (eI .u8) [48, 49, 50, 51, 52, 53, 54, 55, 56, 57, 97, 98, 99, 100, 101, 102]) ?_
 refine rvP C (sS (some (pMake (Sl.mk false [48, 49, 50, 51, 52, 53, 54, 55, 56, 57, 97, 98, 99, 100, 101, 102]) s3.1).1.nil) (eI .u8) ((pMake (Sl.mk false [48, 49, 50, 51, 52, 53, 54, 55, 56, 57, 97, 98, 99, 100, 101, 102]) s3.1).1.D)) ?_
 refine rvc_un (rexec_call hP C rfl rfl rfl (pRead_calls (Sl.mk false [48, 49, 50, 51, 52, 53, 54, 55, 56, 57, 97, 98, 99, 100, 101, 102]) ((pMake (Sl.mk false [48, 49, 50, 51, 52, 53, 54, 55, 56, 57, 97, 98, 99, 100, 101, 102]) s3.1).1)) ?_)
 refine rvP C (.tup [sS (some (pRead (Sl.mk false [48, 49, 50, 51, 52, 53, 54, 55, 56, 57, 97, 98, 99, 100, 101, 102]) ((pMake (Sl.mk false [48, 49, 50, 51, 52, 53, 54, 55, 56, 57, 97, 98, 99, 100, 101, 102]) s3.1).1)).1.nil) eSeen ((pRead (Sl.mk false [48, 49, 50, 51, 52, 53, 54, 55, 56, 57, 97, 98, 99, 100, 101, 102]) ((pMake (Sl.mk false [48, 49, 50, 51, 52, 53, 54, 55, 56, 57, 97, 98, 99, 100, 101, 102]) s3.1).1)).1.D), .pv (.lit (.int .i64 ((pRead (Sl.mk false [48, 49, 50, 51, 52, 53, 54, 55, 56, 57, 97, 98, 99, 100, 101, 102]) ((pMake (Sl.mk false [48, 49, 50, 51, 52, 53, 54, 55, 56, 57, 97, 98, 99, 100, 101, 102]) s3.1).1)).2)))]) ?_
 refine rvP C (sS (some (pRead (Sl.mk false [48, 49, 50, 51, 52, 53, 54, 55, 56, 57, 97, 98, 99, 100, 101, 102]) ((pMake (Sl.mk false [48, 49, 50, 51, 52, 53, 54, 55, 56, 57, 97, 98, 99, 100, 101, 102]) s3.1).1)).1.nil) eSeen ((pRead (Sl.mk false [48, 49, 50, 51, 52, 53, 54, 55, 56, 57, 97, 98, 99, 100, 101, 102]) ((pMake (Sl.mk false [48, 49, 50, 51, 52, 53, 54, 55, 56, 57, 97, 98, 99, 100, 101, 102]) s3.1).1)).1.D)) ?_
 refine rvP C (.pv (.lit (.int .i64 ((pRead (Sl.mk false [48, 49, 50, 51, 52, 53, 54, 55, 56, 57, 97, 98, 99, 100, 101, 102]) ((pMake (Sl.mk false [48, 49, 50, 51, 52, 53, 54, 55, 56, 57, 97, 98, 99, 100, 101, 102]) s3.1).1)).2)))) ?_
 refine rvP C (sS (some (pRead (Sl.mk false [48, 49, 50, 51, 52, 53, 54, 55, 56, 57, 97, 98, 99, 100, 101, 102]) ((pMake (Sl.mk false [48, 49, 50, 51, 52, 53, 54, 55, 56, 57, 97, 98, 99, 100, 101, 102]) s3.1).1)).1.nil) eSeen ((pRead (Sl.mk false [48, 49, 50, 51, 52, 53, 54, 55, 56, 57, 97, 98, 99, 100, 101, 102]) ((pMake (Sl.mk false [48, 49, 50, 51, 52, 53, 54, 55, 56, 57, 97, 98, 99, 100, 101, 102]) s3.1).1)).1.D)) ?_
 refine rvP C (.pv (.lit (.int .i64 ((pRead (Sl.mk false [48, 49, 50, 51, 52, 53, 54, 55, 56, 57, 97, 98, 99, 100, 101, 102]) ((pMake (Sl.mk false [48, 49, 50, 51, 52, 53, 54, 55, 56, 57, 97, 98, 99, 100, 101, 102]) s3.1).1)).2)))) ?_
 refine rvc_nil ?_
 refine Awp.consP C ?_
 refine rvP C (sS (some false) (eI .u8) [48, 49, 50, 51, 52, 53, 54, 55, 56, 57, 97, 98, 99, 100, 101, 102]) ?_
 refine rvc_un (rexec_makeSliceF C (encL (eI .u8) (List.replicate 7 0)) (List.replicate 7 0).length rfl rfl rfl rfl rfl (by decide) rfl rfl ?_)
 refine rvc_un (rexec_call hP C rfl rfl rfl (pRead_calls (Sl.mk false [48, 49, 50, 51, 52, 53, 54, 55, 56, 57, 97, 98, 99, 100, 101, 102]) (Sl.mk false (List.replicate 7 0))) ?_)
 refine rvP C (.tup [sS (some (pRead (Sl.mk false [48, 49, 50, 51, 52, 53, 54, 55, 56, 57, 97, 98, 99, 100, 101, 102]) (Sl.mk false (List.replicate 7 0))).1.nil) eSeen ((pRead (Sl.mk false [48, 49, 50, 51, 52, 53, 54, 55, 56, 57, 97, 98, 99, 100, 101, 102]) (Sl.mk false (List.replicate 7 0))).1.D), .pv (.lit (.int .i64 ((pRead (Sl.mk false [48, 49, 50, 51, 52, 53, 54, 55, 56, 57, 97, 98, 99, 100, 101, 102]) (Sl.mk false (List.replicate 7 0))).2)))]) ?_
 refine rvP C (sS (some (pRead (Sl.mk false [48, 49, 50, 51, 52, 53, 54, 55, 56, 57, 97, 98, 99, 100, 101, 102]) (Sl.mk false (List.replicate 7 0))).1.nil) eSeen ((pRead (Sl.mk false [48, 49, 50, 51, 52, 53, 54, 55, 56, 57, 97, 98, 99, 100, 101, 102]) (Sl.mk false (List.replicate 7 0))).1.D)) ?_
 refine rvP C (.pv (.lit (.int .i64 ((pRead (Sl.mk false [48, 49, 50, 51, 52, 53, 54, 55, 56, 57, 97, 98, 99, 100, 101, 102]) (Sl.mk false (List.replicate 7 0))).2)))) ?_
 refine rvP C (sS (some (pRead (Sl.mk false [48, 49, 50, 51, 52, 53, 54, 55, 56, 57, 97, 98, 99, 100, 101, 102]) (Sl.mk false (List.replicate 7 0))).1.nil) eSeen ((pRead (Sl.mk false [48, 49, 50, 51, 52, 53, 54, 55, 56, 57, 97, 98, 99, 100, 101, 102]) (Sl.mk false (List.replicate 7 0))).1.D)) ?_
 refine rvP C (.pv (.lit (.int .i64 ((pRead (Sl.mk false [48, 49, 50, 51, 52, 53, 54, 55, 56, 57, 97, 98, 99, 100, 101, 102]) (Sl.mk false (List.replicate 7 0))).2)))) ?_
 refine rvc_nil ?_
 refine Awp.consP C ?_
 refine rvP C (.pv (.lit (.int .i64 s1.2))) ?_
 refine rvP C (.pv (.lit (.bool (s1.2 == 0)))) ?_
 refine rvP C (.pv (.lit (.bool (s1.2 == 0)))) ?_
 refine rvc_case 51 (s1.2 == 0) rfl (fun h1 => ?_) (fun h1 => ?_)
 ·
  replace hR := of_true h1 hR
  refine rvO C (.pv (.lit (.int .i64 s2.2))) ?_
  refine rvO C (.pv (.lit (.bool (s2.2 == 0)))) ?_
  refine rvP C (.pv (.lit (.bool (s2.2 == 0)))) ?_
  refine rvP C (.pv (.lit (.bool (s2.2 == 0)))) ?_
  refine rvc_case 55 (s2.2 == 0) rfl (fun h2 => ?_) (fun h2 => ?_)
  ·
   replace hR := of_true h2 hR
   refine rvO C (.pv (.lit (.int .i64 s3.2))) ?_
   refine rvO C (.pv (.lit (.bool (s3.2 == 0)))) ?_
   refine rvP C (.pv (.lit (.bool (s3.2 == 0)))) ?_
   refine rvP C (.pv (.lit (.bool (s3.2 == 0)))) ?_
   refine rvc_case 59 (s3.2 == 0) rfl (fun h3 => ?_) (fun h3 => ?_)
   ·
    replace hR := of_true h3 hR
    refine rvO C (.pv (.lit (.int .i64 ((pMake (Sl.mk false [48, 49, 50, 51, 52, 53, 54, 55, 56, 57, 97, 98, 99, 100, 101, 102]) s3.1).2)))) ?_
    refine rvO C (.pv (.lit (.bool (((pMake (Sl.mk false [48, 49, 50, 51, 52, 53, 54, 55, 56, 57, 97, 98, 99, 100, 101, 102]) s3.1).2) == 0)))) ?_
    refine rvP C (.pv (.lit (.bool (((pMake (Sl.mk false [48, 49, 50, 51, 52, 53, 54, 55, 56, 57, 97, 98, 99, 100, 101, 102]) s3.1).2) == 0)))) ?_
    refine rvP C (.pv (.lit (.bool (((pMake (Sl.mk false [48, 49, 50, 51, 52, 53, 54, 55, 56, 57, 97, 98, 99, 100, 101, 102]) s3.1).2) == 0)))) ?_
    refine rvc_case 63 (((pMake (Sl.mk false [48, 49, 50, 51, 52, 53, 54, 55, 56, 57, 97, 98, 99, 100, 101, 102]) s3.1).2) == 0) rfl (fun h4 => ?_) (fun h4 => ?_)
    ·
     replace hR := of_true h4 hR
     refine rvO C (.pv (.lit (.int .i64 ((pRead (Sl.mk false [48, 49, 50, 51, 52, 53, 54, 55, 56, 57, 97, 98, 99, 100, 101, 102]) ((pMake (Sl.mk false [48, 49, 50, 51, 52, 53, 54, 55, 56, 57, 97, 98, 99, 100, 101, 102]) s3.1).1)).2)))) ?_
     refine rvO C (.pv (.lit (.bool (((pRead (Sl.mk false [48, 49, 50, 51, 52, 53, 54, 55, 56, 57, 97, 98, 99, 100, 101, 102]) ((pMake (Sl.mk false [48, 49, 50, 51, 52, 53, 54, 55, 56, 57, 97, 98, 99, 100, 101, 102]) s3.1).1)).2) == 0)))) ?_
     refine rvP C (.pv (.lit (.bool (((pRead (Sl.mk false [48, 49, 50, 51, 52, 53, 54, 55, 56, 57, 97, 98, 99, 100, 101, 102]) ((pMake (Sl.mk false [48, 49, 50, 51, 52, 53, 54, 55, 56, 57, 97, 98, 99, 100, 101, 102]) s3.1).1)).2) == 0)))) ?_
     refine rvP C (.pv (.lit (.bool (((pRead (Sl.mk false [48, 49, 50, 51, 52, 53, 54, 55, 56, 57, 97, 98, 99, 100, 101, 102]) ((pMake (Sl.mk false [48, 49, 50, 51, 52, 53, 54, 55, 56, 57, 97, 98, 99, 100, 101, 102]) s3.1).1)).2) == 0)))) ?_
     refine rvc_case 67 (((pRead (Sl.mk false [48, 49, 50, 51, 52, 53, 54, 55, 56, 57, 97, 98, 99, 100, 101, 102]) ((pMake (Sl.mk false [48, 49, 50, 51, 52, 53, 54, 55, 56, 57, 97, 98, 99, 100, 101, 102]) s3.1).1)).2) == 0) rfl (fun h5 => ?_) (fun h5 => ?_)
     ·
      replace hR := of_true h5 hR
      refine rvO C (.pv (.lit (.int .i64 ((pRead (Sl.mk false [48, 49, 50, 51, 52, 53, 54, 55, 56, 57, 97, 98, 99, 100, 101, 102]) (Sl.mk false (List.replicate 7 0))).2)))) ?_
      refine rvO C (.pv (.lit (.bool (((pRead (Sl.mk false [48, 49, 50, 51, 52, 53, 54, 55, 56, 57, 97, 98, 99, 100, 101, 102]) (Sl.mk false (List.replicate 7 0))).2) == 100)))) ?_
      refine rvP C (.pv (.lit (.bool (((pRead (Sl.mk false [48, 49, 50, 51, 52, 53, 54, 55, 56, 57, 97, 98, 99, 100, 101, 102]) (Sl.mk false (List.replicate 7 0))).2) == 100)))) ?_
      refine rvP C (.pv (.lit (.bool (((pRead (Sl.mk false [48, 49, 50, 51, 52, 53, 54, 55, 56, 57, 97, 98, 99, 100, 101, 102]) (Sl.mk false (List.replicate 7 0))).2) == 100)))) ?_
      refine rvc_case 71 (((pRead (Sl.mk false [48, 49, 50, 51, 52, 53, 54, 55, 56, 57, 97, 98, 99, 100, 101, 102]) (Sl.mk false (List.replicate 7 0))).2) == 100) rfl (fun h6 => ?_) (fun h6 => ?_)
      ·
       replace hR := of_true h6 hR
       refine rvO C (sS (some s3.1.nil) eSeen s3.1.D) ?_
       refine rvc_open rfl rfl rfl (rexec_call hP C rfl rfl rfl (nameK_calls [(97 : Int)] (rng8 97 (by decide))) ?_)
       refine rvO C (.agg [.pv (.lit (.int .u8 ((nameK [(97 : Int)]) 0))), .pv (.lit (.int .u8 ((nameK [(97 : Int)]) 1))), .pv (.lit (.int .u8 ((nameK [(97 : Int)]) 2))), .pv (.lit (.int .u8 ((nameK [(97 : Int)]) 3))), .pv (.lit (.int .u8 ((nameK [(97 : Int)]) 4))), .pv (.lit (.int .u8 ((nameK [(97 : Int)]) 5))), .pv (.lit (.int .u8 ((nameK [(97 : Int)]) 6))), .pv (.lit (.int .u8 ((nameK [(97 : Int)]) 7))), .pv (.lit (.int .i64 3))]) ?_
       refine rvc_open rfl rfl rfl (rexec_call hP C rfl rfl rfl (nameK_calls [(98 : Int)] (rng8 98 (by decide))) ?_)
       refine rvO C (.agg [.pv (.lit (.int .u8 ((nameK [(98 : Int)]) 0))), .pv (.lit (.int .u8 ((nameK [(98 : Int)]) 1))), .pv (.lit (.int .u8 ((nameK [(98 : Int)]) 2))), .pv (.lit (.int .u8 ((nameK [(98 : Int)]) 3))), .pv (.lit (.int .u8 ((nameK [(98 : Int)]) 4))), .pv (.lit (.int .u8 ((nameK [(98 : Int)]) 5))), .pv (.lit (.int .u8 ((nameK [(98 : Int)]) 6))), .pv (.lit (.int .u8 ((nameK [(98 : Int)]) 7))), .pv (.lit (.int .i64 1))]) ?_
       refine rvc_open rfl rfl rfl (rexec_buildSliceF C eSeen [(Seen.mk (nameK [(97 : Int)]) 3), (Seen.mk (nameK [(98 : Int)]) 1)] rfl rfl rfl rfl rfl rfl rfl (by decide) rfl ?_)
       refine rvc_open rfl rfl rfl (rexec_call hP C rfl rfl rfl (eqSeen_calls s3.1 (Sl.mk false [(Seen.mk (nameK [(97 : Int)]) 3), (Seen.mk (nameK [(98 : Int)]) 1)]) (Nat.le_trans hf0_s3.2.2 (by decide))) ?_)
       refine rvP C (.pv (.lit (.bool (eqSeen s3.1 (Sl.mk false [(Seen.mk (nameK [(97 : Int)]) 3), (Seen.mk (nameK [(98 : Int)]) 1)]))))) ?_
       refine rvP C (.pv (.lit (.bool (eqSeen s3.1 (Sl.mk false [(Seen.mk (nameK [(97 : Int)]) 3), (Seen.mk (nameK [(98 : Int)]) 1)]))))) ?_
       refine rvc_case 80 (eqSeen s3.1 (Sl.mk false [(Seen.mk (nameK [(97 : Int)]) 3), (Seen.mk (nameK [(98 : Int)]) 1)])) rfl (fun h7 => ?_) (fun h7 => ?_)
       ·
        replace hR := of_true h7 hR
        refine rvO C (sS (some (pRead (Sl.mk false [48, 49, 50, 51, 52, 53, 54, 55, 56, 57, 97, 98, 99, 100, 101, 102]) ((pMake (Sl.mk false [48, 49, 50, 51, 52, 53, 54, 55, 56, 57, 97, 98, 99, 100, 101, 102]) s3.1).1)).1.nil) eSeen ((pRead (Sl.mk false [48, 49, 50, 51, 52, 53, 54, 55, 56, 57, 97, 98, 99, 100, 101, 102]) ((pMake (Sl.mk false [48, 49, 50, 51, 52, 53, 54, 55, 56, 57, 97, 98, 99, 100, 101, 102]) s3.1).1)).1.D)) ?_
        refine rvO C (sS (some s3.1.nil) eSeen s3.1.D) ?_
        refine rvc_open rfl rfl rfl (rexec_call hP C rfl rfl rfl (eqSeen_calls ((pRead (Sl.mk false [48, 49, 50, 51, 52, 53, 54, 55, 56, 57, 97, 98, 99, 100, 101, 102]) ((pMake (Sl.mk false [48, 49, 50, 51, 52, 53, 54, 55, 56, 57, 97, 98, 99, 100, 101, 102]) s3.1).1)).1) s3.1 (Nat.le_trans (pRead_len (make_B8 _ _)) (by decide))) ?_)
        refine rvP C (.pv (.lit (.bool (eqSeen ((pRead (Sl.mk false [48, 49, 50, 51, 52, 53, 54, 55, 56, 57, 97, 98, 99, 100, 101, 102]) ((pMake (Sl.mk false [48, 49, 50, 51, 52, 53, 54, 55, 56, 57, 97, 98, 99, 100, 101, 102]) s3.1).1)).1) s3.1)))) ?_
        refine rvP C (.pv (.lit (.bool (eqSeen ((pRead (Sl.mk false [48, 49, 50, 51, 52, 53, 54, 55, 56, 57, 97, 98, 99, 100, 101, 102]) ((pMake (Sl.mk false [48, 49, 50, 51, 52, 53, 54, 55, 56, 57, 97, 98, 99, 100, 101, 102]) s3.1).1)).1) s3.1)))) ?_
        refine rvc_nil ?_
        refine Awp.ret ?_
        subst hR
        exact ⟨.inl rfl, rfl⟩
       ·
        replace hR := of_false h7 hR
        refine rvS ?_
        refine rvS ?_
        refine rvS ?_
        refine rvP C (.pv (.lit (.bool false))) ?_
        refine rvP C (.pv (.lit (.bool false))) ?_
        refine rvc_nil ?_
        refine Awp.ret ?_
        subst hR
        exact ⟨.inl rfl, rfl⟩
      ·
       replace hR := of_false h6 hR
       refine rvS ?_
       refine rvS ?_
       refine rvS ?_
       refine rvS ?_
       refine rvS ?_
       refine rvS ?_
       refine rvS ?_
       refine rvP C (.pv (.lit (.bool false))) ?_
       refine rvP C (.pv (.lit (.bool false))) ?_
       refine rvS ?_
       refine rvS ?_
       refine rvS ?_
       refine rvP C (.pv (.lit (.bool false))) ?_
       refine rvP C (.pv (.lit (.bool false))) ?_
       refine rvc_nil ?_
       refine Awp.ret ?_
       subst hR
       exact ⟨.inl rfl, rfl⟩
     ·
      replace hR := of_false h5 hR
      refine rvS ?_
      refine rvS ?_
      refine rvP C (.pv (.lit (.bool false))) ?_
      refine rvP C (.pv (.lit (.bool false))) ?_
      refine rvS ?_
      refine rvS ?_
      refine rvS ?_
      refine rvS ?_
      refine rvS ?_
      refine rvS ?_
      refine rvS ?_
      refine rvP C (.pv (.lit (.bool false))) ?_
      refine rvP C (.pv (.lit (.bool false))) ?_
      refine rvS ?_
      refine rvS ?_
      refine rvS ?_
      refine rvP C (.pv (.lit (.bool false))) ?_
      refine rvP C (.pv (.lit (.bool false))) ?_
      refine rvc_nil ?_
      refine Awp.ret ?_
      subst hR
      exact ⟨.inl rfl, rfl⟩
    ·
     replace hR := of_false h4 hR
     refine rvS ?_
     refine rvS ?_
     refine rvP C (.pv (.lit (.bool false))) ?_
     refine rvP C (.pv (.lit (.bool false))) ?_
     refine rvS ?_
     refine rvS ?_
     refine rvP C (.pv (.lit (.bool false))) ?_
     refine rvP C (.pv (.lit (.bool false))) ?_
     refine rvS ?_
     refine rvS ?_
     refine rvS ?_
     refine rvS ?_
     refine rvS ?_
     refine rvS ?_
     refine rvS ?_
     refine rvP C (.pv (.lit (.bool false))) ?_
     refine rvP C (.pv (.lit (.bool false))) ?_
     refine rvS ?_
     refine rvS ?_
     refine rvS ?_
     refine rvP C (.pv (.lit (.bool false))) ?_
     refine rvP C (.pv (.lit (.bool false))) ?_
     refine rvc_nil ?_
     refine Awp.ret ?_
     subst hR
     exact ⟨.inl rfl, rfl⟩
   ·
    replace hR := of_false h3 hR
    refine rvS ?_
    refine rvS ?_
    refine rvP C (.pv (.lit (.bool false))) ?_
    refine rvP C (.pv (.lit (.bool false))) ?_
    refine rvS ?_
    refine rvS ?_
    refine rvP C (.pv (.lit (.bool false))) ?_
    refine rvP C (.pv (.lit (.bool false))) ?_
    refine rvS ?_
    refine rvS ?_
    refine rvP C (.pv (.lit (.bool false))) ?_
    refine rvP C (.pv (.lit (.bool false))) ?_
    refine rvS ?_
    refine rvS ?_
    refine rvS ?_
    refine rvS ?_
    refine rvS ?_
    refine rvS ?_
    refine rvS ?_
    refine rvP C (.pv (.lit (.bool false))) ?_
    refine rvP C (.pv (.lit (.bool false))) ?_
    refine rvS ?_
    refine rvS ?_
    refine rvS ?_
    refine rvP C (.pv (.lit (.bool false))) ?_
    refine rvP C (.pv (.lit (.bool false))) ?_
    refine rvc_nil ?_
    refine Awp.ret ?_
    subst hR
    exact ⟨.inl rfl, rfl⟩
  ·
   replace hR := of_false h2 hR
   refine rvS ?_
   refine rvS ?_
   refine rvP C (.pv (.lit (.bool false))) ?_
   refine rvP C (.pv (.lit (.bool false))) ?_
   refine rvS ?_
   refine rvS ?_
   refine rvP C (.pv (.lit (.bool false))) ?_
   refine rvP C (.pv (.lit (.bool false))) ?_
   refine rvS ?_
   refine rvS ?_
   refine rvP C (.pv (.lit (.bool false))) ?_
   refine rvP C (.pv (.lit (.bool false))) ?_
   refine rvS ?_
   refine rvS ?_
   refine rvP C (.pv (.lit (.bool false))) ?_
   refine rvP C (.pv (.lit (.bool false))) ?_
   refine rvS ?_
   refine rvS ?_
   refine rvS ?_
   refine rvS ?_
   refine rvS ?_
   refine rvS ?_
   refine rvS ?_
   refine rvP C (.pv (.lit (.bool false))) ?_
   refine rvP C (.pv (.lit (.bool false))) ?_
   refine rvS ?_
   refine rvS ?_
   refine rvS ?_
   refine rvP C (.pv (.lit (.bool false))) ?_
   refine rvP C (.pv (.lit (.bool false))) ?_
   refine rvc_nil ?_
   refine Awp.ret ?_
   subst hR
   exact ⟨.inl rfl, rfl⟩
 ·
  replace hR := of_false h1 hR
  refine rvS ?_
  refine rvS ?_
  refine rvP C (.pv (.lit (.bool false))) ?_
  refine rvP C (.pv (.lit (.bool false))) ?_
  refine rvS ?_
  refine rvS ?_
  refine rvP C (.pv (.lit (.bool false))) ?_
  refine rvP C (.pv (.lit (.bool false))) ?_
  refine rvS ?_
  refine rvS ?_
  refine rvP C (.pv (.lit (.bool false))) ?_
  refine rvP C (.pv (.lit (.bool false))) ?_
  refine rvS ?_
  refine rvS ?_
  refine rvP C (.pv (.lit (.bool false))) ?_
  refine rvP C (.pv (.lit (.bool false))) ?_
  refine rvS ?_
  refine rvS ?_
  refine rvP C (.pv (.lit (.bool false))) ?_
  refine rvP C (.pv (.lit (.bool false))) ?_
  refine rvS ?_
  refine rvS ?_
  refine rvS ?_
  refine rvS ?_
  refine rvS ?_
  refine rvS ?_
  refine rvS ?_
  refine rvP C (.pv (.lit (.bool false))) ?_
  refine rvP C (.pv (.lit (.bool false))) ?_
  refine rvS ?_
  refine rvS ?_
  refine rvS ?_
  refine rvP C (.pv (.lit (.bool false))) ?_
  refine rvP C (.pv (.lit (.bool false))) ?_
  refine rvc_nil ?_
  refine Awp.ret ?_
  subst hR
  exact ⟨.inl rfl, rfl⟩
theorem eqSeen_l0_eq (s2 : Sl Seen) : ∀ (xs : List Seen) (i : Nat), xs.length + i = s2.D.length → eqSeen_l0 s2 xs i = decide (xs.map rd = (s2.D.drop i).map rd)
  | [], i, h => by
    have : s2.D.drop i = [] := List.drop_of_length_le (by simp at h; omega)
    rw [this]; rfl
  | x :: xs, i, h => by
    have hi : i < s2.D.length := by simp at h; omega
    have ih := eqSeen_l0_eq s2 xs (i + 1) (by simp at h; omega)
    rw [List.drop_eq_getElem_cons hi]
    unfold eqSeen_l0
    rw [ih, Int.toNat_natCast, getElem!_pos s2.D i hi]
    have e : ((((x.key 0) == (s2.D[i].key 0)) && (((x.key 1) == (s2.D[i].key 1)) && (((x.key 2) == (s2.D[i].key 2)) && (((x.key 3) == (s2.D[i].key 3)) && (((x.key 4) == (s2.D[i].key 4)) && (((x.key 5) == (s2.D[i].key 5)) && (((x.key 6) == (s2.D[i].key 6)) && (((x.key 7) == (s2.D[i].key 7)) && true)))))))) && ((x.ver == s2.D[i].ver) && true)) = decide (rd x = rd s2.D[i]) := by
      rw [eq8]
      unfold rd
      rw [Bool.eq_iff_iff]
      simp
    rw [e]
    by_cases h1 : rd x = rd s2.D[i]
    · rw [decide_eq_true h1]
      show decide _ = _
      rw [decide_eq_decide, List.map_cons, List.map_cons, h1]
      simp only [List.cons.injEq, true_and]
    · rw [decide_eq_false h1]
      show false = _
      exact (decide_eq_false fun q => h1 (List.cons.inj q).1).symm
theorem eqSeen_eq (s1 s2 : Sl Seen) : eqSeen s1 s2 = decide (s1.D.map rd = s2.D.map rd) := by
  unfold eqSeen
  by_cases h : s1.D.length = s2.D.length
  · rw [show ((s1.D.length : Int) != (s2.D.length : Int)) = false by simp; omega, cond_false, eqSeen_l0_eq s2 s1.D 0 (by omega), List.drop_zero]
  · rw [show ((s1.D.length : Int) != (s2.D.length : Int)) = true by simp; omega, cond_true]
    exact (decide_eq_false fun q => h (len_rd q)).symm
def ex1 : Sl Seen × Int := pSee (Sl.mk true []) (nameK [(97 : Int)]) 3
def ex2 : Sl Seen × Int := pSee ex1.1 (nameK [(98 : Int)]) 1
def ex3 : Sl Seen × Int := pSee ex2.1 (nameK [(97 : Int)]) 2
theorem ex1_e : ex1.2 = 0 := by kernel_rfl
theorem ex2_e : ex2.2 = 0 := by kernel_rfl
theorem ex3_e : ex3.2 = 0 := by kernel_rfl
theorem ex3_r : pRight ex3.1 = 0 := by kernel_rfl
theorem ex3_rd : ex3.1.D.map rd = (Sl.mk false [(Seen.mk (nameK [(97 : Int)]) 3), (Seen.mk (nameK [(98 : Int)]) 1)]).D.map rd := by kernel_rfl
def exK : Sl Int := Sl.mk false [48, 49, 50, 51, 52, 53, 54, 55, 56, 57, 97, 98, 99, 100, 101, 102]
theorem ex_bad : (pRead exK (Sl.mk false (List.replicate 7 0))).2 = 100 := by
  rw [pRead_eq (b := Sl.mk false (List.replicate 7 0)) (fun x hx => by rw [List.eq_of_mem_replicate hx]; decide)]; rfl
theorem ex3_ok : KB ex3.1.D ∧ ex3.1.D.length ≤ 1000000 := by
  have h1 := pSee_ok (l := Sl.mk true []) (v := 3) KB_nil (name1_B 97 (by decide)) (fun _ => rfl) (Nat.zero_le _)
  have h2 := pSee_ok (v := 1) h1.1 (name1_B 98 (by decide)) h1.2.1 h1.2.2
  have h3 := pSee_ok (v := 2) h2.1 (name1_B 97 (by decide)) h2.2.1 h2.2.2
  exact ⟨h3.1, Nat.le_trans h3.2.2 (by decide)⟩
theorem awake_true : awake = true := by
  obtain ⟨k1, k2⟩ := ex3_ok
  obtain ⟨b1, b2, b3, _, _, _⟩ := pass_back (key := exK) rfl k1 k2 ex3_r
  have e : awake = bif (ex1.2 == 0) then (bif (ex2.2 == 0) then (bif (ex3.2 == 0) then (bif ((pMake exK ex3.1).2 == 0) then (bif ((pRead exK (pMake exK ex3.1).1).2 == 0) then (bif ((pRead exK (Sl.mk false (List.replicate 7 0))).2 == 100) then (bif eqSeen ex3.1 (Sl.mk false [(Seen.mk (nameK [(97 : Int)]) 3), (Seen.mk (nameK [(98 : Int)]) 1)]) then eqSeen (pRead exK (pMake exK ex3.1).1).1 ex3.1 else false) else false) else false) else false) else false) else false) else false := rfl
  rw [e, ex1_e, ex2_e, ex3_e, b1, b2, ex_bad, eqSeen_eq, eqSeen_eq, decide_eq_true ex3_rd, decide_eq_true b3]; rfl
theorem awake_is : PCalls Tryd.prog 13 [] (.pv (.lit (.bool true))) := by
  have h := awake_calls
  rw [awake_true] at h
  exact h
theorem clone_KB {l : Sl Seen} (h : KB l.D) : KB (cloneSeen l).D := by
  unfold cloneSeen
  cases l.nil
  · exact h
  · exact KB_nil
theorem clone_len (l : Sl Seen) : (cloneSeen l).D.length ≤ l.D.length := by
  unfold cloneSeen
  cases l.nil
  · exact Nat.le_refl _
  · exact Nat.zero_le _
theorem clone_D {l : Sl Seen} (h : l.nil = true → l.D = []) : (cloneSeen l).D = l.D := by
  unfold cloneSeen
  cases e : l.nil
  · rfl
  · exact (h e).symm
theorem pRightR_calls (l : Sl Seen) (n_ : Nat) (tt_ : Bool) (hn_ : n_ = l.D.length) (hl : ∀ x ∈ l.D, KeyB x.key) (hl1 : l.D.length ≤ 1000000) : MCalls Tryd.prog 11 [.sl 0 0 n_ 9 tt_] (.cells (encC eSeen l.D)) (.pv (.lit (.int .i64 (pRight l)))) (.cells (encC eSeen l.D)) := by
  subst hn_
  have hp : pRight (Sl.mk false l.D) = pRight l := pRight_rd hl hl hl1 rfl
  rw [← hp]
  exact MCalls.of_PCalls (ps := encL eSeen l.D) (pRight_calls (Sl.mk false l.D) hl hl1) ⟨.inr ⟨_, _, _, rfl, rfl⟩, trivial⟩ rfl rfl
def pSeeO (l : (Sl Seen)) (k : (Nat → Int)) (ver : Int) : List Seen :=
  (bif ((pRight l) != 0) then [] else (bif ((shRight k) != 0) then [] else (bif (decide (ver < 0)) then [] else (bif (decide (ver > 1099511627776)) then [] else (bif l.nil then (bif (ver == 0) then (bif ((pRight (Sl.mk true [])) != 0) then [] else []) else (bif ((pRight (Sl.mk false [(Seen.mk k ver)])) != 0) then [] else [(Seen.mk k ver)])) else (bif (place l k).2 then (bif ((pRight (Sl.mk false (l.D.set (((place l k).1).toNat) (Seen.mk (ofL [(l.D[((place l k).1).toNat]!.key 0), (l.D[((place l k).1).toNat]!.key 1), (l.D[((place l k).1).toNat]!.key 2), (l.D[((place l k).1).toNat]!.key 3), (l.D[((place l k).1).toNat]!.key 4), (l.D[((place l k).1).toNat]!.key 5), (l.D[((place l k).1).toNat]!.key 6), (l.D[((place l k).1).toNat]!.key 7)]) (bif (decide ((l.D[((place l k).1).toNat]!.ver) < ver)) then ver else (l.D[((place l k).1).toNat]!.ver)))))) != 0) then [] else (l.D.set (((place l k).1).toNat) (Seen.mk (ofL [(l.D[((place l k).1).toNat]!.key 0), (l.D[((place l k).1).toNat]!.key 1), (l.D[((place l k).1).toNat]!.key 2), (l.D[((place l k).1).toNat]!.key 3), (l.D[((place l k).1).toNat]!.key 4), (l.D[((place l k).1).toNat]!.key 5), (l.D[((place l k).1).toNat]!.key 6), (l.D[((place l k).1).toNat]!.key 7)]) (bif (decide ((l.D[((place l k).1).toNat]!.ver) < ver)) then ver else (l.D[((place l k).1).toNat]!.ver))))) else (bif (ver == 0) then (bif ((pRight (Sl.mk false l.D)) != 0) then [] else l.D) else (bif ((pRight (Sl.mk false (insertL l.D (((place l k).1).toNat) [(Seen.mk k ver)]))) != 0) then [] else (insertL l.D (((place l k).1).toNat) [(Seen.mk k ver)])))))))))
theorem pSeeO_calls (l : (Sl Seen)) (k : (Nat → Int)) (ver : Int) (hl : ∀ x ∈ l.D, KeyB x.key) (hk : KeyB k) (hn : l.nil = true → l.D = []) (hne : pSeeO l k ver ≠ []) (hl1 : l.D.length ≤ 1000) : OCalls Tryd.prog 22 [sS (some l.nil) eSeen l.D, .agg [.pv (.lit (.int .u8 (k 0))), .pv (.lit (.int .u8 (k 1))), .pv (.lit (.int .u8 (k 2))), .pv (.lit (.int .u8 (k 3))), .pv (.lit (.int .u8 (k 4))), .pv (.lit (.int .u8 (k 5))), .pv (.lit (.int .u8 (k 6))), .pv (.lit (.int .u8 (k 7)))], .pv (.lit (.int .i64 ver))] (.tup [.sl 0 0 (pSeeO l k ver).length 9 false, .pv (.lit (.int .i64 0))]) (.cells (encC eSeen (pSeeO l k ver))) := by
 generalize hR : pSeeO l k ver = R
 rw [hR] at hne
 refine OCalls.of_body tabOk Tryd.func22 rfl rfl rfl rfl rfl (encC_within _ _) mixed fun E hP C hI => ?_
 refine Awp.consP C ?_
 refine rvc_un (rexec_prim C (δ := { v := .ptr 4 0, new := [(4, .cells [.pv (.lit (.int .u8 (k 0))), .pv (.lit (.int .u8 (k 1))), .pv (.lit (.int .u8 (k 2))), .pv (.lit (.int .u8 (k 3))), .pv (.lit (.int .u8 (k 4))), .pv (.lit (.int .u8 (k 5))), .pv (.lit (.int .u8 (k 6))), .pv (.lit (.int .u8 (k 7)))])] }) rfl rfl rfl rfl trivial rfl ?_)
 refine rvP C (sS (some true) eSeen []) ?_
 refine rvP C (.pv (.lit (.int .i64 0))) ?_
 refine rvc_nil ?_
 refine Awp.seq ?_
 refine Awp.consP C ?_
 refine rvP C (sS (some l.nil) eSeen l.D) ?_
 refine rvc_un (rexec_call hP C rfl rfl rfl (pRight_calls l hl (Nat.le_trans hl1 (by decide))) ?_)
 refine rvP C (.pv (.lit (.int .i64 (pRight l)))) ?_
 refine rvc_nil ?_
 refine Awp.consP C ?_
 refine rvP C (.pv (.lit (.int .i64 (pRight l)))) ?_
 refine rvP C (.pv (.lit (.bool ((pRight l) != 0)))) ?_
 refine rvc_nil ?_
 refine Awp.cond (b := ((pRight l) != 0)) rfl (fun h1 => ?_) (fun h1 => ?_)
 ·
  replace hR := of_true h1 hR
  refine Awp.consP C ?_
  refine rvP C (.pv (.lit (.int .i64 (pRight l)))) ?_
  refine rvP C (sS (some true) eSeen []) ?_
  refine rvP C (.pv (.lit (.int .i64 (pRight l)))) ?_
  refine rvc_nil ?_
  exact absurd hR.symm hne
 ·
  replace hR := of_false h1 hR
  refine Awp.skip ?_
  refine Awp.seq ?_
  refine Awp.consP C ?_
  refine rvP C (.agg [.pv (.lit (.int .u8 (k 0))), .pv (.lit (.int .u8 (k 1))), .pv (.lit (.int .u8 (k 2))), .pv (.lit (.int .u8 (k 3))), .pv (.lit (.int .u8 (k 4))), .pv (.lit (.int .u8 (k 5))), .pv (.lit (.int .u8 (k 6))), .pv (.lit (.int .u8 (k 7)))]) ?_
  refine rvc_un (rexec_call hP C rfl rfl rfl (shRight_calls k hk) ?_)
  refine rvP C (.pv (.lit (.bool ((shRight k) != 0)))) ?_
  refine rvP C (.pv (.lit (.bool ((shRight k) != 0)))) ?_
  refine rvc_case 21 ((shRight k) != 0) rfl (fun h2 => ?_) (fun h2 => ?_)
  ·
   replace hR := of_true h2 hR
   refine rvS ?_
   refine rvS ?_
   refine rvP C (.pv (.lit (.bool true))) ?_
   refine rvP C (.pv (.lit (.bool true))) ?_
   refine rvS ?_
   refine rvS ?_
   refine rvP C (.pv (.lit (.bool true))) ?_
   refine rvc_nil ?_
   refine Awp.condT (b := true) rfl rfl ?_
   refine Awp.consP C ?_
   refine rvP C (sS (some true) eSeen []) ?_
   refine rvP C (.pv (.lit (.int .i64 100))) ?_
   refine rvc_nil ?_
   exact absurd hR.symm hne
  ·
   replace hR := of_false h2 hR
   refine rvO C (.pv (.lit (.int .i64 ver))) ?_
   refine rvO C (.pv (.lit (.bool (decide (ver < 0))))) ?_
   refine rvP C (.pv (.lit (.bool (decide (ver < 0))))) ?_
   refine rvP C (.pv (.lit (.bool (decide (ver < 0))))) ?_
   refine rvc_case 25 (decide (ver < 0)) rfl (fun h3 => ?_) (fun h3 => ?_)
   ·
    replace hR := of_true h3 hR
    refine rvS ?_
    refine rvS ?_
    refine rvP C (.pv (.lit (.bool true))) ?_
    refine rvc_nil ?_
    refine Awp.condT (b := true) rfl rfl ?_
    refine Awp.consP C ?_
    refine rvP C (sS (some true) eSeen []) ?_
    refine rvP C (.pv (.lit (.int .i64 100))) ?_
    refine rvc_nil ?_
    exact absurd hR.symm hne
   ·
    replace hR := of_false h3 hR
    refine rvO C (.pv (.lit (.int .i64 ver))) ?_
    refine rvO C (.pv (.lit (.bool (decide (ver > 1099511627776))))) ?_
    refine rvP C (.pv (.lit (.bool (decide (ver > 1099511627776))))) ?_
    refine rvc_nil ?_
    refine Awp.cond (b := (decide (ver > 1099511627776))) rfl (fun h4 => ?_) (fun h4 => ?_)
    ·
     replace hR := of_true h4 hR
     refine Awp.consP C ?_
     refine rvP C (sS (some true) eSeen []) ?_
     refine rvP C (.pv (.lit (.int .i64 100))) ?_
     refine rvc_nil ?_
     exact absurd hR.symm hne
    ·
     replace hR := of_false h4 hR
     refine Awp.skip ?_
     refine Awp.cons C (fun _ => .quiet) (by kernel_rfl) ?_
     refine rvP C (sS (some l.nil) eSeen l.D) ?_
     rcases Bool.eq_false_or_eq_true l.nil with h5 | h5
     ·
      replace hR := of_true h5 hR
      refine rvc_un (rexec_call hP C rfl rfl rfl (cloneSeenO_nil l h5 (by have := eq_of_bne_false h1; have := eq_of_bne_false h2; have := of_decide_eq_false h3; have := of_decide_eq_false h4; omega)) ?_)
      refine rvP C (sS (some true) eSeen []) ?_
      refine rvc_nil ?_
      refine Awp.consP C ?_
      refine rvP C (sS (some l.nil) eSeen l.D) ?_
      refine rvP C (.agg [.pv (.lit (.int .u8 (k 0))), .pv (.lit (.int .u8 (k 1))), .pv (.lit (.int .u8 (k 2))), .pv (.lit (.int .u8 (k 3))), .pv (.lit (.int .u8 (k 4))), .pv (.lit (.int .u8 (k 5))), .pv (.lit (.int .u8 (k 6))), .pv (.lit (.int .u8 (k 7)))]) ?_
      refine rvc_un (rexec_call hP C rfl rfl rfl (place_calls l k (Nat.le_trans hl1 (by decide))) ?_)
      refine rvP C (.tup [.pv (.lit (.int .i64 ((place l k).1))), .pv (.lit (.bool ((place l k).2)))]) ?_
      refine rvP C (.pv (.lit (.int .i64 ((place l k).1)))) ?_
      refine rvP C (.pv (.lit (.bool ((place l k).2)))) ?_
      refine rvP C (.pv (.lit (.int .i64 ((place l k).1)))) ?_
      refine rvP C (.pv (.lit (.bool ((place l k).2)))) ?_
      refine rvc_nil ?_
      refine Awp.seq ?_
      refine Awp.block ?_
      refine Awp.consP C ?_
      refine rvP C (.pv (.lit (.bool ((place l k).2)))) ?_
      refine rvP C (.pv (.lit (.bool ((place l k).2)))) ?_
      refine rvc_nil ?_
      refine Awp.condF (b := (place l k).2) rfl (place_nil2 (Nat.le_trans hl1 (by decide)) (hn h5)) ?_
      refine Awp.consP C ?_
      refine rvP C (.pv (.lit (.int .i64 ver))) ?_
      refine rvP C (.pv (.lit (.bool (ver == 0)))) ?_
      refine rvP C (.pv (.lit (.bool (ver == 0)))) ?_
      refine rvc_nil ?_
      refine Awp.cond (b := (ver == 0)) rfl (fun h6 => ?_) (fun h6 => ?_)
      ·
       replace hR := of_true h6 hR
       refine Awp.skip ?_
       refine Awp.seq ?_
       refine Awp.consP C ?_
       refine rvP C (sS (some true) eSeen []) ?_
       refine rvc_un (rexec_call hP C rfl rfl rfl (pRight_calls (Sl.mk true []) (by first | exact hl | exact KB_nil | exact KB_ins hl hk | exact KB_one hk | exact KB_setk hl (K8 (KB.at hl (by omega)))) (by first | (show _ ≤ 1000000; simp; done) | (show l.D.length ≤ 1000000; exact (Nat.le_trans hl1 (by decide))) | (rw [List.length_set]; exact (Nat.le_trans hl1 (by decide))) | (rw [insertL_len (place_toNat (Nat.le_trans hl1 (by decide)))]; simp; omega))) ?_)
       refine rvP C (.pv (.lit (.int .i64 (pRight (Sl.mk true []))))) ?_
       refine rvc_nil ?_
       refine Awp.consP C ?_
       refine rvP C (.pv (.lit (.int .i64 (pRight (Sl.mk true []))))) ?_
       refine rvP C (.pv (.lit (.bool ((pRight (Sl.mk true [])) != 0)))) ?_
       refine rvc_nil ?_
       refine Awp.cond (b := ((pRight (Sl.mk true [])) != 0)) rfl (fun h7 => ?_) (fun h7 => ?_)
       ·
        replace hR := of_true h7 hR
        refine Awp.consP C ?_
        refine rvP C (.pv (.lit (.int .i64 (pRight (Sl.mk true []))))) ?_
        refine rvP C (sS (some true) eSeen []) ?_
        refine rvP C (.pv (.lit (.int .i64 (pRight (Sl.mk true []))))) ?_
        refine rvc_nil ?_
        exact absurd hR.symm hne
       ·
        replace hR := of_false h7 hR
        refine Awp.skip ?_
        refine Awp.consP C ?_
        refine rvP C (sS (some true) eSeen []) ?_
        refine rvP C (sS (some true) eSeen []) ?_
        refine rvP C (.pv (.lit (.int .i64 0))) ?_
        refine rvc_nil ?_
        exact absurd hR.symm hne
      ·
       replace hR := of_false h6 hR
       refine Awp.region C (fun _ => .writer) (by kernel_rfl) ?_
       refine rvP C (sS (some true) eSeen []) ?_
       refine rvP C (.pv (.lit (.int .i64 ((place l k).1)))) ?_
       refine rvP C (.agg [.pv (.lit (.int .u8 (k 0))), .pv (.lit (.int .u8 (k 1))), .pv (.lit (.int .u8 (k 2))), .pv (.lit (.int .u8 (k 3))), .pv (.lit (.int .u8 (k 4))), .pv (.lit (.int .u8 (k 5))), .pv (.lit (.int .u8 (k 6))), .pv (.lit (.int .u8 (k 7)))]) ?_
       refine rvP C (.pv (.lit (.int .i64 ver))) ?_
       refine rvP C (.agg [.pv (.lit (.int .u8 (k 0))), .pv (.lit (.int .u8 (k 1))), .pv (.lit (.int .u8 (k 2))), .pv (.lit (.int .u8 (k 3))), .pv (.lit (.int .u8 (k 4))), .pv (.lit (.int .u8 (k 5))), .pv (.lit (.int .u8 (k 6))), .pv (.lit (.int .u8 (k 7))), .pv (.lit (.int .i64 ver))]) ?_
       refine rvc_un (rexec_buildSliceF C eSeen [(Seen.mk k ver)] rfl rfl rfl rfl rfl rfl rfl (by decide) rfl ?_)
       refine rvc_un (rexec_callO hP C rfl rfl rfl rfl (insNilI_calls ((place l k).1) (Sl.mk false [(Seen.mk k ver)]) (place_nil (Nat.le_trans hl1 (by decide)) (hn ‹l.nil = true›)) (by simp) (by simp)) ?_)
       refine rvP C (.sl 43 0 ([(Seen.mk k ver)].length) 9 false) ?_
       refine rvc_nil ?_
       refine Awp.seq ?_
       refine Awp.cons C (fun _ => .writer) (by kernel_rfl) ?_
       refine rvP C (.sl 43 0 ([(Seen.mk k ver)].length) 9 false) ?_
       refine rvc_un (rexec_callM hP C (b := 43) rfl rfl rfl (pRightR_calls (Sl.mk false [(Seen.mk k ver)]) ([(Seen.mk k ver)].length) false rfl (by first | exact hl | exact KB_nil | exact KB_ins hl hk | exact KB_one hk | exact KB_setk hl (K8 (KB.at hl (by omega)))) (by first | (show _ ≤ 1000000; simp; done) | (show l.D.length ≤ 1000000; exact (Nat.le_trans hl1 (by decide))) | (rw [List.length_set]; exact (Nat.le_trans hl1 (by decide))) | (rw [insertL_len (place_toNat (Nat.le_trans hl1 (by decide)))]; simp; omega))) rfl rfl ?_)
       refine rvP C (.pv (.lit (.int .i64 (pRight (Sl.mk false [(Seen.mk k ver)]))))) ?_
       refine rvc_nil ?_
       refine Awp.consP C ?_
       refine rvP C (.pv (.lit (.int .i64 (pRight (Sl.mk false [(Seen.mk k ver)]))))) ?_
       refine rvP C (.pv (.lit (.bool ((pRight (Sl.mk false [(Seen.mk k ver)])) != 0)))) ?_
       refine rvc_nil ?_
       refine Awp.cond (b := ((pRight (Sl.mk false [(Seen.mk k ver)])) != 0)) rfl (fun h8 => ?_) (fun h8 => ?_)
       ·
        replace hR := of_true h8 hR
        refine Awp.consP C ?_
        refine rvP C (.pv (.lit (.int .i64 (pRight (Sl.mk false [(Seen.mk k ver)]))))) ?_
        refine rvP C (sS (some true) eSeen []) ?_
        refine rvP C (.pv (.lit (.int .i64 (pRight (Sl.mk false [(Seen.mk k ver)]))))) ?_
        refine rvc_nil ?_
        exact absurd hR.symm hne
       ·
        replace hR := of_false h8 hR
        refine Awp.skip ?_
        refine Awp.consP C ?_
        refine rvP C (.sl 43 0 ([(Seen.mk k ver)].length) 9 false) ?_
        refine rvP C (.sl 43 0 ([(Seen.mk k ver)].length) 9 false) ?_
        refine rvP C (.pv (.lit (.int .i64 0))) ?_
        refine rvc_nil ?_
        refine Awp.weakenR (S := [(6, .sl 0 0 [(Seen.mk k ver)].length 9 false), (7, .pv (.lit (.int .i64 0)))]) (H := [(0, .cells (encC eSeen [(Seen.mk k ver)]))]) (U := [0]) (fun x => bif x == 0 then 43 else x) (WeakerR.ofL (Ks := [0]) hI ⟨⟨rfl, rfl⟩, ⟨rfl, rfl⟩, trivial⟩ (okH_list rfl rfl rfl okH_nil) rfl) ?_
        refine Awp.ret ?_
        subst hR
        exact ⟨.inl rfl, rfl, rfl⟩
     ·
      replace hR := of_false h5 hR
      refine rvc_un (rexec_callO hP C rfl rfl rfl rfl (cloneSeenO_calls l h5 (by have := eq_of_bne_false h1; have := eq_of_bne_false h2; have := of_decide_eq_false h3; have := of_decide_eq_false h4; omega)) ?_)
      refine rvP C (.sl 30 0 l.D.length 9 false) ?_
      refine rvc_nil ?_
      refine Awp.consP C ?_
      refine rvP C (sS (some l.nil) eSeen l.D) ?_
      refine rvP C (.agg [.pv (.lit (.int .u8 (k 0))), .pv (.lit (.int .u8 (k 1))), .pv (.lit (.int .u8 (k 2))), .pv (.lit (.int .u8 (k 3))), .pv (.lit (.int .u8 (k 4))), .pv (.lit (.int .u8 (k 5))), .pv (.lit (.int .u8 (k 6))), .pv (.lit (.int .u8 (k 7)))]) ?_
      refine rvc_un (rexec_call hP C rfl rfl rfl (place_calls l k (Nat.le_trans hl1 (by decide))) ?_)
      refine rvP C (.tup [.pv (.lit (.int .i64 ((place l k).1))), .pv (.lit (.bool ((place l k).2)))]) ?_
      refine rvP C (.pv (.lit (.int .i64 ((place l k).1)))) ?_
      refine rvP C (.pv (.lit (.bool ((place l k).2)))) ?_
      refine rvP C (.pv (.lit (.int .i64 ((place l k).1)))) ?_
      refine rvP C (.pv (.lit (.bool ((place l k).2)))) ?_
      refine rvc_nil ?_
      refine Awp.seq ?_
      refine Awp.block ?_
      refine Awp.consP C ?_
      refine rvP C (.pv (.lit (.bool ((place l k).2)))) ?_
      refine rvP C (.pv (.lit (.bool ((place l k).2)))) ?_
      refine rvc_nil ?_
      refine Awp.cond (b := (place l k).2) rfl (fun h9 => ?_) (fun h9 => ?_)
      ·
       replace hR := of_true h9 hR
       refine Awp.regionP C ?_
       refine rvP C (.sl 30 0 l.D.length 9 false) ?_
       refine rvP C (.pv (.lit (.int .i64 ((place l k).1)))) ?_
       refine rvP C (.sl 30 0 l.D.length 9 false) ?_
       refine rvP C (.pv (.lit (.int .i64 ((place l k).1)))) ?_
       have hpl_ := place_lt (k := k) (Nat.le_trans hl1 (by decide)) ‹(place l k).2 = true›
       have h10 : l.D[((place l k).1).toNat]? = some l.D[((place l k).1).toNat]! := getE (by have h_ := place_lt (k := k) (Nat.le_trans hl1 (by decide)) ‹(place l k).2 = true›; omega)
       refine rvc_un (rexec_prim C (δ := { v := .ptr 30 (0 + ((place l k).1).toNat * 9) }) rfl rfl rfl rfl ⟨(by have := eq_of_bne_false h1; have := eq_of_bne_false h2; have := of_decide_eq_false h3; have := of_decide_eq_false h4; omega), getlt h10 (by first | rfl | omega | (have := eq_of_bne_false h1; have := eq_of_bne_false h2; have := of_decide_eq_false h3; have := of_decide_eq_false h4; omega)) (by first | rfl | omega | simp)⟩ rfl ?_)
       refine rvP C (.ptr 30 (0 + ((place l k).1).toNat * 9 + 8)) ?_
       refine rvc_un (rexec_loadE C (e := eSeen) (((place l k).1).toNat) 8 (l.D[((place l k).1).toNat]!) (.pv (.lit (.int .i64 (l.D[((place l k).1).toNat]!.ver)))) rfl rfl rfl rfl h10 (by simp [eSeen]) (by decide) (by decide) rfl ?_)
       refine rvP C (.pv (.lit (.int .i64 ver))) ?_
       refine rvc_un (rexec_max C rfl rfl rfl ?_)
       refine rvc_un (rexec_prim C (δ := { v := .ptr 30 (0 + ((place l k).1).toNat * 9) }) rfl rfl rfl rfl ⟨(by have := eq_of_bne_false h1; have := eq_of_bne_false h2; have := of_decide_eq_false h3; have := of_decide_eq_false h4; omega), getlt h10 (by first | rfl | omega | (have := eq_of_bne_false h1; have := eq_of_bne_false h2; have := of_decide_eq_false h3; have := of_decide_eq_false h4; omega)) (by first | rfl | omega | simp)⟩ rfl ?_)
       refine rvP C (.ptr 30 (0 + ((place l k).1).toNat * 9 + 8)) ?_
       refine rvc_un (rexec_storeE C (e := eSeen) (((place l k).1).toNat) 8 (l.D[((place l k).1).toNat]!) (Seen.mk (ofL [(l.D[((place l k).1).toNat]!.key 0), (l.D[((place l k).1).toNat]!.key 1), (l.D[((place l k).1).toNat]!.key 2), (l.D[((place l k).1).toNat]!.key 3), (l.D[((place l k).1).toNat]!.key 4), (l.D[((place l k).1).toNat]!.key 5), (l.D[((place l k).1).toNat]!.key 6), (l.D[((place l k).1).toNat]!.key 7)]) (bif (decide ((l.D[((place l k).1).toNat]!.ver) < ver)) then ver else (l.D[((place l k).1).toNat]!.ver))) rfl rfl rfl rfl h10 (by simp [eSeen]) rfl rfl rfl (of_decide_eq_true rfl) rfl ?_)
       refine rvc_nil ?_
       refine Awp.seq ?_
       refine Awp.cons C (fun _ => .writer) (by kernel_rfl) ?_
       refine rvP C (.sl 30 0 l.D.length 9 false) ?_
       refine rvc_un (rexec_callM hP C (b := 30) rfl rfl rfl (pRightR_calls (Sl.mk false (l.D.set (((place l k).1).toNat) (Seen.mk (ofL [(l.D[((place l k).1).toNat]!.key 0), (l.D[((place l k).1).toNat]!.key 1), (l.D[((place l k).1).toNat]!.key 2), (l.D[((place l k).1).toNat]!.key 3), (l.D[((place l k).1).toNat]!.key 4), (l.D[((place l k).1).toNat]!.key 5), (l.D[((place l k).1).toNat]!.key 6), (l.D[((place l k).1).toNat]!.key 7)]) (bif (decide ((l.D[((place l k).1).toNat]!.ver) < ver)) then ver else (l.D[((place l k).1).toNat]!.ver))))) l.D.length false (by first | rfl | omega | (simp <;> omega)) (by first | exact hl | exact KB_nil | exact KB_ins hl hk | exact KB_one hk | exact KB_setk hl (K8 (KB.at hl (by omega)))) (by first | (show _ ≤ 1000000; simp; done) | (show l.D.length ≤ 1000000; exact (Nat.le_trans hl1 (by decide))) | (rw [List.length_set]; exact (Nat.le_trans hl1 (by decide))) | (rw [insertL_len (place_toNat (Nat.le_trans hl1 (by decide)))]; simp; omega))) rfl rfl ?_)
       refine rvP C (.pv (.lit (.int .i64 (pRight (Sl.mk false (l.D.set (((place l k).1).toNat) (Seen.mk (ofL [(l.D[((place l k).1).toNat]!.key 0), (l.D[((place l k).1).toNat]!.key 1), (l.D[((place l k).1).toNat]!.key 2), (l.D[((place l k).1).toNat]!.key 3), (l.D[((place l k).1).toNat]!.key 4), (l.D[((place l k).1).toNat]!.key 5), (l.D[((place l k).1).toNat]!.key 6), (l.D[((place l k).1).toNat]!.key 7)]) (bif (decide ((l.D[((place l k).1).toNat]!.ver) < ver)) then ver else (l.D[((place l k).1).toNat]!.ver))))))))) ?_
       refine rvc_nil ?_
       refine Awp.consP C ?_
       refine rvP C (.pv (.lit (.int .i64 (pRight (Sl.mk false (l.D.set (((place l k).1).toNat) (Seen.mk (ofL [(l.D[((place l k).1).toNat]!.key 0), (l.D[((place l k).1).toNat]!.key 1), (l.D[((place l k).1).toNat]!.key 2), (l.D[((place l k).1).toNat]!.key 3), (l.D[((place l k).1).toNat]!.key 4), (l.D[((place l k).1).toNat]!.key 5), (l.D[((place l k).1).toNat]!.key 6), (l.D[((place l k).1).toNat]!.key 7)]) (bif (decide ((l.D[((place l k).1).toNat]!.ver) < ver)) then ver else (l.D[((place l k).1).toNat]!.ver))))))))) ?_
       refine rvP C (.pv (.lit (.bool ((pRight (Sl.mk false (l.D.set (((place l k).1).toNat) (Seen.mk (ofL [(l.D[((place l k).1).toNat]!.key 0), (l.D[((place l k).1).toNat]!.key 1), (l.D[((place l k).1).toNat]!.key 2), (l.D[((place l k).1).toNat]!.key 3), (l.D[((place l k).1).toNat]!.key 4), (l.D[((place l k).1).toNat]!.key 5), (l.D[((place l k).1).toNat]!.key 6), (l.D[((place l k).1).toNat]!.key 7)]) (bif (decide ((l.D[((place l k).1).toNat]!.ver) < ver)) then ver else (l.D[((place l k).1).toNat]!.ver)))))) != 0)))) ?_
       refine rvc_nil ?_
       refine Awp.cond (b := ((pRight (Sl.mk false (l.D.set (((place l k).1).toNat) (Seen.mk (ofL [(l.D[((place l k).1).toNat]!.key 0), (l.D[((place l k).1).toNat]!.key 1), (l.D[((place l k).1).toNat]!.key 2), (l.D[((place l k).1).toNat]!.key 3), (l.D[((place l k).1).toNat]!.key 4), (l.D[((place l k).1).toNat]!.key 5), (l.D[((place l k).1).toNat]!.key 6), (l.D[((place l k).1).toNat]!.key 7)]) (bif (decide ((l.D[((place l k).1).toNat]!.ver) < ver)) then ver else (l.D[((place l k).1).toNat]!.ver)))))) != 0)) rfl (fun h11 => ?_) (fun h11 => ?_)
       ·
        replace hR := of_true h11 hR
        refine Awp.consP C ?_
        refine rvP C (.pv (.lit (.int .i64 (pRight (Sl.mk false (l.D.set (((place l k).1).toNat) (Seen.mk (ofL [(l.D[((place l k).1).toNat]!.key 0), (l.D[((place l k).1).toNat]!.key 1), (l.D[((place l k).1).toNat]!.key 2), (l.D[((place l k).1).toNat]!.key 3), (l.D[((place l k).1).toNat]!.key 4), (l.D[((place l k).1).toNat]!.key 5), (l.D[((place l k).1).toNat]!.key 6), (l.D[((place l k).1).toNat]!.key 7)]) (bif (decide ((l.D[((place l k).1).toNat]!.ver) < ver)) then ver else (l.D[((place l k).1).toNat]!.ver))))))))) ?_
        refine rvP C (sS (some true) eSeen []) ?_
        refine rvP C (.pv (.lit (.int .i64 (pRight (Sl.mk false (l.D.set (((place l k).1).toNat) (Seen.mk (ofL [(l.D[((place l k).1).toNat]!.key 0), (l.D[((place l k).1).toNat]!.key 1), (l.D[((place l k).1).toNat]!.key 2), (l.D[((place l k).1).toNat]!.key 3), (l.D[((place l k).1).toNat]!.key 4), (l.D[((place l k).1).toNat]!.key 5), (l.D[((place l k).1).toNat]!.key 6), (l.D[((place l k).1).toNat]!.key 7)]) (bif (decide ((l.D[((place l k).1).toNat]!.ver) < ver)) then ver else (l.D[((place l k).1).toNat]!.ver))))))))) ?_
        refine rvc_nil ?_
        exact absurd hR.symm hne
       ·
        replace hR := of_false h11 hR
        refine Awp.skip ?_
        refine Awp.consP C ?_
        refine rvP C (.sl 30 0 l.D.length 9 false) ?_
        refine rvP C (.sl 30 0 l.D.length 9 false) ?_
        refine rvP C (.pv (.lit (.int .i64 0))) ?_
        refine rvc_nil ?_
        refine Awp.weakenR (S := [(6, .sl 0 0 (l.D.set (((place l k).1).toNat) (Seen.mk (ofL [(l.D[((place l k).1).toNat]!.key 0), (l.D[((place l k).1).toNat]!.key 1), (l.D[((place l k).1).toNat]!.key 2), (l.D[((place l k).1).toNat]!.key 3), (l.D[((place l k).1).toNat]!.key 4), (l.D[((place l k).1).toNat]!.key 5), (l.D[((place l k).1).toNat]!.key 6), (l.D[((place l k).1).toNat]!.key 7)]) (bif (decide ((l.D[((place l k).1).toNat]!.ver) < ver)) then ver else (l.D[((place l k).1).toNat]!.ver)))).length 9 false), (7, .pv (.lit (.int .i64 0)))]) (H := [(0, .cells (encC eSeen (l.D.set (((place l k).1).toNat) (Seen.mk (ofL [(l.D[((place l k).1).toNat]!.key 0), (l.D[((place l k).1).toNat]!.key 1), (l.D[((place l k).1).toNat]!.key 2), (l.D[((place l k).1).toNat]!.key 3), (l.D[((place l k).1).toNat]!.key 4), (l.D[((place l k).1).toNat]!.key 5), (l.D[((place l k).1).toNat]!.key 6), (l.D[((place l k).1).toNat]!.key 7)]) (bif (decide ((l.D[((place l k).1).toNat]!.ver) < ver)) then ver else (l.D[((place l k).1).toNat]!.ver))))))]) (U := [0]) (fun x => bif x == 0 then 30 else x) (WeakerR.ofL (Ks := [0]) hI ⟨⟨(sl_to rfl rfl (by simp)), rfl⟩, ⟨rfl, rfl⟩, trivial⟩ (okH_list rfl rfl rfl okH_nil) rfl) ?_
        refine Awp.ret ?_
        subst hR
        exact ⟨.inl rfl, rfl, rfl⟩
      ·
       replace hR := of_false h9 hR
       refine Awp.consP C ?_
       refine rvP C (.pv (.lit (.int .i64 ver))) ?_
       refine rvP C (.pv (.lit (.bool (ver == 0)))) ?_
       refine rvP C (.pv (.lit (.bool (ver == 0)))) ?_
       refine rvc_nil ?_
       refine Awp.cond (b := (ver == 0)) rfl (fun h12 => ?_) (fun h12 => ?_)
       ·
        replace hR := of_true h12 hR
        refine Awp.skip ?_
        refine Awp.seq ?_
        refine Awp.cons C (fun _ => .writer) (by kernel_rfl) ?_
        refine rvP C (.sl 30 0 l.D.length 9 false) ?_
        refine rvc_un (rexec_callM hP C (b := 30) rfl rfl rfl (pRightR_calls (Sl.mk false l.D) l.D.length false rfl (by first | exact hl | exact KB_nil | exact KB_ins hl hk | exact KB_one hk | exact KB_setk hl (K8 (KB.at hl (by omega)))) (by first | (show _ ≤ 1000000; simp; done) | (show l.D.length ≤ 1000000; exact (Nat.le_trans hl1 (by decide))) | (rw [List.length_set]; exact (Nat.le_trans hl1 (by decide))) | (rw [insertL_len (place_toNat (Nat.le_trans hl1 (by decide)))]; simp; omega))) rfl rfl ?_)
        refine rvP C (.pv (.lit (.int .i64 (pRight (Sl.mk false l.D))))) ?_
        refine rvc_nil ?_
        refine Awp.consP C ?_
        refine rvP C (.pv (.lit (.int .i64 (pRight (Sl.mk false l.D))))) ?_
        refine rvP C (.pv (.lit (.bool ((pRight (Sl.mk false l.D)) != 0)))) ?_
        refine rvc_nil ?_
        refine Awp.cond (b := ((pRight (Sl.mk false l.D)) != 0)) rfl (fun h13 => ?_) (fun h13 => ?_)
        ·
         replace hR := of_true h13 hR
         refine Awp.consP C ?_
         refine rvP C (.pv (.lit (.int .i64 (pRight (Sl.mk false l.D))))) ?_
         refine rvP C (sS (some true) eSeen []) ?_
         refine rvP C (.pv (.lit (.int .i64 (pRight (Sl.mk false l.D))))) ?_
         refine rvc_nil ?_
         exact absurd hR.symm hne
        ·
         replace hR := of_false h13 hR
         refine Awp.skip ?_
         refine Awp.consP C ?_
         refine rvP C (.sl 30 0 l.D.length 9 false) ?_
         refine rvP C (.sl 30 0 l.D.length 9 false) ?_
         refine rvP C (.pv (.lit (.int .i64 0))) ?_
         refine rvc_nil ?_
         refine Awp.weakenR (S := [(6, .sl 0 0 l.D.length 9 false), (7, .pv (.lit (.int .i64 0)))]) (H := [(0, .cells (encC eSeen l.D))]) (U := [0]) (fun x => bif x == 0 then 30 else x) (WeakerR.ofL (Ks := [0]) hI ⟨⟨rfl, rfl⟩, ⟨rfl, rfl⟩, trivial⟩ (okH_list rfl rfl rfl okH_nil) rfl) ?_
         refine Awp.ret ?_
         subst hR
         exact ⟨.inl rfl, rfl, rfl⟩
       ·
        replace hR := of_false h12 hR
        refine Awp.region C (fun _ => .writer) (by kernel_rfl) ?_
        refine rvP C (.sl 30 0 l.D.length 9 false) ?_
        refine rvP C (.pv (.lit (.int .i64 ((place l k).1)))) ?_
        refine rvP C (.agg [.pv (.lit (.int .u8 (k 0))), .pv (.lit (.int .u8 (k 1))), .pv (.lit (.int .u8 (k 2))), .pv (.lit (.int .u8 (k 3))), .pv (.lit (.int .u8 (k 4))), .pv (.lit (.int .u8 (k 5))), .pv (.lit (.int .u8 (k 6))), .pv (.lit (.int .u8 (k 7)))]) ?_
        refine rvP C (.pv (.lit (.int .i64 ver))) ?_
        refine rvP C (.agg [.pv (.lit (.int .u8 (k 0))), .pv (.lit (.int .u8 (k 1))), .pv (.lit (.int .u8 (k 2))), .pv (.lit (.int .u8 (k 3))), .pv (.lit (.int .u8 (k 4))), .pv (.lit (.int .u8 (k 5))), .pv (.lit (.int .u8 (k 6))), .pv (.lit (.int .u8 (k 7))), .pv (.lit (.int .i64 ver))]) ?_
        refine rvc_un (rexec_buildSliceF C eSeen [(Seen.mk k ver)] rfl rfl rfl rfl rfl rfl rfl (by decide) rfl ?_)
        refine rvc_un (rexec_callT hP C (b := 30) rfl rfl rfl rfl (insertSI_calls l.D ((place l k).1) (Sl.mk false [(Seen.mk k ver)]) (place_le l k (Nat.le_trans hl1 (by decide))) (by simp) (Nat.le_trans hl1 (by decide)) (by simp)) rfl rfl ?_)
        refine rvP C (.sl 43 0 ((insertL l.D (((place l k).1).toNat) [(Seen.mk k ver)]).length) 9 false) ?_
        refine rvc_nil ?_
        refine Awp.seq ?_
        refine Awp.cons C (fun _ => .writer) (by kernel_rfl) ?_
        refine rvP C (.sl 43 0 ((insertL l.D (((place l k).1).toNat) [(Seen.mk k ver)]).length) 9 false) ?_
        refine rvc_un (rexec_callM hP C (b := 43) rfl rfl rfl (pRightR_calls (Sl.mk false (insertL l.D (((place l k).1).toNat) [(Seen.mk k ver)])) ((insertL l.D (((place l k).1).toNat) [(Seen.mk k ver)]).length) false rfl (by first | exact hl | exact KB_nil | exact KB_ins hl hk | exact KB_one hk | exact KB_setk hl (K8 (KB.at hl (by omega)))) (by first | (show _ ≤ 1000000; simp; done) | (show l.D.length ≤ 1000000; exact (Nat.le_trans hl1 (by decide))) | (rw [List.length_set]; exact (Nat.le_trans hl1 (by decide))) | (rw [insertL_len (place_toNat (Nat.le_trans hl1 (by decide)))]; simp; omega))) rfl rfl ?_)
        refine rvP C (.pv (.lit (.int .i64 (pRight (Sl.mk false (insertL l.D (((place l k).1).toNat) [(Seen.mk k ver)])))))) ?_
        refine rvc_nil ?_
        refine Awp.consP C ?_
        refine rvP C (.pv (.lit (.int .i64 (pRight (Sl.mk false (insertL l.D (((place l k).1).toNat) [(Seen.mk k ver)])))))) ?_
        refine rvP C (.pv (.lit (.bool ((pRight (Sl.mk false (insertL l.D (((place l k).1).toNat) [(Seen.mk k ver)]))) != 0)))) ?_
        refine rvc_nil ?_
        refine Awp.cond (b := ((pRight (Sl.mk false (insertL l.D (((place l k).1).toNat) [(Seen.mk k ver)]))) != 0)) rfl (fun h14 => ?_) (fun h14 => ?_)
        ·
         replace hR := of_true h14 hR
         refine Awp.consP C ?_
         refine rvP C (.pv (.lit (.int .i64 (pRight (Sl.mk false (insertL l.D (((place l k).1).toNat) [(Seen.mk k ver)])))))) ?_
         refine rvP C (sS (some true) eSeen []) ?_
         refine rvP C (.pv (.lit (.int .i64 (pRight (Sl.mk false (insertL l.D (((place l k).1).toNat) [(Seen.mk k ver)])))))) ?_
         refine rvc_nil ?_
         exact absurd hR.symm hne
        ·
         replace hR := of_false h14 hR
         refine Awp.skip ?_
         refine Awp.consP C ?_
         refine rvP C (.sl 43 0 ((insertL l.D (((place l k).1).toNat) [(Seen.mk k ver)]).length) 9 false) ?_
         refine rvP C (.sl 43 0 ((insertL l.D (((place l k).1).toNat) [(Seen.mk k ver)]).length) 9 false) ?_
         refine rvP C (.pv (.lit (.int .i64 0))) ?_
         refine rvc_nil ?_
         refine Awp.weakenR (S := [(6, .sl 0 0 (insertL l.D (((place l k).1).toNat) [(Seen.mk k ver)]).length 9 false), (7, .pv (.lit (.int .i64 0)))]) (H := [(0, .cells (encC eSeen (insertL l.D (((place l k).1).toNat) [(Seen.mk k ver)])))]) (U := [0]) (fun x => bif x == 0 then 43 else x) (WeakerR.ofL (Ks := [0]) hI ⟨⟨rfl, rfl⟩, ⟨rfl, rfl⟩, trivial⟩ (okH_list rfl rfl rfl okH_nil) rfl) ?_
         refine Awp.ret ?_
         subst hR
         exact ⟨.inl rfl, rfl, rfl⟩
def rpSeeO_l0 (l : (Sl Seen)) (k : (Nat → Int)) (ver : Int) : List Seen → Nat → (List Seen) → Bool → List Seen
  | [], _, out, put => (bif (!put) then (bif (decide ((((out ++ [(Seen.mk k (bif (decide (ver < (rpFloor l k))) then (rpFloor l k) else ver))]).length) : Int) > 6)) then [] else (out ++ [(Seen.mk k (bif (decide (ver < (rpFloor l k))) then (rpFloor l k) else ver))])) else (bif (decide ((out.length : Int) > 6)) then [] else out))
  | x :: xs, i, out, put => (bif (!put) then (bif (!(rLess x.key k)) then (bif (!(((x.key 0) == (k 0)) && (((x.key 1) == (k 1)) && (((x.key 2) == (k 2)) && (((x.key 3) == (k 3)) && (((x.key 4) == (k 4)) && (((x.key 5) == (k 5)) && (((x.key 6) == (k 6)) && (((x.key 7) == (k 7)) && true))))))))) then rpSeeO_l0 l k ver xs (i + 1) ((out ++ [(Seen.mk k (bif (decide (ver < (rpFloor l k))) then (rpFloor l k) else ver))]) ++ [x]) true else rpSeeO_l0 l k ver xs (i + 1) (out ++ [(Seen.mk k (bif (decide (ver < (rpFloor l k))) then (rpFloor l k) else ver))]) true) else (bif (!(((x.key 0) == (k 0)) && (((x.key 1) == (k 1)) && (((x.key 2) == (k 2)) && (((x.key 3) == (k 3)) && (((x.key 4) == (k 4)) && (((x.key 5) == (k 5)) && (((x.key 6) == (k 6)) && (((x.key 7) == (k 7)) && true))))))))) then rpSeeO_l0 l k ver xs (i + 1) (out ++ [x]) put else rpSeeO_l0 l k ver xs (i + 1) out put)) else (bif (!(((x.key 0) == (k 0)) && (((x.key 1) == (k 1)) && (((x.key 2) == (k 2)) && (((x.key 3) == (k 3)) && (((x.key 4) == (k 4)) && (((x.key 5) == (k 5)) && (((x.key 6) == (k 6)) && (((x.key 7) == (k 7)) && true))))))))) then rpSeeO_l0 l k ver xs (i + 1) (out ++ [x]) put else rpSeeO_l0 l k ver xs (i + 1) out put))
def rpSeeO (l : (Sl Seen)) (k : (Nat → Int)) (ver : Int) : List Seen :=
  (bif ((rpRight l) != 0) then [] else (bif (!(rKey k)) then [] else (bif (decide (ver < 0)) then [] else (bif (decide (ver > 1099511627776)) then [] else rpSeeO_l0 l k ver l.D 0 [] ((bif (decide (ver < (rpFloor l k))) then (rpFloor l k) else ver) == 0)))))
theorem rpSeeO_calls (l : (Sl Seen)) (k : (Nat → Int)) (ver : Int) (hl : ∀ x ∈ l.D, KeyB x.key) (hk : KeyB k) (hne : rpSeeO l k ver ≠ []) (hl1 : l.D.length ≤ 1000) : OCalls Tryd.prog 23 [sS (some l.nil) eSeen l.D, .agg [.pv (.lit (.int .u8 (k 0))), .pv (.lit (.int .u8 (k 1))), .pv (.lit (.int .u8 (k 2))), .pv (.lit (.int .u8 (k 3))), .pv (.lit (.int .u8 (k 4))), .pv (.lit (.int .u8 (k 5))), .pv (.lit (.int .u8 (k 6))), .pv (.lit (.int .u8 (k 7)))], .pv (.lit (.int .i64 ver))] (.tup [.sl 0 0 (rpSeeO l k ver).length 9 false, .pv (.lit (.int .i64 0))]) (.cells (encC eSeen (rpSeeO l k ver))) := by
 generalize hR : rpSeeO l k ver = R
 rw [hR] at hne
 refine OCalls.of_body tabOk Tryd.func23 rfl rfl rfl rfl rfl (encC_within _ _) mixed fun E hP C hI => ?_
 refine Awp.consP C ?_
 refine rvc_un (rexec_prim C (δ := { v := .ptr 4 0, new := [(4, .cells [.pv (.lit (.int .u8 (k 0))), .pv (.lit (.int .u8 (k 1))), .pv (.lit (.int .u8 (k 2))), .pv (.lit (.int .u8 (k 3))), .pv (.lit (.int .u8 (k 4))), .pv (.lit (.int .u8 (k 5))), .pv (.lit (.int .u8 (k 6))), .pv (.lit (.int .u8 (k 7)))])] }) rfl rfl rfl rfl trivial rfl ?_)
 refine rvP C (sS (some true) eSeen []) ?_
 refine rvP C (.pv (.lit (.int .i64 0))) ?_
 refine rvc_nil ?_
 refine Awp.seq ?_
 refine Awp.consP C ?_
 refine rvP C (sS (some l.nil) eSeen l.D) ?_
 refine rvc_un (rexec_call hP C rfl rfl rfl (rpRight_calls l hl (Nat.le_trans hl1 (by decide))) ?_)
 refine rvP C (.pv (.lit (.int .i64 (rpRight l)))) ?_
 refine rvc_nil ?_
 refine Awp.consP C ?_
 refine rvP C (.pv (.lit (.int .i64 (rpRight l)))) ?_
 refine rvP C (.pv (.lit (.bool ((rpRight l) != 0)))) ?_
 refine rvc_nil ?_
 refine Awp.cond (b := ((rpRight l) != 0)) rfl (fun h1 => ?_) (fun h1 => ?_)
 ·
  replace hR := of_true h1 hR
  refine Awp.consP C ?_
  refine rvP C (.pv (.lit (.int .i64 (rpRight l)))) ?_
  refine rvP C (sS (some true) eSeen []) ?_
  refine rvP C (.pv (.lit (.int .i64 (rpRight l)))) ?_
  refine rvc_nil ?_
  exact absurd hR.symm hne
 ·
  replace hR := of_false h1 hR
  refine Awp.skip ?_
  refine Awp.seq ?_
  refine Awp.consP C ?_
  refine rvP C (.agg [.pv (.lit (.int .u8 (k 0))), .pv (.lit (.int .u8 (k 1))), .pv (.lit (.int .u8 (k 2))), .pv (.lit (.int .u8 (k 3))), .pv (.lit (.int .u8 (k 4))), .pv (.lit (.int .u8 (k 5))), .pv (.lit (.int .u8 (k 6))), .pv (.lit (.int .u8 (k 7)))]) ?_
  refine rvc_un (rexec_call hP C rfl rfl rfl (rKey_calls k hk) ?_)
  refine rvP C (.pv (.lit (.bool (!(rKey k))))) ?_
  refine rvP C (.pv (.lit (.bool (!(rKey k))))) ?_
  refine rvc_case 21 (!(rKey k)) rfl (fun h2 => ?_) (fun h2 => ?_)
  ·
   replace hR := of_true h2 hR
   refine rvS ?_
   refine rvS ?_
   refine rvP C (.pv (.lit (.bool true))) ?_
   refine rvP C (.pv (.lit (.bool true))) ?_
   refine rvS ?_
   refine rvS ?_
   refine rvP C (.pv (.lit (.bool true))) ?_
   refine rvc_nil ?_
   refine Awp.condT (b := true) rfl rfl ?_
   refine Awp.consP C ?_
   refine rvP C (sS (some true) eSeen []) ?_
   refine rvP C (.pv (.lit (.int .i64 100))) ?_
   refine rvc_nil ?_
   exact absurd hR.symm hne
  ·
   replace hR := of_false h2 hR
   refine rvO C (.pv (.lit (.int .i64 ver))) ?_
   refine rvO C (.pv (.lit (.bool (decide (ver < 0))))) ?_
   refine rvP C (.pv (.lit (.bool (decide (ver < 0))))) ?_
   refine rvP C (.pv (.lit (.bool (decide (ver < 0))))) ?_
   refine rvc_case 25 (decide (ver < 0)) rfl (fun h3 => ?_) (fun h3 => ?_)
   ·
    replace hR := of_true h3 hR
    refine rvS ?_
    refine rvS ?_
    refine rvP C (.pv (.lit (.bool true))) ?_
    refine rvc_nil ?_
    refine Awp.condT (b := true) rfl rfl ?_
    refine Awp.consP C ?_
    refine rvP C (sS (some true) eSeen []) ?_
    refine rvP C (.pv (.lit (.int .i64 100))) ?_
    refine rvc_nil ?_
    exact absurd hR.symm hne
   ·
    replace hR := of_false h3 hR
    refine rvO C (.pv (.lit (.int .i64 ver))) ?_
    refine rvO C (.pv (.lit (.bool (decide (ver > 1099511627776))))) ?_
    refine rvP C (.pv (.lit (.bool (decide (ver > 1099511627776))))) ?_
    refine rvc_nil ?_
    refine Awp.cond (b := (decide (ver > 1099511627776))) rfl (fun h4 => ?_) (fun h4 => ?_)
    ·
     replace hR := of_true h4 hR
     refine Awp.consP C ?_
     refine rvP C (sS (some true) eSeen []) ?_
     refine rvP C (.pv (.lit (.int .i64 100))) ?_
     refine rvc_nil ?_
     exact absurd hR.symm hne
    ·
     replace hR := of_false h4 hR
     refine Awp.skip ?_
     refine Awp.consP C ?_
     refine rvP C (.pv (.lit (.int .i64 ver))) ?_
     refine rvP C (sS (some l.nil) eSeen l.D) ?_
     refine rvP C (.agg [.pv (.lit (.int .u8 (k 0))), .pv (.lit (.int .u8 (k 1))), .pv (.lit (.int .u8 (k 2))), .pv (.lit (.int .u8 (k 3))), .pv (.lit (.int .u8 (k 4))), .pv (.lit (.int .u8 (k 5))), .pv (.lit (.int .u8 (k 6))), .pv (.lit (.int .u8 (k 7)))]) ?_
     refine rvc_un (rexec_call hP C rfl rfl rfl (rpFloor_calls l k hl (Nat.le_trans hl1 (by decide))) ?_)
     refine rvc_un (rexec_max C rfl rfl rfl ?_)
     refine rvP C (.pv (.lit (.int .i64 (bif (decide (ver < (rpFloor l k))) then (rpFloor l k) else ver)))) ?_
     refine rvc_nil ?_
     refine Awp.consP C ?_
     refine rvP C (sS (some true) eSeen []) ?_
     refine rvc_nil ?_
     refine Awp.consP C ?_
     refine rvP C (.pv (.lit (.int .i64 (bif (decide (ver < (rpFloor l k))) then (rpFloor l k) else ver)))) ?_
     refine rvP C (.pv (.lit (.bool ((bif (decide (ver < (rpFloor l k))) then (rpFloor l k) else ver) == 0)))) ?_
     refine rvP C (.pv (.lit (.bool ((bif (decide (ver < (rpFloor l k))) then (rpFloor l k) else ver) == 0)))) ?_
     refine rvc_nil ?_
     refine Awp.seq ?_
     refine Awp.consP C ?_
     refine rvP C (sS (some l.nil) eSeen l.D) ?_
     refine rvP C (.pv (.lit (.int .i64 (l.D.length : Int)))) ?_
     refine rvP C (.pv (.lit (.int .i64 0))) ?_
     refine rvc_nil ?_
     refine Awp.block ?_
     refine Awp.forR (σ := ((List Seen)) × Bool) (l.D.length) (fun i v => [(2, .pv (.lit (.int .i64 (bif (decide (ver < (rpFloor l k))) then (rpFloor l k) else ver)))), (4, .ptr 4 0), (9, grow 900 eSeen v.1), (10, .pv (.lit (.bool v.2))), (36, sS (some l.nil) eSeen l.D), (37, .pv (.lit (.int .i64 (l.D.length : Int)))), (38, .pv (.lit (.int .i64 (i : Int))))]) (fun i v => (growH 900 eSeen v.1 ++ ([(4, .cells [.pv (.lit (.int .u8 (k 0))), .pv (.lit (.int .u8 (k 1))), .pv (.lit (.int .u8 (k 2))), .pv (.lit (.int .u8 (k 3))), .pv (.lit (.int .u8 (k 4))), .pv (.lit (.int .u8 (k 5))), .pv (.lit (.int .u8 (k 6))), .pv (.lit (.int .u8 (k 7)))])]))) [4, 900] (fun i v => (rpSeeO_l0 l k ver (l.D.drop i) i v.1 v.2 = R) ∧ (v.1.length ≤ i * 2)) ([], ((bif (decide (ver < (rpFloor l k))) then (rpFloor l k) else ver) == 0)) ?_ ?_ (fun i v h5 hR => ?_)
     · exact ⟨hR, (by first | omega | (simp <;> omega))⟩
     · exact ⟨fun b => b, WeakerR.ofL (Ks := [4, 900]) hI ⟨⟨rfl, rfl⟩, ⟨rfl, rfl⟩, ⟨rfl, rfl⟩, ⟨rfl, rfl⟩, ⟨rfl, rfl⟩, ⟨rfl, rfl⟩, ⟨rfl, rfl⟩, trivial⟩ (okH_grow (fun hne => absurd rfl hne) rfl rfl (okH_cons rfl rfl rfl rfl (okH_nil))) rfl⟩
     obtain ⟨out, put⟩ := v
     obtain ⟨hR, hi_out⟩ := hR
     replace hi_out : out.length ≤ i * 2 := hi_out
     by_cases h6 : out = []
     ·
      refine Awp.wordsR [(2, .pv (.lit (.int .i64 (bif (decide (ver < (rpFloor l k))) then (rpFloor l k) else ver)))), (4, .ptr 4 0), (9, sS (some out.isEmpty) eSeen out), (10, .pv (.lit (.bool put))), (36, sS (some l.nil) eSeen l.D), (37, .pv (.lit (.int .i64 (l.D.length : Int)))), (38, .pv (.lit (.int .i64 (i : Int))))] [(4, .cells [.pv (.lit (.int .u8 (k 0))), .pv (.lit (.int .u8 (k 1))), .pv (.lit (.int .u8 (k 2))), .pv (.lit (.int .u8 (k 3))), .pv (.lit (.int .u8 (k 4))), .pv (.lit (.int .u8 (k 5))), .pv (.lit (.int .u8 (k 6))), .pv (.lit (.int .u8 (k 7)))])] [4] (WeakerR.ofL (Ks := [4]) hI ⟨⟨rfl, rfl⟩, ⟨rfl, rfl⟩, ⟨(by exact grow_at_nil (b := 900) (e := eSeen) (l := out) rfl h6), rfl⟩, ⟨rfl, rfl⟩, ⟨rfl, rfl⟩, ⟨rfl, rfl⟩, ⟨rfl, rfl⟩, trivial⟩ (okH_cons (look_nil h6 rfl) rfl rfl rfl (okH_nil)) rfl) ?_
      refine Awp.consP C ?_
      refine rvP C (.pv (.lit (.bool (decide ((i : Int) < (l.D.length : Int)))))) ?_
      refine rvc_nil ?_
      refine Awp.seq ?_
      refine Awp.cond (b := (decide ((i : Int) < (l.D.length : Int)))) rfl (fun h7 => ?_) (fun h7 => ?_)
      ·
       have h8 : i < l.D.length := by have := of_decide_eq_true h7; omega
       obtain ⟨x, h9⟩ := getX h8
       rw [drop_at h9] at hR
       refine Awp.skip ?_
       refine Awp.seq ?_
       refine Awp.block ?_
       refine Awp.consP C ?_
       refine rvc_un (rexec_idxS C rfl rfl rfl rfl rfl rfl x (Int.natCast_nonneg _) h9 ?_)
       refine rvP C (.agg [.pv (.lit (.int .u8 (x.key 0))), .pv (.lit (.int .u8 (x.key 1))), .pv (.lit (.int .u8 (x.key 2))), .pv (.lit (.int .u8 (x.key 3))), .pv (.lit (.int .u8 (x.key 4))), .pv (.lit (.int .u8 (x.key 5))), .pv (.lit (.int .u8 (x.key 6))), .pv (.lit (.int .u8 (x.key 7))), .pv (.lit (.int .i64 x.ver))]) ?_
       refine rvc_un (rexec_prim C (δ := { v := .ptr 12 0, new := [(12, .cells [.pv (.lit (.int .u8 0)), .pv (.lit (.int .u8 0)), .pv (.lit (.int .u8 0)), .pv (.lit (.int .u8 0)), .pv (.lit (.int .u8 0)), .pv (.lit (.int .u8 0)), .pv (.lit (.int .u8 0)), .pv (.lit (.int .u8 0)), .pv (.lit (.int .i64 0))])] }) rfl rfl rfl rfl trivial rfl ?_)
       refine rvc_un (rexec_prim C (δ := { v := .undef, wr := [(12, some (.cells [.pv (.lit (.int .u8 (x.key 0))), .pv (.lit (.int .u8 (x.key 1))), .pv (.lit (.int .u8 (x.key 2))), .pv (.lit (.int .u8 (x.key 3))), .pv (.lit (.int .u8 (x.key 4))), .pv (.lit (.int .u8 (x.key 5))), .pv (.lit (.int .u8 (x.key 6))), .pv (.lit (.int .u8 (x.key 7))), .pv (.lit (.int .i64 x.ver))]))] }) rfl rfl rfl rfl trivial rfl ?_)
       refine rvc_nil ?_
       refine Awp.seq ?_
       refine Awp.consP C ?_
       refine rvP C (.pv (.lit (.bool put))) ?_
       refine rvP C (.pv (.lit (.bool (!put)))) ?_
       refine rvP C (.pv (.lit (.bool (!put)))) ?_
       refine rvc_case 44 (!put) rfl (fun h10 => ?_) (fun h10 => ?_)
       ·
        replace hR := of_true h10 hR
        refine rvO C (.ptr 12 0) ?_
        refine rvO C (.agg [.pv (.lit (.int .u8 (x.key 0))), .pv (.lit (.int .u8 (x.key 1))), .pv (.lit (.int .u8 (x.key 2))), .pv (.lit (.int .u8 (x.key 3))), .pv (.lit (.int .u8 (x.key 4))), .pv (.lit (.int .u8 (x.key 5))), .pv (.lit (.int .u8 (x.key 6))), .pv (.lit (.int .u8 (x.key 7)))]) ?_
        refine rvO C (.agg [.pv (.lit (.int .u8 (k 0))), .pv (.lit (.int .u8 (k 1))), .pv (.lit (.int .u8 (k 2))), .pv (.lit (.int .u8 (k 3))), .pv (.lit (.int .u8 (k 4))), .pv (.lit (.int .u8 (k 5))), .pv (.lit (.int .u8 (k 6))), .pv (.lit (.int .u8 (k 7)))]) ?_
        refine rvc_open rfl rfl rfl (rexec_call hP C rfl rfl rfl (rLess_calls x.key k) ?_)
        refine rvO C (.pv (.lit (.bool (!(rLess x.key k))))) ?_
        refine rvP C (.pv (.lit (.bool (!(rLess x.key k))))) ?_
        refine rvc_nil ?_
        refine Awp.cond (b := (!(rLess x.key k))) rfl (fun h11 => ?_) (fun h11 => ?_)
        ·
         replace hR := of_true h11 hR
         refine Awp.consP C ?_
         refine rvP C (sS (some out.isEmpty) eSeen out) ?_
         refine rvP C (.agg [.pv (.lit (.int .u8 (k 0))), .pv (.lit (.int .u8 (k 1))), .pv (.lit (.int .u8 (k 2))), .pv (.lit (.int .u8 (k 3))), .pv (.lit (.int .u8 (k 4))), .pv (.lit (.int .u8 (k 5))), .pv (.lit (.int .u8 (k 6))), .pv (.lit (.int .u8 (k 7)))]) ?_
         refine rvP C (.pv (.lit (.int .i64 (bif (decide (ver < (rpFloor l k))) then (rpFloor l k) else ver)))) ?_
         refine rvP C (.agg [.pv (.lit (.int .u8 (k 0))), .pv (.lit (.int .u8 (k 1))), .pv (.lit (.int .u8 (k 2))), .pv (.lit (.int .u8 (k 3))), .pv (.lit (.int .u8 (k 4))), .pv (.lit (.int .u8 (k 5))), .pv (.lit (.int .u8 (k 6))), .pv (.lit (.int .u8 (k 7))), .pv (.lit (.int .i64 (bif (decide (ver < (rpFloor l k))) then (rpFloor l k) else ver)))]) ?_
         refine rvc_un (rexec_buildSliceF C eSeen [(Seen.mk k (bif (decide (ver < (rpFloor l k))) then (rpFloor l k) else ver))] rfl rfl rfl rfl rfl rfl rfl (by decide) rfl ?_)
         refine rvc_un (rexec_appendG C rfl rfl rfl rfl rfl rfl rfl rfl (fun _ h => by cases h) rfl (en := eSeen) (l := out) (D := [(Seen.mk k (bif (decide (ver < (rpFloor l k))) then (rpFloor l k) else ver))]) rfl rfl h6 (by rw [h6]; rfl) (by simp) (by have := eq_of_bne_false h1; have := of_decide_eq_false h3; have := of_decide_eq_false h4; have := of_decide_eq_true h7; first | omega | (simp <;> omega)) (by decide) (nn := (out ++ [(Seen.mk k (bif (decide (ver < (rpFloor l k))) then (rpFloor l k) else ver))]).length) (by simp) ?_)
         refine rvP C (.sl 56 0 ((out ++ [(Seen.mk k (bif (decide (ver < (rpFloor l k))) then (rpFloor l k) else ver))]).length) 9 false) ?_
         refine rvc_nil ?_
         refine Awp.regionP C ?_
         refine rvP C (.pv (.lit (.bool true))) ?_
         refine rvc_nil ?_
         refine Awp.consP C ?_
         refine rvP C (.ptr 12 0) ?_
         refine rvP C (.agg [.pv (.lit (.int .u8 (x.key 0))), .pv (.lit (.int .u8 (x.key 1))), .pv (.lit (.int .u8 (x.key 2))), .pv (.lit (.int .u8 (x.key 3))), .pv (.lit (.int .u8 (x.key 4))), .pv (.lit (.int .u8 (x.key 5))), .pv (.lit (.int .u8 (x.key 6))), .pv (.lit (.int .u8 (x.key 7)))]) ?_
         refine rvP C (.agg [.pv (.lit (.int .u8 (k 0))), .pv (.lit (.int .u8 (k 1))), .pv (.lit (.int .u8 (k 2))), .pv (.lit (.int .u8 (k 3))), .pv (.lit (.int .u8 (k 4))), .pv (.lit (.int .u8 (k 5))), .pv (.lit (.int .u8 (k 6))), .pv (.lit (.int .u8 (k 7)))]) ?_
         refine rvP C (.pv (.lit (.bool (!(((x.key 0) == (k 0)) && (((x.key 1) == (k 1)) && (((x.key 2) == (k 2)) && (((x.key 3) == (k 3)) && (((x.key 4) == (k 4)) && (((x.key 5) == (k 5)) && (((x.key 6) == (k 6)) && (((x.key 7) == (k 7)) && true)))))))))))) ?_
         refine rvc_nil ?_
         refine Awp.cond (b := (!(((x.key 0) == (k 0)) && (((x.key 1) == (k 1)) && (((x.key 2) == (k 2)) && (((x.key 3) == (k 3)) && (((x.key 4) == (k 4)) && (((x.key 5) == (k 5)) && (((x.key 6) == (k 6)) && (((x.key 7) == (k 7)) && true)))))))))) rfl (fun h12 => ?_) (fun h12 => ?_)
         ·
          replace hR := of_true h12 hR
          refine Awp.regionP C ?_
          refine rvP C (.sl 56 0 ((out ++ [(Seen.mk k (bif (decide (ver < (rpFloor l k))) then (rpFloor l k) else ver))]).length) 9 false) ?_
          refine rvP C (.agg [.pv (.lit (.int .u8 (x.key 0))), .pv (.lit (.int .u8 (x.key 1))), .pv (.lit (.int .u8 (x.key 2))), .pv (.lit (.int .u8 (x.key 3))), .pv (.lit (.int .u8 (x.key 4))), .pv (.lit (.int .u8 (x.key 5))), .pv (.lit (.int .u8 (x.key 6))), .pv (.lit (.int .u8 (x.key 7))), .pv (.lit (.int .i64 x.ver))]) ?_
          refine rvc_un (rexec_buildSliceF C eSeen [x] rfl rfl rfl rfl rfl rfl rfl (by decide) rfl ?_)
          refine rvc_un (rexec_append C rfl rfl rfl rfl rfl rfl rfl rfl (fun _ h => by cases h) rfl (en := eSeen) (D0 := (out ++ [(Seen.mk k (bif (decide (ver < (rpFloor l k))) then (rpFloor l k) else ver))])) (D := [x]) rfl rfl rfl rfl (by have := eq_of_bne_false h1; have := of_decide_eq_false h3; have := of_decide_eq_false h4; have := of_decide_eq_true h7; first | omega | (simp <;> omega)) (by decide) (nn := ((out ++ [(Seen.mk k (bif (decide (ver < (rpFloor l k))) then (rpFloor l k) else ver))]) ++ [x]).length) (by simp) ?_)
          refine rvP C (.sl 64 0 (((out ++ [(Seen.mk k (bif (decide (ver < (rpFloor l k))) then (rpFloor l k) else ver))]) ++ [x]).length) 9 false) ?_
          refine rvc_nil ?_
          refine Awp.regionP C ?_
          refine rvP C (.pv (.lit (.int .i64 (IntKind.i64.wrap ((i : Int) + 1))))) ?_
          refine rvP C (.pv (.lit (.int .i64 (IntKind.i64.wrap ((i : Int) + 1))))) ?_
          refine rvc_nil ?_
          refine ⟨h8, (((out ++ [(Seen.mk k (bif (decide (ver < (rpFloor l k))) then (rpFloor l k) else ver))]) ++ [x]), true), ?_, ?_⟩
          · exact ⟨hR, (by first | omega | (simp <;> omega))⟩
          · exact ⟨fun b => bif b == 900 then 64 else (fun b => b) b, WeakerR.ofL (Ks := [4, 900]) hI ⟨⟨rfl, rfl⟩, ⟨rfl, rfl⟩, ⟨grow_to rfl rfl app_ne rfl rfl, grow_within rfl⟩, ⟨rfl, rfl⟩, ⟨rfl, rfl⟩, ⟨rfl, rfl⟩, ⟨lit_cast (wrap_i64 (by omega) (by omega)), rfl⟩, trivial⟩ (okH_grow (fun _ => rfl) rfl rfl (okH_cons rfl rfl rfl rfl (okH_nil))) rfl⟩
         ·
          replace hR := of_false h12 hR
          refine Awp.skip ?_
          refine Awp.regionP C ?_
          refine rvP C (.pv (.lit (.int .i64 (IntKind.i64.wrap ((i : Int) + 1))))) ?_
          refine rvP C (.pv (.lit (.int .i64 (IntKind.i64.wrap ((i : Int) + 1))))) ?_
          refine rvc_nil ?_
          refine ⟨h8, ((out ++ [(Seen.mk k (bif (decide (ver < (rpFloor l k))) then (rpFloor l k) else ver))]), true), ?_, ?_⟩
          · exact ⟨hR, (by first | omega | (simp <;> omega))⟩
          · exact ⟨fun b => bif b == 900 then 56 else (fun b => b) b, WeakerR.ofL (Ks := [4, 900]) hI ⟨⟨rfl, rfl⟩, ⟨rfl, rfl⟩, ⟨grow_to rfl rfl app_ne rfl rfl, grow_within rfl⟩, ⟨rfl, rfl⟩, ⟨rfl, rfl⟩, ⟨rfl, rfl⟩, ⟨lit_cast (wrap_i64 (by omega) (by omega)), rfl⟩, trivial⟩ (okH_grow (fun _ => rfl) rfl rfl (okH_cons rfl rfl rfl rfl (okH_nil))) rfl⟩
        ·
         replace hR := of_false h11 hR
         refine Awp.skip ?_
         refine Awp.consP C ?_
         refine rvP C (.ptr 12 0) ?_
         refine rvP C (.agg [.pv (.lit (.int .u8 (x.key 0))), .pv (.lit (.int .u8 (x.key 1))), .pv (.lit (.int .u8 (x.key 2))), .pv (.lit (.int .u8 (x.key 3))), .pv (.lit (.int .u8 (x.key 4))), .pv (.lit (.int .u8 (x.key 5))), .pv (.lit (.int .u8 (x.key 6))), .pv (.lit (.int .u8 (x.key 7)))]) ?_
         refine rvP C (.agg [.pv (.lit (.int .u8 (k 0))), .pv (.lit (.int .u8 (k 1))), .pv (.lit (.int .u8 (k 2))), .pv (.lit (.int .u8 (k 3))), .pv (.lit (.int .u8 (k 4))), .pv (.lit (.int .u8 (k 5))), .pv (.lit (.int .u8 (k 6))), .pv (.lit (.int .u8 (k 7)))]) ?_
         refine rvP C (.pv (.lit (.bool (!(((x.key 0) == (k 0)) && (((x.key 1) == (k 1)) && (((x.key 2) == (k 2)) && (((x.key 3) == (k 3)) && (((x.key 4) == (k 4)) && (((x.key 5) == (k 5)) && (((x.key 6) == (k 6)) && (((x.key 7) == (k 7)) && true)))))))))))) ?_
         refine rvc_nil ?_
         refine Awp.cond (b := (!(((x.key 0) == (k 0)) && (((x.key 1) == (k 1)) && (((x.key 2) == (k 2)) && (((x.key 3) == (k 3)) && (((x.key 4) == (k 4)) && (((x.key 5) == (k 5)) && (((x.key 6) == (k 6)) && (((x.key 7) == (k 7)) && true)))))))))) rfl (fun h13 => ?_) (fun h13 => ?_)
         ·
          replace hR := of_true h13 hR
          refine Awp.regionP C ?_
          refine rvP C (sS (some out.isEmpty) eSeen out) ?_
          refine rvP C (.agg [.pv (.lit (.int .u8 (x.key 0))), .pv (.lit (.int .u8 (x.key 1))), .pv (.lit (.int .u8 (x.key 2))), .pv (.lit (.int .u8 (x.key 3))), .pv (.lit (.int .u8 (x.key 4))), .pv (.lit (.int .u8 (x.key 5))), .pv (.lit (.int .u8 (x.key 6))), .pv (.lit (.int .u8 (x.key 7))), .pv (.lit (.int .i64 x.ver))]) ?_
          refine rvc_un (rexec_buildSliceF C eSeen [x] rfl rfl rfl rfl rfl rfl rfl (by decide) rfl ?_)
          refine rvc_un (rexec_appendG C rfl rfl rfl rfl rfl rfl rfl rfl (fun _ h => by cases h) rfl (en := eSeen) (l := out) (D := [x]) rfl rfl h6 (by rw [h6]; rfl) (by simp) (by have := eq_of_bne_false h1; have := of_decide_eq_false h3; have := of_decide_eq_false h4; have := of_decide_eq_true h7; first | omega | (simp <;> omega)) (by decide) (nn := (out ++ [x]).length) (by simp) ?_)
          refine rvP C (.sl 64 0 ((out ++ [x]).length) 9 false) ?_
          refine rvc_nil ?_
          refine Awp.regionP C ?_
          refine rvP C (.pv (.lit (.int .i64 (IntKind.i64.wrap ((i : Int) + 1))))) ?_
          refine rvP C (.pv (.lit (.int .i64 (IntKind.i64.wrap ((i : Int) + 1))))) ?_
          refine rvc_nil ?_
          refine ⟨h8, ((out ++ [x]), put), ?_, ?_⟩
          · exact ⟨hR, (by first | omega | (simp <;> omega))⟩
          · exact ⟨fun b => bif b == 900 then 64 else (fun b => b) b, WeakerR.ofL (Ks := [4, 900]) hI ⟨⟨rfl, rfl⟩, ⟨rfl, rfl⟩, ⟨grow_to rfl rfl app_ne rfl rfl, grow_within rfl⟩, ⟨rfl, rfl⟩, ⟨rfl, rfl⟩, ⟨rfl, rfl⟩, ⟨lit_cast (wrap_i64 (by omega) (by omega)), rfl⟩, trivial⟩ (okH_grow (fun _ => rfl) rfl rfl (okH_cons rfl rfl rfl rfl (okH_nil))) rfl⟩
         ·
          replace hR := of_false h13 hR
          refine Awp.skip ?_
          refine Awp.regionP C ?_
          refine rvP C (.pv (.lit (.int .i64 (IntKind.i64.wrap ((i : Int) + 1))))) ?_
          refine rvP C (.pv (.lit (.int .i64 (IntKind.i64.wrap ((i : Int) + 1))))) ?_
          refine rvc_nil ?_
          refine ⟨h8, (out, put), ?_, ?_⟩
          · exact ⟨hR, (by first | omega | (simp <;> omega))⟩
          · exact ⟨fun b => b, WeakerR.ofL (Ks := [4, 900]) hI ⟨⟨rfl, rfl⟩, ⟨rfl, rfl⟩, ⟨grow_to_nil rfl h6 (.inr rfl), grow_within rfl⟩, ⟨rfl, rfl⟩, ⟨rfl, rfl⟩, ⟨rfl, rfl⟩, ⟨lit_cast (wrap_i64 (by omega) (by omega)), rfl⟩, trivial⟩ (okH_grow (fun hne => absurd h6 hne) rfl rfl (okH_cons rfl rfl rfl rfl (okH_nil))) rfl⟩
       ·
        replace hR := of_false h10 hR
        refine rvS ?_
        refine rvS ?_
        refine rvS ?_
        refine rvS ?_
        refine rvS ?_
        refine rvP C (.pv (.lit (.bool false))) ?_
        refine rvc_nil ?_
        refine Awp.condF (b := false) rfl rfl ?_
        refine Awp.skip ?_
        refine Awp.consP C ?_
        refine rvP C (.ptr 12 0) ?_
        refine rvP C (.agg [.pv (.lit (.int .u8 (x.key 0))), .pv (.lit (.int .u8 (x.key 1))), .pv (.lit (.int .u8 (x.key 2))), .pv (.lit (.int .u8 (x.key 3))), .pv (.lit (.int .u8 (x.key 4))), .pv (.lit (.int .u8 (x.key 5))), .pv (.lit (.int .u8 (x.key 6))), .pv (.lit (.int .u8 (x.key 7)))]) ?_
        refine rvP C (.agg [.pv (.lit (.int .u8 (k 0))), .pv (.lit (.int .u8 (k 1))), .pv (.lit (.int .u8 (k 2))), .pv (.lit (.int .u8 (k 3))), .pv (.lit (.int .u8 (k 4))), .pv (.lit (.int .u8 (k 5))), .pv (.lit (.int .u8 (k 6))), .pv (.lit (.int .u8 (k 7)))]) ?_
        refine rvP C (.pv (.lit (.bool (!(((x.key 0) == (k 0)) && (((x.key 1) == (k 1)) && (((x.key 2) == (k 2)) && (((x.key 3) == (k 3)) && (((x.key 4) == (k 4)) && (((x.key 5) == (k 5)) && (((x.key 6) == (k 6)) && (((x.key 7) == (k 7)) && true)))))))))))) ?_
        refine rvc_nil ?_
        refine Awp.cond (b := (!(((x.key 0) == (k 0)) && (((x.key 1) == (k 1)) && (((x.key 2) == (k 2)) && (((x.key 3) == (k 3)) && (((x.key 4) == (k 4)) && (((x.key 5) == (k 5)) && (((x.key 6) == (k 6)) && (((x.key 7) == (k 7)) && true)))))))))) rfl (fun h14 => ?_) (fun h14 => ?_)
        ·
         replace hR := of_true h14 hR
         refine Awp.regionP C ?_
         refine rvP C (sS (some out.isEmpty) eSeen out) ?_
         refine rvP C (.agg [.pv (.lit (.int .u8 (x.key 0))), .pv (.lit (.int .u8 (x.key 1))), .pv (.lit (.int .u8 (x.key 2))), .pv (.lit (.int .u8 (x.key 3))), .pv (.lit (.int .u8 (x.key 4))), .pv (.lit (.int .u8 (x.key 5))), .pv (.lit (.int .u8 (x.key 6))), .pv (.lit (.int .u8 (x.key 7))), .pv (.lit (.int .i64 x.ver))]) ?_
         refine rvc_un (rexec_buildSliceF C eSeen [x] rfl rfl rfl rfl rfl rfl rfl (by decide) rfl ?_)
         refine rvc_un (rexec_appendG C rfl rfl rfl rfl rfl rfl rfl rfl (fun _ h => by cases h) rfl (en := eSeen) (l := out) (D := [x]) rfl rfl h6 (by rw [h6]; rfl) (by simp) (by have := eq_of_bne_false h1; have := of_decide_eq_false h3; have := of_decide_eq_false h4; have := of_decide_eq_true h7; first | omega | (simp <;> omega)) (by decide) (nn := (out ++ [x]).length) (by simp) ?_)
         refine rvP C (.sl 64 0 ((out ++ [x]).length) 9 false) ?_
         refine rvc_nil ?_
         refine Awp.regionP C ?_
         refine rvP C (.pv (.lit (.int .i64 (IntKind.i64.wrap ((i : Int) + 1))))) ?_
         refine rvP C (.pv (.lit (.int .i64 (IntKind.i64.wrap ((i : Int) + 1))))) ?_
         refine rvc_nil ?_
         refine ⟨h8, ((out ++ [x]), put), ?_, ?_⟩
         · exact ⟨hR, (by first | omega | (simp <;> omega))⟩
         · exact ⟨fun b => bif b == 900 then 64 else (fun b => b) b, WeakerR.ofL (Ks := [4, 900]) hI ⟨⟨rfl, rfl⟩, ⟨rfl, rfl⟩, ⟨grow_to rfl rfl app_ne rfl rfl, grow_within rfl⟩, ⟨rfl, rfl⟩, ⟨rfl, rfl⟩, ⟨rfl, rfl⟩, ⟨lit_cast (wrap_i64 (by omega) (by omega)), rfl⟩, trivial⟩ (okH_grow (fun _ => rfl) rfl rfl (okH_cons rfl rfl rfl rfl (okH_nil))) rfl⟩
        ·
         replace hR := of_false h14 hR
         refine Awp.skip ?_
         refine Awp.regionP C ?_
         refine rvP C (.pv (.lit (.int .i64 (IntKind.i64.wrap ((i : Int) + 1))))) ?_
         refine rvP C (.pv (.lit (.int .i64 (IntKind.i64.wrap ((i : Int) + 1))))) ?_
         refine rvc_nil ?_
         refine ⟨h8, (out, put), ?_, ?_⟩
         · exact ⟨hR, (by first | omega | (simp <;> omega))⟩
         · exact ⟨fun b => b, WeakerR.ofL (Ks := [4, 900]) hI ⟨⟨rfl, rfl⟩, ⟨rfl, rfl⟩, ⟨grow_to_nil rfl h6 (.inr rfl), grow_within rfl⟩, ⟨rfl, rfl⟩, ⟨rfl, rfl⟩, ⟨rfl, rfl⟩, ⟨lit_cast (wrap_i64 (by omega) (by omega)), rfl⟩, trivial⟩ (okH_grow (fun hne => absurd h6 hne) rfl rfl (okH_cons rfl rfl rfl rfl (okH_nil))) rfl⟩
      ·
       have h8 : ¬ i < l.D.length := by have := of_decide_eq_false h7; omega
       rw [drop_end h8] at hR
       refine Awp.exit ?_
       refine Awp.seq ?_
       refine Awp.consP C ?_
       refine rvP C (.pv (.lit (.bool put))) ?_
       refine rvP C (.pv (.lit (.bool (!put)))) ?_
       refine rvc_nil ?_
       refine Awp.cond (b := (!put)) rfl (fun h15 => ?_) (fun h15 => ?_)
       ·
        replace hR := of_true h15 hR
        refine Awp.regionP C ?_
        refine rvP C (sS (some out.isEmpty) eSeen out) ?_
        refine rvP C (.agg [.pv (.lit (.int .u8 (k 0))), .pv (.lit (.int .u8 (k 1))), .pv (.lit (.int .u8 (k 2))), .pv (.lit (.int .u8 (k 3))), .pv (.lit (.int .u8 (k 4))), .pv (.lit (.int .u8 (k 5))), .pv (.lit (.int .u8 (k 6))), .pv (.lit (.int .u8 (k 7)))]) ?_
        refine rvP C (.pv (.lit (.int .i64 (bif (decide (ver < (rpFloor l k))) then (rpFloor l k) else ver)))) ?_
        refine rvP C (.agg [.pv (.lit (.int .u8 (k 0))), .pv (.lit (.int .u8 (k 1))), .pv (.lit (.int .u8 (k 2))), .pv (.lit (.int .u8 (k 3))), .pv (.lit (.int .u8 (k 4))), .pv (.lit (.int .u8 (k 5))), .pv (.lit (.int .u8 (k 6))), .pv (.lit (.int .u8 (k 7))), .pv (.lit (.int .i64 (bif (decide (ver < (rpFloor l k))) then (rpFloor l k) else ver)))]) ?_
        refine rvc_un (rexec_buildSliceF C eSeen [(Seen.mk k (bif (decide (ver < (rpFloor l k))) then (rpFloor l k) else ver))] rfl rfl rfl rfl rfl rfl rfl (by decide) rfl ?_)
        refine rvc_un (rexec_appendG C rfl rfl rfl rfl rfl rfl rfl rfl (fun _ h => by cases h) rfl (en := eSeen) (l := out) (D := [(Seen.mk k (bif (decide (ver < (rpFloor l k))) then (rpFloor l k) else ver))]) rfl rfl h6 (by rw [h6]; rfl) (by simp) (by have := eq_of_bne_false h1; have := of_decide_eq_false h3; have := of_decide_eq_false h4; have := of_decide_eq_false h7; first | omega | (simp <;> omega)) (by decide) (nn := (out ++ [(Seen.mk k (bif (decide (ver < (rpFloor l k))) then (rpFloor l k) else ver))]).length) (by simp) ?_)
        refine rvP C (.sl 73 0 ((out ++ [(Seen.mk k (bif (decide (ver < (rpFloor l k))) then (rpFloor l k) else ver))]).length) 9 false) ?_
        refine rvc_nil ?_
        refine Awp.seq ?_
        refine Awp.consP C ?_
        refine rvP C (.sl 73 0 ((out ++ [(Seen.mk k (bif (decide (ver < (rpFloor l k))) then (rpFloor l k) else ver))]).length) 9 false) ?_
        refine rvP C (.pv (.lit (.int .i64 (((out ++ [(Seen.mk k (bif (decide (ver < (rpFloor l k))) then (rpFloor l k) else ver))]).length) : Int)))) ?_
        refine rvP C (.pv (.lit (.bool (decide ((((out ++ [(Seen.mk k (bif (decide (ver < (rpFloor l k))) then (rpFloor l k) else ver))]).length) : Int) > 6))))) ?_
        refine rvc_nil ?_
        refine Awp.cond (b := (decide ((((out ++ [(Seen.mk k (bif (decide (ver < (rpFloor l k))) then (rpFloor l k) else ver))]).length) : Int) > 6))) rfl (fun h16 => ?_) (fun h16 => ?_)
        ·
         replace hR := of_true h16 hR
         refine Awp.consP C ?_
         refine rvP C (sS (some true) eSeen []) ?_
         refine rvP C (.pv (.lit (.int .i64 7))) ?_
         refine rvc_nil ?_
         exact absurd hR.symm hne
        ·
         replace hR := of_false h16 hR
         refine Awp.skip ?_
         refine Awp.consP C ?_
         refine rvP C (.sl 73 0 ((out ++ [(Seen.mk k (bif (decide (ver < (rpFloor l k))) then (rpFloor l k) else ver))]).length) 9 false) ?_
         refine rvP C (.sl 73 0 ((out ++ [(Seen.mk k (bif (decide (ver < (rpFloor l k))) then (rpFloor l k) else ver))]).length) 9 false) ?_
         refine rvP C (.pv (.lit (.int .i64 0))) ?_
         refine rvc_nil ?_
         refine Awp.weakenR (S := [(6, .sl 0 0 (out ++ [(Seen.mk k (bif (decide (ver < (rpFloor l k))) then (rpFloor l k) else ver))]).length 9 false), (7, .pv (.lit (.int .i64 0)))]) (H := [(0, .cells (encC eSeen (out ++ [(Seen.mk k (bif (decide (ver < (rpFloor l k))) then (rpFloor l k) else ver))])))]) (U := [0]) (fun x => bif x == 0 then 73 else x) (WeakerR.ofL (Ks := [0]) hI ⟨⟨rfl, rfl⟩, ⟨rfl, rfl⟩, trivial⟩ (okH_list rfl rfl rfl okH_nil) rfl) ?_
         refine Awp.ret ?_
         subst hR
         exact ⟨.inl rfl, rfl, rfl⟩
       ·
        replace hR := of_false h15 hR
        refine Awp.skip ?_
        refine Awp.seq ?_
        refine Awp.consP C ?_
        refine rvP C (sS (some out.isEmpty) eSeen out) ?_
        refine rvP C (.pv (.lit (.int .i64 (out.length : Int)))) ?_
        refine rvP C (.pv (.lit (.bool (decide ((out.length : Int) > 6))))) ?_
        refine rvc_nil ?_
        refine Awp.cond (b := (decide ((out.length : Int) > 6))) rfl (fun h17 => ?_) (fun h17 => ?_)
        ·
         replace hR := of_true h17 hR
         refine Awp.consP C ?_
         refine rvP C (sS (some true) eSeen []) ?_
         refine rvP C (.pv (.lit (.int .i64 7))) ?_
         refine rvc_nil ?_
         exact absurd hR.symm hne
        ·
         replace hR := of_false h17 hR
         refine Awp.skip ?_
         refine Awp.consP C ?_
         refine rvP C (sS (some out.isEmpty) eSeen out) ?_
         refine rvP C (sS (some out.isEmpty) eSeen out) ?_
         refine rvP C (.pv (.lit (.int .i64 0))) ?_
         refine rvc_nil ?_
         exact absurd (hR.symm.trans h6) hne
     ·
      refine Awp.wordsR [(2, .pv (.lit (.int .i64 (bif (decide (ver < (rpFloor l k))) then (rpFloor l k) else ver)))), (4, .ptr 4 0), (9, .sl 900 0 out.length 9 false), (10, .pv (.lit (.bool put))), (36, sS (some l.nil) eSeen l.D), (37, .pv (.lit (.int .i64 (l.D.length : Int)))), (38, .pv (.lit (.int .i64 (i : Int))))] [(900, .cells (encC eSeen out)), (4, .cells [.pv (.lit (.int .u8 (k 0))), .pv (.lit (.int .u8 (k 1))), .pv (.lit (.int .u8 (k 2))), .pv (.lit (.int .u8 (k 3))), .pv (.lit (.int .u8 (k 4))), .pv (.lit (.int .u8 (k 5))), .pv (.lit (.int .u8 (k 6))), .pv (.lit (.int .u8 (k 7)))])] [4, 900] (WeakerR.ofL (Ks := [4, 900]) hI ⟨⟨rfl, rfl⟩, ⟨rfl, rfl⟩, ⟨(by exact grow_at_cons (b := 900) (b' := 900) (e := eSeen) (l := out) rfl h6 rfl rfl rfl), rfl⟩, ⟨rfl, rfl⟩, ⟨rfl, rfl⟩, ⟨rfl, rfl⟩, ⟨rfl, rfl⟩, trivial⟩ (okH_list (look_cons h6 rfl) rfl rfl (okH_cons (look_cons h6 rfl) rfl rfl rfl (okH_nil))) rfl) ?_
      refine Awp.consP C ?_
      refine rvP C (.pv (.lit (.bool (decide ((i : Int) < (l.D.length : Int)))))) ?_
      refine rvc_nil ?_
      refine Awp.seq ?_
      refine Awp.cond (b := (decide ((i : Int) < (l.D.length : Int)))) rfl (fun h18 => ?_) (fun h18 => ?_)
      ·
       have h19 : i < l.D.length := by have := of_decide_eq_true h18; omega
       obtain ⟨x, h20⟩ := getX h19
       rw [drop_at h20] at hR
       refine Awp.skip ?_
       refine Awp.seq ?_
       refine Awp.block ?_
       refine Awp.consP C ?_
       refine rvc_un (rexec_idxS C rfl rfl rfl rfl rfl rfl x (Int.natCast_nonneg _) h20 ?_)
       refine rvP C (.agg [.pv (.lit (.int .u8 (x.key 0))), .pv (.lit (.int .u8 (x.key 1))), .pv (.lit (.int .u8 (x.key 2))), .pv (.lit (.int .u8 (x.key 3))), .pv (.lit (.int .u8 (x.key 4))), .pv (.lit (.int .u8 (x.key 5))), .pv (.lit (.int .u8 (x.key 6))), .pv (.lit (.int .u8 (x.key 7))), .pv (.lit (.int .i64 x.ver))]) ?_
       refine rvc_un (rexec_prim C (δ := { v := .ptr 12 0, new := [(12, .cells [.pv (.lit (.int .u8 0)), .pv (.lit (.int .u8 0)), .pv (.lit (.int .u8 0)), .pv (.lit (.int .u8 0)), .pv (.lit (.int .u8 0)), .pv (.lit (.int .u8 0)), .pv (.lit (.int .u8 0)), .pv (.lit (.int .u8 0)), .pv (.lit (.int .i64 0))])] }) rfl rfl rfl rfl trivial rfl ?_)
       refine rvc_un (rexec_prim C (δ := { v := .undef, wr := [(12, some (.cells [.pv (.lit (.int .u8 (x.key 0))), .pv (.lit (.int .u8 (x.key 1))), .pv (.lit (.int .u8 (x.key 2))), .pv (.lit (.int .u8 (x.key 3))), .pv (.lit (.int .u8 (x.key 4))), .pv (.lit (.int .u8 (x.key 5))), .pv (.lit (.int .u8 (x.key 6))), .pv (.lit (.int .u8 (x.key 7))), .pv (.lit (.int .i64 x.ver))]))] }) rfl rfl rfl rfl trivial rfl ?_)
       refine rvc_nil ?_
       refine Awp.seq ?_
       refine Awp.consP C ?_
       refine rvP C (.pv (.lit (.bool put))) ?_
       refine rvP C (.pv (.lit (.bool (!put)))) ?_
       refine rvP C (.pv (.lit (.bool (!put)))) ?_
       refine rvc_case 44 (!put) rfl (fun h21 => ?_) (fun h21 => ?_)
       ·
        replace hR := of_true h21 hR
        refine rvO C (.ptr 12 0) ?_
        refine rvO C (.agg [.pv (.lit (.int .u8 (x.key 0))), .pv (.lit (.int .u8 (x.key 1))), .pv (.lit (.int .u8 (x.key 2))), .pv (.lit (.int .u8 (x.key 3))), .pv (.lit (.int .u8 (x.key 4))), .pv (.lit (.int .u8 (x.key 5))), .pv (.lit (.int .u8 (x.key 6))), .pv (.lit (.int .u8 (x.key 7)))]) ?_
        refine rvO C (.agg [.pv (.lit (.int .u8 (k 0))), .pv (.lit (.int .u8 (k 1))), .pv (.lit (.int .u8 (k 2))), .pv (.lit (.int .u8 (k 3))), .pv (.lit (.int .u8 (k 4))), .pv (.lit (.int .u8 (k 5))), .pv (.lit (.int .u8 (k 6))), .pv (.lit (.int .u8 (k 7)))]) ?_
        refine rvc_open rfl rfl rfl (rexec_call hP C rfl rfl rfl (rLess_calls x.key k) ?_)
        refine rvO C (.pv (.lit (.bool (!(rLess x.key k))))) ?_
        refine rvP C (.pv (.lit (.bool (!(rLess x.key k))))) ?_
        refine rvc_nil ?_
        refine Awp.cond (b := (!(rLess x.key k))) rfl (fun h22 => ?_) (fun h22 => ?_)
        ·
         replace hR := of_true h22 hR
         refine Awp.consP C ?_
         refine rvP C (.sl 900 0 out.length 9 false) ?_
         refine rvP C (.agg [.pv (.lit (.int .u8 (k 0))), .pv (.lit (.int .u8 (k 1))), .pv (.lit (.int .u8 (k 2))), .pv (.lit (.int .u8 (k 3))), .pv (.lit (.int .u8 (k 4))), .pv (.lit (.int .u8 (k 5))), .pv (.lit (.int .u8 (k 6))), .pv (.lit (.int .u8 (k 7)))]) ?_
         refine rvP C (.pv (.lit (.int .i64 (bif (decide (ver < (rpFloor l k))) then (rpFloor l k) else ver)))) ?_
         refine rvP C (.agg [.pv (.lit (.int .u8 (k 0))), .pv (.lit (.int .u8 (k 1))), .pv (.lit (.int .u8 (k 2))), .pv (.lit (.int .u8 (k 3))), .pv (.lit (.int .u8 (k 4))), .pv (.lit (.int .u8 (k 5))), .pv (.lit (.int .u8 (k 6))), .pv (.lit (.int .u8 (k 7))), .pv (.lit (.int .i64 (bif (decide (ver < (rpFloor l k))) then (rpFloor l k) else ver)))]) ?_
         refine rvc_un (rexec_buildSliceF C eSeen [(Seen.mk k (bif (decide (ver < (rpFloor l k))) then (rpFloor l k) else ver))] rfl rfl rfl rfl rfl rfl rfl (by decide) rfl ?_)
         refine rvc_un (rexec_append C rfl rfl rfl rfl rfl rfl rfl rfl (fun _ h => by cases h) rfl (en := eSeen) (D0 := out) (D := [(Seen.mk k (bif (decide (ver < (rpFloor l k))) then (rpFloor l k) else ver))]) rfl rfl rfl rfl (by have := eq_of_bne_false h1; have := of_decide_eq_false h3; have := of_decide_eq_false h4; have := of_decide_eq_true h18; first | omega | (simp <;> omega)) (by decide) (nn := (out ++ [(Seen.mk k (bif (decide (ver < (rpFloor l k))) then (rpFloor l k) else ver))]).length) (by simp) ?_)
         refine rvP C (.sl 56 0 ((out ++ [(Seen.mk k (bif (decide (ver < (rpFloor l k))) then (rpFloor l k) else ver))]).length) 9 false) ?_
         refine rvc_nil ?_
         refine Awp.regionP C ?_
         refine rvP C (.pv (.lit (.bool true))) ?_
         refine rvc_nil ?_
         refine Awp.consP C ?_
         refine rvP C (.ptr 12 0) ?_
         refine rvP C (.agg [.pv (.lit (.int .u8 (x.key 0))), .pv (.lit (.int .u8 (x.key 1))), .pv (.lit (.int .u8 (x.key 2))), .pv (.lit (.int .u8 (x.key 3))), .pv (.lit (.int .u8 (x.key 4))), .pv (.lit (.int .u8 (x.key 5))), .pv (.lit (.int .u8 (x.key 6))), .pv (.lit (.int .u8 (x.key 7)))]) ?_
         refine rvP C (.agg [.pv (.lit (.int .u8 (k 0))), .pv (.lit (.int .u8 (k 1))), .pv (.lit (.int .u8 (k 2))), .pv (.lit (.int .u8 (k 3))), .pv (.lit (.int .u8 (k 4))), .pv (.lit (.int .u8 (k 5))), .pv (.lit (.int .u8 (k 6))), .pv (.lit (.int .u8 (k 7)))]) ?_
         refine rvP C (.pv (.lit (.bool (!(((x.key 0) == (k 0)) && (((x.key 1) == (k 1)) && (((x.key 2) == (k 2)) && (((x.key 3) == (k 3)) && (((x.key 4) == (k 4)) && (((x.key 5) == (k 5)) && (((x.key 6) == (k 6)) && (((x.key 7) == (k 7)) && true)))))))))))) ?_
         refine rvc_nil ?_
         refine Awp.cond (b := (!(((x.key 0) == (k 0)) && (((x.key 1) == (k 1)) && (((x.key 2) == (k 2)) && (((x.key 3) == (k 3)) && (((x.key 4) == (k 4)) && (((x.key 5) == (k 5)) && (((x.key 6) == (k 6)) && (((x.key 7) == (k 7)) && true)))))))))) rfl (fun h23 => ?_) (fun h23 => ?_)
         ·
          replace hR := of_true h23 hR
          refine Awp.regionP C ?_
          refine rvP C (.sl 56 0 ((out ++ [(Seen.mk k (bif (decide (ver < (rpFloor l k))) then (rpFloor l k) else ver))]).length) 9 false) ?_
          refine rvP C (.agg [.pv (.lit (.int .u8 (x.key 0))), .pv (.lit (.int .u8 (x.key 1))), .pv (.lit (.int .u8 (x.key 2))), .pv (.lit (.int .u8 (x.key 3))), .pv (.lit (.int .u8 (x.key 4))), .pv (.lit (.int .u8 (x.key 5))), .pv (.lit (.int .u8 (x.key 6))), .pv (.lit (.int .u8 (x.key 7))), .pv (.lit (.int .i64 x.ver))]) ?_
          refine rvc_un (rexec_buildSliceF C eSeen [x] rfl rfl rfl rfl rfl rfl rfl (by decide) rfl ?_)
          refine rvc_un (rexec_append C rfl rfl rfl rfl rfl rfl rfl rfl (fun _ h => by cases h) rfl (en := eSeen) (D0 := (out ++ [(Seen.mk k (bif (decide (ver < (rpFloor l k))) then (rpFloor l k) else ver))])) (D := [x]) rfl rfl rfl rfl (by have := eq_of_bne_false h1; have := of_decide_eq_false h3; have := of_decide_eq_false h4; have := of_decide_eq_true h18; first | omega | (simp <;> omega)) (by decide) (nn := ((out ++ [(Seen.mk k (bif (decide (ver < (rpFloor l k))) then (rpFloor l k) else ver))]) ++ [x]).length) (by simp) ?_)
          refine rvP C (.sl 64 0 (((out ++ [(Seen.mk k (bif (decide (ver < (rpFloor l k))) then (rpFloor l k) else ver))]) ++ [x]).length) 9 false) ?_
          refine rvc_nil ?_
          refine Awp.regionP C ?_
          refine rvP C (.pv (.lit (.int .i64 (IntKind.i64.wrap ((i : Int) + 1))))) ?_
          refine rvP C (.pv (.lit (.int .i64 (IntKind.i64.wrap ((i : Int) + 1))))) ?_
          refine rvc_nil ?_
          refine ⟨h19, (((out ++ [(Seen.mk k (bif (decide (ver < (rpFloor l k))) then (rpFloor l k) else ver))]) ++ [x]), true), ?_, ?_⟩
          · exact ⟨hR, (by first | omega | (simp <;> omega))⟩
          · exact ⟨fun b => bif b == 900 then 64 else (fun b => b) b, WeakerR.ofL (Ks := [4, 900]) hI ⟨⟨rfl, rfl⟩, ⟨rfl, rfl⟩, ⟨grow_to rfl rfl app_ne rfl rfl, grow_within rfl⟩, ⟨rfl, rfl⟩, ⟨rfl, rfl⟩, ⟨rfl, rfl⟩, ⟨lit_cast (wrap_i64 (by omega) (by omega)), rfl⟩, trivial⟩ (okH_grow (fun _ => rfl) rfl rfl (okH_cons rfl rfl rfl rfl (okH_nil))) rfl⟩
         ·
          replace hR := of_false h23 hR
          refine Awp.skip ?_
          refine Awp.regionP C ?_
          refine rvP C (.pv (.lit (.int .i64 (IntKind.i64.wrap ((i : Int) + 1))))) ?_
          refine rvP C (.pv (.lit (.int .i64 (IntKind.i64.wrap ((i : Int) + 1))))) ?_
          refine rvc_nil ?_
          refine ⟨h19, ((out ++ [(Seen.mk k (bif (decide (ver < (rpFloor l k))) then (rpFloor l k) else ver))]), true), ?_, ?_⟩
          · exact ⟨hR, (by first | omega | (simp <;> omega))⟩
          · exact ⟨fun b => bif b == 900 then 56 else (fun b => b) b, WeakerR.ofL (Ks := [4, 900]) hI ⟨⟨rfl, rfl⟩, ⟨rfl, rfl⟩, ⟨grow_to rfl rfl app_ne rfl rfl, grow_within rfl⟩, ⟨rfl, rfl⟩, ⟨rfl, rfl⟩, ⟨rfl, rfl⟩, ⟨lit_cast (wrap_i64 (by omega) (by omega)), rfl⟩, trivial⟩ (okH_grow (fun _ => rfl) rfl rfl (okH_cons rfl rfl rfl rfl (okH_nil))) rfl⟩
        ·
         replace hR := of_false h22 hR
         refine Awp.skip ?_
         refine Awp.consP C ?_
         refine rvP C (.ptr 12 0) ?_
         refine rvP C (.agg [.pv (.lit (.int .u8 (x.key 0))), .pv (.lit (.int .u8 (x.key 1))), .pv (.lit (.int .u8 (x.key 2))), .pv (.lit (.int .u8 (x.key 3))), .pv (.lit (.int .u8 (x.key 4))), .pv (.lit (.int .u8 (x.key 5))), .pv (.lit (.int .u8 (x.key 6))), .pv (.lit (.int .u8 (x.key 7)))]) ?_
         refine rvP C (.agg [.pv (.lit (.int .u8 (k 0))), .pv (.lit (.int .u8 (k 1))), .pv (.lit (.int .u8 (k 2))), .pv (.lit (.int .u8 (k 3))), .pv (.lit (.int .u8 (k 4))), .pv (.lit (.int .u8 (k 5))), .pv (.lit (.int .u8 (k 6))), .pv (.lit (.int .u8 (k 7)))]) ?_
         refine rvP C (.pv (.lit (.bool (!(((x.key 0) == (k 0)) && (((x.key 1) == (k 1)) && (((x.key 2) == (k 2)) && (((x.key 3) == (k 3)) && (((x.key 4) == (k 4)) && (((x.key 5) == (k 5)) && (((x.key 6) == (k 6)) && (((x.key 7) == (k 7)) && true)))))))))))) ?_
         refine rvc_nil ?_
         refine Awp.cond (b := (!(((x.key 0) == (k 0)) && (((x.key 1) == (k 1)) && (((x.key 2) == (k 2)) && (((x.key 3) == (k 3)) && (((x.key 4) == (k 4)) && (((x.key 5) == (k 5)) && (((x.key 6) == (k 6)) && (((x.key 7) == (k 7)) && true)))))))))) rfl (fun h24 => ?_) (fun h24 => ?_)
         ·
          replace hR := of_true h24 hR
          refine Awp.regionP C ?_
          refine rvP C (.sl 900 0 out.length 9 false) ?_
          refine rvP C (.agg [.pv (.lit (.int .u8 (x.key 0))), .pv (.lit (.int .u8 (x.key 1))), .pv (.lit (.int .u8 (x.key 2))), .pv (.lit (.int .u8 (x.key 3))), .pv (.lit (.int .u8 (x.key 4))), .pv (.lit (.int .u8 (x.key 5))), .pv (.lit (.int .u8 (x.key 6))), .pv (.lit (.int .u8 (x.key 7))), .pv (.lit (.int .i64 x.ver))]) ?_
          refine rvc_un (rexec_buildSliceF C eSeen [x] rfl rfl rfl rfl rfl rfl rfl (by decide) rfl ?_)
          refine rvc_un (rexec_append C rfl rfl rfl rfl rfl rfl rfl rfl (fun _ h => by cases h) rfl (en := eSeen) (D0 := out) (D := [x]) rfl rfl rfl rfl (by have := eq_of_bne_false h1; have := of_decide_eq_false h3; have := of_decide_eq_false h4; have := of_decide_eq_true h18; first | omega | (simp <;> omega)) (by decide) (nn := (out ++ [x]).length) (by simp) ?_)
          refine rvP C (.sl 64 0 ((out ++ [x]).length) 9 false) ?_
          refine rvc_nil ?_
          refine Awp.regionP C ?_
          refine rvP C (.pv (.lit (.int .i64 (IntKind.i64.wrap ((i : Int) + 1))))) ?_
          refine rvP C (.pv (.lit (.int .i64 (IntKind.i64.wrap ((i : Int) + 1))))) ?_
          refine rvc_nil ?_
          refine ⟨h19, ((out ++ [x]), put), ?_, ?_⟩
          · exact ⟨hR, (by first | omega | (simp <;> omega))⟩
          · exact ⟨fun b => bif b == 900 then 64 else (fun b => b) b, WeakerR.ofL (Ks := [4, 900]) hI ⟨⟨rfl, rfl⟩, ⟨rfl, rfl⟩, ⟨grow_to rfl rfl app_ne rfl rfl, grow_within rfl⟩, ⟨rfl, rfl⟩, ⟨rfl, rfl⟩, ⟨rfl, rfl⟩, ⟨lit_cast (wrap_i64 (by omega) (by omega)), rfl⟩, trivial⟩ (okH_grow (fun _ => rfl) rfl rfl (okH_cons rfl rfl rfl rfl (okH_nil))) rfl⟩
         ·
          replace hR := of_false h24 hR
          refine Awp.skip ?_
          refine Awp.regionP C ?_
          refine rvP C (.pv (.lit (.int .i64 (IntKind.i64.wrap ((i : Int) + 1))))) ?_
          refine rvP C (.pv (.lit (.int .i64 (IntKind.i64.wrap ((i : Int) + 1))))) ?_
          refine rvc_nil ?_
          refine ⟨h19, (out, put), ?_, ?_⟩
          · exact ⟨hR, (by first | omega | (simp <;> omega))⟩
          · exact ⟨fun b => b, WeakerR.ofL (Ks := [4, 900]) hI ⟨⟨rfl, rfl⟩, ⟨rfl, rfl⟩, ⟨grow_to rfl rfl h6 rfl rfl, grow_within rfl⟩, ⟨rfl, rfl⟩, ⟨rfl, rfl⟩, ⟨rfl, rfl⟩, ⟨lit_cast (wrap_i64 (by omega) (by omega)), rfl⟩, trivial⟩ (okH_grow (fun _ => rfl) rfl rfl (okH_cons rfl rfl rfl rfl (okH_nil))) rfl⟩
       ·
        replace hR := of_false h21 hR
        refine rvS ?_
        refine rvS ?_
        refine rvS ?_
        refine rvS ?_
        refine rvS ?_
        refine rvP C (.pv (.lit (.bool false))) ?_
        refine rvc_nil ?_
        refine Awp.condF (b := false) rfl rfl ?_
        refine Awp.skip ?_
        refine Awp.consP C ?_
        refine rvP C (.ptr 12 0) ?_
        refine rvP C (.agg [.pv (.lit (.int .u8 (x.key 0))), .pv (.lit (.int .u8 (x.key 1))), .pv (.lit (.int .u8 (x.key 2))), .pv (.lit (.int .u8 (x.key 3))), .pv (.lit (.int .u8 (x.key 4))), .pv (.lit (.int .u8 (x.key 5))), .pv (.lit (.int .u8 (x.key 6))), .pv (.lit (.int .u8 (x.key 7)))]) ?_
        refine rvP C (.agg [.pv (.lit (.int .u8 (k 0))), .pv (.lit (.int .u8 (k 1))), .pv (.lit (.int .u8 (k 2))), .pv (.lit (.int .u8 (k 3))), .pv (.lit (.int .u8 (k 4))), .pv (.lit (.int .u8 (k 5))), .pv (.lit (.int .u8 (k 6))), .pv (.lit (.int .u8 (k 7)))]) ?_
        refine rvP C (.pv (.lit (.bool (!(((x.key 0) == (k 0)) && (((x.key 1) == (k 1)) && (((x.key 2) == (k 2)) && (((x.key 3) == (k 3)) && (((x.key 4) == (k 4)) && (((x.key 5) == (k 5)) && (((x.key 6) == (k 6)) && (((x.key 7) == (k 7)) && true)))))))))))) ?_
        refine rvc_nil ?_
        refine Awp.cond (b := (!(((x.key 0) == (k 0)) && (((x.key 1) == (k 1)) && (((x.key 2) == (k 2)) && (((x.key 3) == (k 3)) && (((x.key 4) == (k 4)) && (((x.key 5) == (k 5)) && (((x.key 6) == (k 6)) && (((x.key 7) == (k 7)) && true)))))))))) rfl (fun h25 => ?_) (fun h25 => ?_)
        ·
         replace hR := of_true h25 hR
         refine Awp.regionP C ?_
         refine rvP C (.sl 900 0 out.length 9 false) ?_
         refine rvP C (.agg [.pv (.lit (.int .u8 (x.key 0))), .pv (.lit (.int .u8 (x.key 1))), .pv (.lit (.int .u8 (x.key 2))), .pv (.lit (.int .u8 (x.key 3))), .pv (.lit (.int .u8 (x.key 4))), .pv (.lit (.int .u8 (x.key 5))), .pv (.lit (.int .u8 (x.key 6))), .pv (.lit (.int .u8 (x.key 7))), .pv (.lit (.int .i64 x.ver))]) ?_
         refine rvc_un (rexec_buildSliceF C eSeen [x] rfl rfl rfl rfl rfl rfl rfl (by decide) rfl ?_)
         refine rvc_un (rexec_append C rfl rfl rfl rfl rfl rfl rfl rfl (fun _ h => by cases h) rfl (en := eSeen) (D0 := out) (D := [x]) rfl rfl rfl rfl (by have := eq_of_bne_false h1; have := of_decide_eq_false h3; have := of_decide_eq_false h4; have := of_decide_eq_true h18; first | omega | (simp <;> omega)) (by decide) (nn := (out ++ [x]).length) (by simp) ?_)
         refine rvP C (.sl 64 0 ((out ++ [x]).length) 9 false) ?_
         refine rvc_nil ?_
         refine Awp.regionP C ?_
         refine rvP C (.pv (.lit (.int .i64 (IntKind.i64.wrap ((i : Int) + 1))))) ?_
         refine rvP C (.pv (.lit (.int .i64 (IntKind.i64.wrap ((i : Int) + 1))))) ?_
         refine rvc_nil ?_
         refine ⟨h19, ((out ++ [x]), put), ?_, ?_⟩
         · exact ⟨hR, (by first | omega | (simp <;> omega))⟩
         · exact ⟨fun b => bif b == 900 then 64 else (fun b => b) b, WeakerR.ofL (Ks := [4, 900]) hI ⟨⟨rfl, rfl⟩, ⟨rfl, rfl⟩, ⟨grow_to rfl rfl app_ne rfl rfl, grow_within rfl⟩, ⟨rfl, rfl⟩, ⟨rfl, rfl⟩, ⟨rfl, rfl⟩, ⟨lit_cast (wrap_i64 (by omega) (by omega)), rfl⟩, trivial⟩ (okH_grow (fun _ => rfl) rfl rfl (okH_cons rfl rfl rfl rfl (okH_nil))) rfl⟩
        ·
         replace hR := of_false h25 hR
         refine Awp.skip ?_
         refine Awp.regionP C ?_
         refine rvP C (.pv (.lit (.int .i64 (IntKind.i64.wrap ((i : Int) + 1))))) ?_
         refine rvP C (.pv (.lit (.int .i64 (IntKind.i64.wrap ((i : Int) + 1))))) ?_
         refine rvc_nil ?_
         refine ⟨h19, (out, put), ?_, ?_⟩
         · exact ⟨hR, (by first | omega | (simp <;> omega))⟩
         · exact ⟨fun b => b, WeakerR.ofL (Ks := [4, 900]) hI ⟨⟨rfl, rfl⟩, ⟨rfl, rfl⟩, ⟨grow_to rfl rfl h6 rfl rfl, grow_within rfl⟩, ⟨rfl, rfl⟩, ⟨rfl, rfl⟩, ⟨rfl, rfl⟩, ⟨lit_cast (wrap_i64 (by omega) (by omega)), rfl⟩, trivial⟩ (okH_grow (fun _ => rfl) rfl rfl (okH_cons rfl rfl rfl rfl (okH_nil))) rfl⟩
      ·
       have h19 : ¬ i < l.D.length := by have := of_decide_eq_false h18; omega
       rw [drop_end h19] at hR
       refine Awp.exit ?_
       refine Awp.seq ?_
       refine Awp.consP C ?_
       refine rvP C (.pv (.lit (.bool put))) ?_
       refine rvP C (.pv (.lit (.bool (!put)))) ?_
       refine rvc_nil ?_
       refine Awp.cond (b := (!put)) rfl (fun h26 => ?_) (fun h26 => ?_)
       ·
        replace hR := of_true h26 hR
        refine Awp.regionP C ?_
        refine rvP C (.sl 900 0 out.length 9 false) ?_
        refine rvP C (.agg [.pv (.lit (.int .u8 (k 0))), .pv (.lit (.int .u8 (k 1))), .pv (.lit (.int .u8 (k 2))), .pv (.lit (.int .u8 (k 3))), .pv (.lit (.int .u8 (k 4))), .pv (.lit (.int .u8 (k 5))), .pv (.lit (.int .u8 (k 6))), .pv (.lit (.int .u8 (k 7)))]) ?_
        refine rvP C (.pv (.lit (.int .i64 (bif (decide (ver < (rpFloor l k))) then (rpFloor l k) else ver)))) ?_
        refine rvP C (.agg [.pv (.lit (.int .u8 (k 0))), .pv (.lit (.int .u8 (k 1))), .pv (.lit (.int .u8 (k 2))), .pv (.lit (.int .u8 (k 3))), .pv (.lit (.int .u8 (k 4))), .pv (.lit (.int .u8 (k 5))), .pv (.lit (.int .u8 (k 6))), .pv (.lit (.int .u8 (k 7))), .pv (.lit (.int .i64 (bif (decide (ver < (rpFloor l k))) then (rpFloor l k) else ver)))]) ?_
        refine rvc_un (rexec_buildSliceF C eSeen [(Seen.mk k (bif (decide (ver < (rpFloor l k))) then (rpFloor l k) else ver))] rfl rfl rfl rfl rfl rfl rfl (by decide) rfl ?_)
        refine rvc_un (rexec_append C rfl rfl rfl rfl rfl rfl rfl rfl (fun _ h => by cases h) rfl (en := eSeen) (D0 := out) (D := [(Seen.mk k (bif (decide (ver < (rpFloor l k))) then (rpFloor l k) else ver))]) rfl rfl rfl rfl (by have := eq_of_bne_false h1; have := of_decide_eq_false h3; have := of_decide_eq_false h4; have := of_decide_eq_false h18; first | omega | (simp <;> omega)) (by decide) (nn := (out ++ [(Seen.mk k (bif (decide (ver < (rpFloor l k))) then (rpFloor l k) else ver))]).length) (by simp) ?_)
        refine rvP C (.sl 73 0 ((out ++ [(Seen.mk k (bif (decide (ver < (rpFloor l k))) then (rpFloor l k) else ver))]).length) 9 false) ?_
        refine rvc_nil ?_
        refine Awp.seq ?_
        refine Awp.consP C ?_
        refine rvP C (.sl 73 0 ((out ++ [(Seen.mk k (bif (decide (ver < (rpFloor l k))) then (rpFloor l k) else ver))]).length) 9 false) ?_
        refine rvP C (.pv (.lit (.int .i64 (((out ++ [(Seen.mk k (bif (decide (ver < (rpFloor l k))) then (rpFloor l k) else ver))]).length) : Int)))) ?_
        refine rvP C (.pv (.lit (.bool (decide ((((out ++ [(Seen.mk k (bif (decide (ver < (rpFloor l k))) then (rpFloor l k) else ver))]).length) : Int) > 6))))) ?_
        refine rvc_nil ?_
        refine Awp.cond (b := (decide ((((out ++ [(Seen.mk k (bif (decide (ver < (rpFloor l k))) then (rpFloor l k) else ver))]).length) : Int) > 6))) rfl (fun h27 => ?_) (fun h27 => ?_)
        ·
         replace hR := of_true h27 hR
         refine Awp.consP C ?_
         refine rvP C (sS (some true) eSeen []) ?_
         refine rvP C (.pv (.lit (.int .i64 7))) ?_
         refine rvc_nil ?_
         exact absurd hR.symm hne
        ·
         replace hR := of_false h27 hR
         refine Awp.skip ?_
         refine Awp.consP C ?_
         refine rvP C (.sl 73 0 ((out ++ [(Seen.mk k (bif (decide (ver < (rpFloor l k))) then (rpFloor l k) else ver))]).length) 9 false) ?_
         refine rvP C (.sl 73 0 ((out ++ [(Seen.mk k (bif (decide (ver < (rpFloor l k))) then (rpFloor l k) else ver))]).length) 9 false) ?_
         refine rvP C (.pv (.lit (.int .i64 0))) ?_
         refine rvc_nil ?_
         refine Awp.weakenR (S := [(6, .sl 0 0 (out ++ [(Seen.mk k (bif (decide (ver < (rpFloor l k))) then (rpFloor l k) else ver))]).length 9 false), (7, .pv (.lit (.int .i64 0)))]) (H := [(0, .cells (encC eSeen (out ++ [(Seen.mk k (bif (decide (ver < (rpFloor l k))) then (rpFloor l k) else ver))])))]) (U := [0]) (fun x => bif x == 0 then 73 else x) (WeakerR.ofL (Ks := [0]) hI ⟨⟨rfl, rfl⟩, ⟨rfl, rfl⟩, trivial⟩ (okH_list rfl rfl rfl okH_nil) rfl) ?_
         refine Awp.ret ?_
         subst hR
         exact ⟨.inl rfl, rfl, rfl⟩
       ·
        replace hR := of_false h26 hR
        refine Awp.skip ?_
        refine Awp.seq ?_
        refine Awp.consP C ?_
        refine rvP C (.sl 900 0 out.length 9 false) ?_
        refine rvP C (.pv (.lit (.int .i64 (out.length : Int)))) ?_
        refine rvP C (.pv (.lit (.bool (decide ((out.length : Int) > 6))))) ?_
        refine rvc_nil ?_
        refine Awp.cond (b := (decide ((out.length : Int) > 6))) rfl (fun h28 => ?_) (fun h28 => ?_)
        ·
         replace hR := of_true h28 hR
         refine Awp.consP C ?_
         refine rvP C (sS (some true) eSeen []) ?_
         refine rvP C (.pv (.lit (.int .i64 7))) ?_
         refine rvc_nil ?_
         exact absurd hR.symm hne
        ·
         replace hR := of_false h28 hR
         refine Awp.skip ?_
         refine Awp.consP C ?_
         refine rvP C (.sl 900 0 out.length 9 false) ?_
         refine rvP C (.sl 900 0 out.length 9 false) ?_
         refine rvP C (.pv (.lit (.int .i64 0))) ?_
         refine rvc_nil ?_
         refine Awp.weakenR (S := [(6, .sl 0 0 out.length 9 false), (7, .pv (.lit (.int .i64 0)))]) (H := [(0, .cells (encC eSeen out))]) (U := [0]) (fun x => bif x == 0 then 900 else x) (WeakerR.ofL (Ks := [0]) hI ⟨⟨rfl, rfl⟩, ⟨rfl, rfl⟩, trivial⟩ (okH_list rfl rfl rfl okH_nil) rfl) ?_
         refine Awp.ret ?_
         subst hR
         exact ⟨.inl rfl, rfl, rfl⟩
theorem bif_L {c : Bool} {A B : List Seen} {X Y : Sl Seen × Int} (h1 : c = true → A = X.1.D) (h2 : c = false → B = Y.1.D) : (bif c then A else B) = (bif c then X else Y).1.D := by
  cases c
  · exact h2 rfl
  · exact h1 rfl
theorem pSeeO_eq (l : Sl Seen) (k : Nat → Int) (v : Int) : pSeeO l k v = (pSee l k v).1.D := by
  unfold pSeeO pSee
  repeat' (first | rfl | (refine bif_L (fun _ => ?_) (fun _ => ?_)))
theorem rpSeeO_l0_eq (l : Sl Seen) (k : Nat → Int) (v : Int) : ∀ (xs : List Seen) (i : Nat) (out : List Seen) (put : Bool), rpSeeO_l0 l k v xs i out put = (rpSee_l0 l k v xs i out put).1.D
  | [], i, out, put => by
    unfold rpSeeO_l0 rpSee_l0
    repeat' (first | rfl | (refine bif_L (fun _ => ?_) (fun _ => ?_)))
  | x :: xs, i, out, put => by
    unfold rpSeeO_l0 rpSee_l0
    repeat' (first | exact rpSeeO_l0_eq l k v xs _ _ _ | (refine bif_L (fun _ => ?_) (fun _ => ?_)))
theorem rpSeeO_eq (l : Sl Seen) (k : Nat → Int) (v : Int) : rpSeeO l k v = (rpSee l k v).1.D := by
  unfold rpSeeO rpSee
  repeat' (first | rfl | exact rpSeeO_l0_eq l k v _ _ _ _ | (refine bif_L (fun _ => ?_) (fun _ => ?_)))
theorem ne_empty {D : List Seen} (h : D.isEmpty = false) : D ≠ [] := fun e => by rw [e] at h; cases h
theorem clone_nil (l : Sl Seen) : (cloneSeen l).nil = true → (cloneSeen l).D = [] := by
  unfold cloneSeen
  cases l.nil
  · exact fun h => nomatch h
  · exact fun _ => rfl
theorem pSeeO_calls2 (l : Sl Seen) (k : Nat → Int) (v : Int) (hl : ∀ x ∈ l.D, KeyB x.key) (hk : KeyB k) (hn : l.nil = true → l.D = []) (hl1 : l.D.length ≤ 1000) (h : (pSeeO l k v).isEmpty = false) : OCalls Tryd.prog 22 [sS (some l.nil) eSeen l.D, .agg [.pv (.lit (.int .u8 (k 0))), .pv (.lit (.int .u8 (k 1))), .pv (.lit (.int .u8 (k 2))), .pv (.lit (.int .u8 (k 3))), .pv (.lit (.int .u8 (k 4))), .pv (.lit (.int .u8 (k 5))), .pv (.lit (.int .u8 (k 6))), .pv (.lit (.int .u8 (k 7)))], .pv (.lit (.int .i64 v))] (.tup [.sl 0 0 (pSeeO l k v).length 9 false, .pv (.lit (.int .i64 0))]) (.cells (encC eSeen (pSeeO l k v))) :=
  pSeeO_calls l k v hl hk hn (ne_empty h) hl1
theorem rpSeeO_calls2 (l : Sl Seen) (k : Nat → Int) (v : Int) (hl : ∀ x ∈ l.D, KeyB x.key) (hk : KeyB k) (hl1 : l.D.length ≤ 1000) (h : (rpSeeO l k v).isEmpty = false) : OCalls Tryd.prog 23 [sS (some l.nil) eSeen l.D, .agg [.pv (.lit (.int .u8 (k 0))), .pv (.lit (.int .u8 (k 1))), .pv (.lit (.int .u8 (k 2))), .pv (.lit (.int .u8 (k 3))), .pv (.lit (.int .u8 (k 4))), .pv (.lit (.int .u8 (k 5))), .pv (.lit (.int .u8 (k 6))), .pv (.lit (.int .u8 (k 7)))], .pv (.lit (.int .i64 v))] (.tup [.sl 0 0 (rpSeeO l k v).length 9 false, .pv (.lit (.int .i64 0))]) (.cells (encC eSeen (rpSeeO l k v))) :=
  rpSeeO_calls l k v hl hk (ne_empty h) hl1
theorem pSeeE_calls (l : Sl Seen) (k : Nat → Int) (v : Int) (hl : ∀ x ∈ l.D, KeyB x.key) (hk : KeyB k) (hn : l.nil = true → l.D = []) (hl1 : l.D.length ≤ 1000) (h : (pSeeO l k v).isEmpty = true) : PCalls Tryd.prog 22 [sS (some l.nil) eSeen l.D, .agg [.pv (.lit (.int .u8 (k 0))), .pv (.lit (.int .u8 (k 1))), .pv (.lit (.int .u8 (k 2))), .pv (.lit (.int .u8 (k 3))), .pv (.lit (.int .u8 (k 4))), .pv (.lit (.int .u8 (k 5))), .pv (.lit (.int .u8 (k 6))), .pv (.lit (.int .u8 (k 7)))], .pv (.lit (.int .i64 v))] (.tup [sS (some (pSee l k v).1.nil) eSeen [], .pv (.lit (.int .i64 ((pSee l k v).2)))]) := by
  have r := pSee_calls l k v hl hk hn hl1
  have e : (pSee l k v).1.D = [] := by rw [← pSeeO_eq]; simpa using h
  rw [e] at r
  exact r
theorem rpSeeE_calls (l : Sl Seen) (k : Nat → Int) (v : Int) (hl : ∀ x ∈ l.D, KeyB x.key) (hk : KeyB k) (hl1 : l.D.length ≤ 1000) (h : (rpSeeO l k v).isEmpty = true) : PCalls Tryd.prog 23 [sS (some l.nil) eSeen l.D, .agg [.pv (.lit (.int .u8 (k 0))), .pv (.lit (.int .u8 (k 1))), .pv (.lit (.int .u8 (k 2))), .pv (.lit (.int .u8 (k 3))), .pv (.lit (.int .u8 (k 4))), .pv (.lit (.int .u8 (k 5))), .pv (.lit (.int .u8 (k 6))), .pv (.lit (.int .u8 (k 7)))], .pv (.lit (.int .i64 v))] (.tup [sS (some (rpSee l k v).1.nil) eSeen [], .pv (.lit (.int .i64 ((rpSee l k v).2)))]) := by
  have r := rpSee_calls l k v hl hk hl1
  have e : (rpSee l k v).1.D = [] := by rw [← rpSeeO_eq]; simpa using h
  rw [e] at r
  exact r
theorem pSeeO_len {l : Sl Seen} {k : Nat → Int} {v : Int} (hl : KB l.D) (hk : KeyB k) (hl1 : l.D.length ≤ 1000) : (pSeeO l k v).length ≤ 1000 := by
  rw [pSeeO_eq]
  have := (pSee_good (v := v) hl hk hl1).2.2
  omega
theorem rpSeeO_len {l : Sl Seen} {k : Nat → Int} {v : Int} (hl : KB l.D) (hk : KeyB k) (hl1 : l.D.length ≤ 1000) : (rpSeeO l k v).length ≤ 1000 := by
  rw [rpSeeO_eq]
  exact (rpSee_ok (v := v) hl hk hl1).2
def lawSees_l1 (l : (Sl Seen)) (k : (Nat → Int)) (ver : Int) : List Seen → Nat → (List Seen) → Bool
  | [], _, vc => (bif (eqSeen (Sl.mk ((pSee (cloneSeen l) k ver).1.nil) []) (Sl.mk false vc)) then (bif (((pSee (cloneSeen l) k ver).2) == 0) then (bif (eqSeen (cloneSeen l) l) then (bif ((pFloor l k) == (rpFloor l k)) then true else false) else false) else false) else false)
  | _ :: xs, i, vc => lawSees_l1 l k ver xs (i + 1) (vc.set i (Seen.mk (ofL [(vc[i]!.key 0), (vc[i]!.key 1), (vc[i]!.key 2), (vc[i]!.key 3), (vc[i]!.key 4), (vc[i]!.key 5), (vc[i]!.key 6), (vc[i]!.key 7)]) (bitI .xor .i64 (vc[i]!.ver) 1)))
def lawSees_l0 (l : (Sl Seen)) (k : (Nat → Int)) (ver : Int) : List Seen → Nat → (List Seen) → Bool
  | [], _, vc => (bif (eqSeen (Sl.mk false vc) (Sl.mk ((rpSee l k ver).1.nil) [])) then (bif ((0 : Int) == ((rpSee l k ver).2)) then (bif (eqSeen (cloneSeen l) l) then (bif ((pFloor l k) == (rpFloor l k)) then true else false) else false) else false) else false)
  | _ :: xs, i, vc => lawSees_l0 l k ver xs (i + 1) (vc.set i (Seen.mk (ofL [(vc[i]!.key 0), (vc[i]!.key 1), (vc[i]!.key 2), (vc[i]!.key 3), (vc[i]!.key 4), (vc[i]!.key 5), (vc[i]!.key 6), (vc[i]!.key 7)]) (bitI .xor .i64 (vc[i]!.ver) 1)))
def lawSees_l1b (l : (Sl Seen)) (k : (Nat → Int)) (vc : (List Seen)) : List Seen → Nat → (List Seen) → Bool
  | [], _, vc1 => (bif (eqSeen (Sl.mk false vc) (Sl.mk false vc1)) then (bif (eqSeen (cloneSeen l) l) then (bif ((pFloor l k) == (rpFloor l k)) then true else false) else false) else false)
  | _ :: x1s, i1, vc1 => lawSees_l1b l k vc x1s (i1 + 1) (vc1.set i1 (Seen.mk (ofL [(vc1[i1]!.key 0), (vc1[i1]!.key 1), (vc1[i1]!.key 2), (vc1[i1]!.key 3), (vc1[i1]!.key 4), (vc1[i1]!.key 5), (vc1[i1]!.key 6), (vc1[i1]!.key 7)]) (bitI .xor .i64 (vc1[i1]!.ver) 1)))
def lawSees_l0b (l : (Sl Seen)) (k : (Nat → Int)) (ver : Int) : List Seen → Nat → (List Seen) → Bool
  | [], _, vc => lawSees_l1b l k vc (rpSeeO l k ver) 0 (rpSeeO l k ver)
  | _ :: xs, i, vc => lawSees_l0b l k ver xs (i + 1) (vc.set i (Seen.mk (ofL [(vc[i]!.key 0), (vc[i]!.key 1), (vc[i]!.key 2), (vc[i]!.key 3), (vc[i]!.key 4), (vc[i]!.key 5), (vc[i]!.key 6), (vc[i]!.key 7)]) (bitI .xor .i64 (vc[i]!.ver) 1)))
def lawSees (l : (Sl Seen)) (k : (Nat → Int)) (ver : Int) : Bool :=
  (bif (decide ((l.D.length : Int) > 1000)) then true else (bif (pSeeO (cloneSeen l) k ver).isEmpty then (bif (rpSeeO l k ver).isEmpty then (bif (eqSeen (Sl.mk ((pSee (cloneSeen l) k ver).1.nil) []) (Sl.mk ((rpSee l k ver).1.nil) [])) then (bif (((pSee (cloneSeen l) k ver).2) == ((rpSee l k ver).2)) then (bif (eqSeen (cloneSeen l) l) then (bif ((pFloor l k) == (rpFloor l k)) then true else false) else false) else false) else false) else lawSees_l1 l k ver (rpSeeO l k ver) 0 (rpSeeO l k ver)) else (bif (rpSeeO l k ver).isEmpty then lawSees_l0 l k ver (pSeeO (cloneSeen l) k ver) 0 (pSeeO (cloneSeen l) k ver) else lawSees_l0b l k ver (pSeeO (cloneSeen l) k ver) 0 (pSeeO (cloneSeen l) k ver))))
theorem lawSees_calls (l : (Sl Seen)) (k : (Nat → Int)) (ver : Int) (hl : ∀ x ∈ l.D, KeyB x.key) (hk : KeyB k) (_hn : l.nil = true → l.D = []) (hl1 : l.D.length ≤ 9223372036854775807) : PCalls Tryd.prog 7 [sS (some l.nil) eSeen l.D, .agg [.pv (.lit (.int .u8 (k 0))), .pv (.lit (.int .u8 (k 1))), .pv (.lit (.int .u8 (k 2))), .pv (.lit (.int .u8 (k 3))), .pv (.lit (.int .u8 (k 4))), .pv (.lit (.int .u8 (k 5))), .pv (.lit (.int .u8 (k 6))), .pv (.lit (.int .u8 (k 7)))], .pv (.lit (.int .i64 ver))] (.pv (.lit (.bool (lawSees l k ver)))) := by
 generalize hR : lawSees l k ver = R
 refine PCalls.of_body tabOk Tryd.func7 rfl rfl rfl rfl rfl mixed fun E hP C hI => ?_
 refine Awp.consP C ?_
 refine rvc_un (rexec_prim C (δ := { v := .ptr 4 0, new := [(4, .cells [.pv (.lit (.int .u8 (k 0))), .pv (.lit (.int .u8 (k 1))), .pv (.lit (.int .u8 (k 2))), .pv (.lit (.int .u8 (k 3))), .pv (.lit (.int .u8 (k 4))), .pv (.lit (.int .u8 (k 5))), .pv (.lit (.int .u8 (k 6))), .pv (.lit (.int .u8 (k 7)))])] }) rfl rfl rfl rfl trivial rfl ?_)
 refine rvP C (.pv (.lit (.bool false))) ?_
 refine rvc_nil ?_
 refine Awp.seq ?_
 refine Awp.consP C ?_
 refine rvP C (sS (some l.nil) eSeen l.D) ?_
 refine rvP C (.pv (.lit (.int .i64 (l.D.length : Int)))) ?_
 refine rvP C (.pv (.lit (.bool (decide ((l.D.length : Int) > 1000))))) ?_
 refine rvc_nil ?_
 refine Awp.cond (b := (decide ((l.D.length : Int) > 1000))) rfl (fun h1 => ?_) (fun h1 => ?_)
 ·
  replace hR := of_true h1 hR
  refine Awp.consP C ?_
  refine rvc_un (rexec_call hP C rfl rfl rfl (awake_is ) ?_)
  refine rvP C (.pv (.lit (.bool true))) ?_
  refine rvc_nil ?_
  refine Awp.ret ?_
  subst hR
  exact ⟨.inl rfl, rfl⟩
 ·
  replace hR := of_false h1 hR
  refine Awp.skip ?_
  refine Awp.consP C ?_
  refine rvP C (sS (some l.nil) eSeen l.D) ?_
  refine rvc_un (rexec_call hP C rfl rfl rfl (cloneSeen_calls l (by show l.D.length ≤ 1000000; have := of_decide_eq_false h1; omega)) ?_)
  refine rvP C (sS (some (cloneSeen l).nil) eSeen ((cloneSeen l).D)) ?_
  refine rvc_nil ?_
  refine Awp.cons C (fun _ => .quiet) (by kernel_rfl) ?_
  refine rvP C (sS (some (cloneSeen l).nil) eSeen ((cloneSeen l).D)) ?_
  refine rvP C (.agg [.pv (.lit (.int .u8 (k 0))), .pv (.lit (.int .u8 (k 1))), .pv (.lit (.int .u8 (k 2))), .pv (.lit (.int .u8 (k 3))), .pv (.lit (.int .u8 (k 4))), .pv (.lit (.int .u8 (k 5))), .pv (.lit (.int .u8 (k 6))), .pv (.lit (.int .u8 (k 7)))]) ?_
  refine rvP C (.pv (.lit (.int .i64 ver))) ?_
  rcases Bool.eq_false_or_eq_true ((pSeeO (cloneSeen l) k ver).isEmpty) with h2 | h2
  ·
   replace hR := of_true h2 hR
   refine rvc_un (rexec_call hP C rfl rfl rfl (pSeeE_calls (cloneSeen l) k ver (clone_KB hl) hk (clone_nil l) (Nat.le_trans (clone_len l) (by have := of_decide_eq_false ‹decide ((l.D.length : Int) > 1000) = false›; omega)) h2) ?_)
   refine rvP C (.tup [sS (some (pSee (cloneSeen l) k ver).1.nil) eSeen [], .pv (.lit (.int .i64 ((pSee (cloneSeen l) k ver).2)))]) ?_
   refine rvP C (sS (some (pSee (cloneSeen l) k ver).1.nil) eSeen []) ?_
   refine rvP C (.pv (.lit (.int .i64 ((pSee (cloneSeen l) k ver).2)))) ?_
   refine rvP C (sS (some (pSee (cloneSeen l) k ver).1.nil) eSeen []) ?_
   refine rvP C (.pv (.lit (.int .i64 ((pSee (cloneSeen l) k ver).2)))) ?_
   refine rvc_nil ?_
   refine Awp.cons C (fun _ => .quiet) (by kernel_rfl) ?_
   refine rvP C (sS (some l.nil) eSeen l.D) ?_
   refine rvP C (.agg [.pv (.lit (.int .u8 (k 0))), .pv (.lit (.int .u8 (k 1))), .pv (.lit (.int .u8 (k 2))), .pv (.lit (.int .u8 (k 3))), .pv (.lit (.int .u8 (k 4))), .pv (.lit (.int .u8 (k 5))), .pv (.lit (.int .u8 (k 6))), .pv (.lit (.int .u8 (k 7)))]) ?_
   refine rvP C (.pv (.lit (.int .i64 ver))) ?_
   rcases Bool.eq_false_or_eq_true ((rpSeeO l k ver).isEmpty) with h3 | h3
   ·
    replace hR := of_true h3 hR
    refine rvc_un (rexec_call hP C rfl rfl rfl (rpSeeE_calls l k ver hl hk (by have := of_decide_eq_false ‹decide ((l.D.length : Int) > 1000) = false›; omega) h3) ?_)
    refine rvP C (.tup [sS (some (rpSee l k ver).1.nil) eSeen [], .pv (.lit (.int .i64 ((rpSee l k ver).2)))]) ?_
    refine rvP C (sS (some (rpSee l k ver).1.nil) eSeen []) ?_
    refine rvP C (.pv (.lit (.int .i64 ((rpSee l k ver).2)))) ?_
    refine rvP C (sS (some (rpSee l k ver).1.nil) eSeen []) ?_
    refine rvP C (.pv (.lit (.int .i64 ((rpSee l k ver).2)))) ?_
    refine rvc_nil ?_
    refine Awp.seq ?_
    refine Awp.consP C ?_
    refine rvP C (sS (some (pSee (cloneSeen l) k ver).1.nil) eSeen []) ?_
    refine rvP C (.pv (.lit (.int .i64 0))) ?_
    refine rvP C (.pv (.lit (.int .i64 0))) ?_
    refine rvc_nil ?_
    refine Awp.block ?_
    refine Awp.rounds 1 ?_
    refine Arounds.succ ?_
    refine Awp.consP C ?_
    refine rvP C (.pv (.lit (.bool false))) ?_
    refine rvc_nil ?_
    refine Awp.seq ?_
    refine Awp.condF (b := false) rfl rfl ?_
    refine Awp.exit ?_
    refine Awp.seq ?_
    refine Awp.consP C ?_
    refine rvP C (sS (some (rpSee l k ver).1.nil) eSeen []) ?_
    refine rvP C (.pv (.lit (.int .i64 0))) ?_
    refine rvP C (.pv (.lit (.int .i64 0))) ?_
    refine rvc_nil ?_
    refine Awp.block ?_
    refine Awp.rounds 1 ?_
    refine Arounds.succ ?_
    refine Awp.consP C ?_
    refine rvP C (.pv (.lit (.bool false))) ?_
    refine rvc_nil ?_
    refine Awp.seq ?_
    refine Awp.condF (b := false) rfl rfl ?_
    refine Awp.exit ?_
    refine Awp.consP C ?_
    refine rvP C (sS (some (pSee (cloneSeen l) k ver).1.nil) eSeen []) ?_
    refine rvP C (sS (some (rpSee l k ver).1.nil) eSeen []) ?_
    refine rvc_un (rexec_call hP C rfl rfl rfl (eqSeen_calls (Sl.mk ((pSee (cloneSeen l) k ver).1.nil) []) (Sl.mk ((rpSee l k ver).1.nil) []) (by first | (simp; done) | (show vc.length ≤ 1000000; omega))) ?_)
    refine rvP C (.pv (.lit (.bool (eqSeen (Sl.mk ((pSee (cloneSeen l) k ver).1.nil) []) (Sl.mk ((rpSee l k ver).1.nil) []))))) ?_
    refine rvc_case 65 (eqSeen (Sl.mk ((pSee (cloneSeen l) k ver).1.nil) []) (Sl.mk ((rpSee l k ver).1.nil) [])) rfl (fun h4 => ?_) (fun h4 => ?_)
    ·
     replace hR := of_true h4 hR
     refine rvO C (.pv (.lit (.int .i64 ((pSee (cloneSeen l) k ver).2)))) ?_
     refine rvO C (.pv (.lit (.int .i64 ((rpSee l k ver).2)))) ?_
     refine rvO C (.pv (.lit (.bool (((pSee (cloneSeen l) k ver).2) == ((rpSee l k ver).2))))) ?_
     refine rvP C (.pv (.lit (.bool (((pSee (cloneSeen l) k ver).2) == ((rpSee l k ver).2))))) ?_
     refine rvP C (.pv (.lit (.bool (((pSee (cloneSeen l) k ver).2) == ((rpSee l k ver).2))))) ?_
     refine rvc_case 70 (((pSee (cloneSeen l) k ver).2) == ((rpSee l k ver).2)) rfl (fun h5 => ?_) (fun h5 => ?_)
     ·
      replace hR := of_true h5 hR
      refine rvO C (sS (some (cloneSeen l).nil) eSeen ((cloneSeen l).D)) ?_
      refine rvO C (sS (some l.nil) eSeen l.D) ?_
      refine rvc_open rfl rfl rfl (rexec_call hP C rfl rfl rfl (eqSeen_calls (cloneSeen l) l (Nat.le_trans (clone_len l) (Nat.le_trans (by have := of_decide_eq_false ‹decide ((l.D.length : Int) > 1000) = false›; (show _ ≤ 1000); omega) (by decide)))) ?_)
      refine rvP C (.pv (.lit (.bool (eqSeen (cloneSeen l) l)))) ?_
      refine rvP C (.pv (.lit (.bool (eqSeen (cloneSeen l) l)))) ?_
      refine rvc_case 75 (eqSeen (cloneSeen l) l) rfl (fun h6 => ?_) (fun h6 => ?_)
      ·
       replace hR := of_true h6 hR
       refine rvO C (sS (some l.nil) eSeen l.D) ?_
       refine rvO C (.agg [.pv (.lit (.int .u8 (k 0))), .pv (.lit (.int .u8 (k 1))), .pv (.lit (.int .u8 (k 2))), .pv (.lit (.int .u8 (k 3))), .pv (.lit (.int .u8 (k 4))), .pv (.lit (.int .u8 (k 5))), .pv (.lit (.int .u8 (k 6))), .pv (.lit (.int .u8 (k 7)))]) ?_
       obtain ⟨f1, hq_f1⟩ : ∃ q_, q_ = (pFloor l k) := ⟨_, rfl⟩
       have hc_f1 := (pFloor_calls l k hl (by show l.D.length ≤ 1000000; have := of_decide_eq_false h1; have := beq_iff_eq.1 h5; omega))
       first | rw [← hq_f1] at hR hc_f1 | (unfold lawSees at hR; rw [← hq_f1] at hR hc_f1) | (unfold lawSees_l0 at hR; rw [← hq_f1] at hR hc_f1) | (unfold lawSees_l1 at hR; rw [← hq_f1] at hR hc_f1)
       refine rvc_open rfl rfl rfl (rexec_call hP C rfl rfl rfl hc_f1 ?_)
       refine rvO C (sS (some l.nil) eSeen l.D) ?_
       refine rvO C (.agg [.pv (.lit (.int .u8 (k 0))), .pv (.lit (.int .u8 (k 1))), .pv (.lit (.int .u8 (k 2))), .pv (.lit (.int .u8 (k 3))), .pv (.lit (.int .u8 (k 4))), .pv (.lit (.int .u8 (k 5))), .pv (.lit (.int .u8 (k 6))), .pv (.lit (.int .u8 (k 7)))]) ?_
       obtain ⟨f2, hq_f2⟩ : ∃ q_, q_ = (rpFloor l k) := ⟨_, rfl⟩
       have hc_f2 := (rpFloor_calls l k hl (by show l.D.length ≤ 1000000; have := of_decide_eq_false h1; have := beq_iff_eq.1 h5; omega))
       first | rw [← hq_f2] at hR hc_f2 | (unfold lawSees at hR; rw [← hq_f2] at hR hc_f2) | (unfold lawSees_l0 at hR; rw [← hq_f2] at hR hc_f2) | (unfold lawSees_l1 at hR; rw [← hq_f2] at hR hc_f2)
       refine rvc_open rfl rfl rfl (rexec_call hP C rfl rfl rfl hc_f2 ?_)
       refine rvO C (.pv (.lit (.bool (f1 == f2)))) ?_
       refine rvP C (.pv (.lit (.bool (f1 == f2)))) ?_
       refine rvP C (.pv (.lit (.bool (f1 == f2)))) ?_
       refine rvc_case 84 (f1 == f2) rfl (fun h7 => ?_) (fun h7 => ?_)
       ·
        replace hR := of_true h7 hR
        refine rvc_open rfl rfl rfl (rexec_call hP C rfl rfl rfl (awake_is ) ?_)
        refine rvP C (.pv (.lit (.bool true))) ?_
        refine rvP C (.pv (.lit (.bool true))) ?_
        refine rvc_nil ?_
        refine Awp.ret ?_
        subst hR
        exact ⟨.inl rfl, rfl⟩
       ·
        replace hR := of_false h7 hR
        refine rvS ?_
        refine rvP C (.pv (.lit (.bool false))) ?_
        refine rvP C (.pv (.lit (.bool false))) ?_
        refine rvc_nil ?_
        refine Awp.ret ?_
        subst hR
        exact ⟨.inl rfl, rfl⟩
      ·
       replace hR := of_false h6 hR
       refine rvS ?_
       refine rvS ?_
       refine rvS ?_
       refine rvS ?_
       refine rvS ?_
       refine rvS ?_
       refine rvS ?_
       refine rvP C (.pv (.lit (.bool false))) ?_
       refine rvP C (.pv (.lit (.bool false))) ?_
       refine rvS ?_
       refine rvP C (.pv (.lit (.bool false))) ?_
       refine rvP C (.pv (.lit (.bool false))) ?_
       refine rvc_nil ?_
       refine Awp.ret ?_
       subst hR
       exact ⟨.inl rfl, rfl⟩
     ·
      replace hR := of_false h5 hR
      refine rvS ?_
      refine rvS ?_
      refine rvS ?_
      refine rvP C (.pv (.lit (.bool false))) ?_
      refine rvP C (.pv (.lit (.bool false))) ?_
      refine rvS ?_
      refine rvS ?_
      refine rvS ?_
      refine rvS ?_
      refine rvS ?_
      refine rvS ?_
      refine rvS ?_
      refine rvP C (.pv (.lit (.bool false))) ?_
      refine rvP C (.pv (.lit (.bool false))) ?_
      refine rvS ?_
      refine rvP C (.pv (.lit (.bool false))) ?_
      refine rvP C (.pv (.lit (.bool false))) ?_
      refine rvc_nil ?_
      refine Awp.ret ?_
      subst hR
      exact ⟨.inl rfl, rfl⟩
    ·
     replace hR := of_false h4 hR
     refine rvS ?_
     refine rvS ?_
     refine rvS ?_
     refine rvP C (.pv (.lit (.bool false))) ?_
     refine rvP C (.pv (.lit (.bool false))) ?_
     refine rvS ?_
     refine rvS ?_
     refine rvS ?_
     refine rvP C (.pv (.lit (.bool false))) ?_
     refine rvP C (.pv (.lit (.bool false))) ?_
     refine rvS ?_
     refine rvS ?_
     refine rvS ?_
     refine rvS ?_
     refine rvS ?_
     refine rvS ?_
     refine rvS ?_
     refine rvP C (.pv (.lit (.bool false))) ?_
     refine rvP C (.pv (.lit (.bool false))) ?_
     refine rvS ?_
     refine rvP C (.pv (.lit (.bool false))) ?_
     refine rvP C (.pv (.lit (.bool false))) ?_
     refine rvc_nil ?_
     refine Awp.ret ?_
     subst hR
     exact ⟨.inl rfl, rfl⟩
   ·
    replace hR := of_false h3 hR
    refine rvc_un (rexec_callO hP C rfl rfl rfl rfl (rpSeeO_calls2 l k ver hl hk (by have := of_decide_eq_false ‹decide ((l.D.length : Int) > 1000) = false›; omega) h3) ?_)
    refine rvP C (.tup [.sl 31 0 ((rpSeeO l k ver).length) 9 false, .pv (.lit (.int .i64 0))]) ?_
    refine rvP C (.sl 31 0 ((rpSeeO l k ver).length) 9 false) ?_
    refine rvP C (.pv (.lit (.int .i64 0))) ?_
    refine rvP C (.sl 31 0 ((rpSeeO l k ver).length) 9 false) ?_
    refine rvP C (.pv (.lit (.int .i64 0))) ?_
    refine rvc_nil ?_
    refine Awp.seq ?_
    refine Awp.consP C ?_
    refine rvP C (sS (some (pSee (cloneSeen l) k ver).1.nil) eSeen []) ?_
    refine rvP C (.pv (.lit (.int .i64 0))) ?_
    refine rvP C (.pv (.lit (.int .i64 0))) ?_
    refine rvc_nil ?_
    refine Awp.block ?_
    refine Awp.rounds 1 ?_
    refine Arounds.succ ?_
    refine Awp.consP C ?_
    refine rvP C (.pv (.lit (.bool false))) ?_
    refine rvc_nil ?_
    refine Awp.seq ?_
    refine Awp.condF (b := false) rfl rfl ?_
    refine Awp.exit ?_
    refine Awp.seq ?_
    refine Awp.consP C ?_
    refine rvP C (.sl 31 0 ((rpSeeO l k ver).length) 9 false) ?_
    refine rvP C (.pv (.lit (.int .i64 (((rpSeeO l k ver).length) : Int)))) ?_
    refine rvP C (.pv (.lit (.int .i64 0))) ?_
    refine rvc_nil ?_
    refine Awp.block ?_
    refine Awp.forR (σ := ((List Seen))) ((rpSeeO l k ver).length) (fun i v => [(0, sS (some l.nil) eSeen l.D), (4, .ptr 4 0), (7, sS (some (cloneSeen l).nil) eSeen ((cloneSeen l).D)), (8, sS (some (pSee (cloneSeen l) k ver).1.nil) eSeen []), (9, .pv (.lit (.int .i64 ((pSee (cloneSeen l) k ver).2)))), (10, .sl 31 0 ((rpSeeO l k ver).length) 9 false), (11, .pv (.lit (.int .i64 0))), (49, .pv (.lit (.int .i64 (((rpSeeO l k ver).length) : Int)))), (50, .pv (.lit (.int .i64 (i : Int))))]) (fun i v => [(4, .cells [.pv (.lit (.int .u8 (k 0))), .pv (.lit (.int .u8 (k 1))), .pv (.lit (.int .u8 (k 2))), .pv (.lit (.int .u8 (k 3))), .pv (.lit (.int .u8 (k 4))), .pv (.lit (.int .u8 (k 5))), .pv (.lit (.int .u8 (k 6))), .pv (.lit (.int .u8 (k 7)))]), (31, .cells (encC eSeen v))]) [4, 31] (fun i v => (lawSees_l1 l k ver ((rpSeeO l k ver).drop i) i v = R) ∧ (v.length = (rpSeeO l k ver).length)) (rpSeeO l k ver) ?_ ?_ (fun i vc h8 hR => ?_)
    · exact ⟨hR, (by first | omega | (simp <;> omega))⟩
    · exact ⟨fun b => b, WeakerR.ofL (Ks := [4, 31]) hI ⟨⟨rfl, rfl⟩, ⟨rfl, rfl⟩, ⟨rfl, rfl⟩, ⟨rfl, rfl⟩, ⟨rfl, rfl⟩, ⟨rfl, rfl⟩, ⟨rfl, rfl⟩, ⟨rfl, rfl⟩, ⟨rfl, rfl⟩, trivial⟩ (okH_cons rfl rfl rfl rfl (okH_list rfl rfl rfl (okH_nil))) rfl⟩
    obtain ⟨hR, hi_vc⟩ := hR
    replace hi_vc : vc.length = (rpSeeO l k ver).length := hi_vc
    have hq1_ := rpSeeO_len (l := l) (v := ver) hl hk (by have := of_decide_eq_false ‹decide ((l.D.length : Int) > 1000) = false›; omega)
    refine Awp.consP C ?_
    refine rvP C (.pv (.lit (.bool (decide ((i : Int) < (((rpSeeO l k ver).length) : Int)))))) ?_
    refine rvc_nil ?_
    refine Awp.seq ?_
    refine Awp.cond (b := (decide ((i : Int) < (((rpSeeO l k ver).length) : Int)))) rfl (fun h9 => ?_) (fun h9 => ?_)
    ·
     have h10 : i < (rpSeeO l k ver).length := by have := of_decide_eq_true h9; omega
     obtain ⟨x, h11⟩ := getX h10
     rw [drop_at h11] at hR
     refine Awp.skip ?_
     refine Awp.seq ?_
     refine Awp.block ?_
     refine Awp.consP C ?_
     refine rvP C (.pv (.lit (.int .i64 (i : Int)))) ?_
     refine rvP C (.pv (.lit (.int .i64 (i : Int)))) ?_
     refine rvc_nil ?_
     refine Awp.regionP C ?_
     refine rvP C (.sl 31 0 ((rpSeeO l k ver).length) 9 false) ?_
     refine rvP C (.pv (.lit (.int .i64 (i : Int)))) ?_
     have h12 : vc[i]? = some vc[i]! := getE (by have := of_decide_eq_false h1; have := of_decide_eq_true h9; omega)
     refine rvc_un (rexec_prim C (δ := { v := .ptr 31 (0 + i * 9) }) rfl rfl rfl rfl ⟨(by have := of_decide_eq_false h1; have := of_decide_eq_true h9; omega), getlt h12 (by first | rfl | omega | (have := of_decide_eq_false h1; have := of_decide_eq_true h9; omega)) (by first | rfl | omega | simp)⟩ rfl ?_)
     refine rvP C (.ptr 31 (0 + i * 9 + 8)) ?_
     refine rvc_un (rexec_loadE C (e := eSeen) i 8 (vc[i]!) (.pv (.lit (.int .i64 (vc[i]!.ver)))) rfl rfl rfl rfl h12 (by simp [eSeen]) (by decide) (by decide) rfl ?_)
     refine rvP C (.pv (.lit (.int .i64 (bitI .xor .i64 (vc[i]!.ver) 1)))) ?_
     refine rvc_un (rexec_prim C (δ := { v := .ptr 31 (0 + i * 9) }) rfl rfl rfl rfl ⟨(by have := of_decide_eq_false h1; have := of_decide_eq_true h9; omega), getlt h12 (by first | rfl | omega | (have := of_decide_eq_false h1; have := of_decide_eq_true h9; omega)) (by first | rfl | omega | simp)⟩ rfl ?_)
     refine rvP C (.ptr 31 (0 + i * 9 + 8)) ?_
     refine rvc_un (rexec_storeE C (e := eSeen) i 8 (vc[i]!) (Seen.mk (ofL [(vc[i]!.key 0), (vc[i]!.key 1), (vc[i]!.key 2), (vc[i]!.key 3), (vc[i]!.key 4), (vc[i]!.key 5), (vc[i]!.key 6), (vc[i]!.key 7)]) (bitI .xor .i64 (vc[i]!.ver) 1)) rfl rfl rfl rfl h12 (by simp [eSeen]) rfl rfl rfl (of_decide_eq_true rfl) rfl ?_)
     refine rvc_nil ?_
     refine Awp.regionP C ?_
     refine rvP C (.pv (.lit (.int .i64 (IntKind.i64.wrap ((i : Int) + 1))))) ?_
     refine rvP C (.pv (.lit (.int .i64 (IntKind.i64.wrap ((i : Int) + 1))))) ?_
     refine rvc_nil ?_
     refine ⟨h10, (vc.set i (Seen.mk (ofL [(vc[i]!.key 0), (vc[i]!.key 1), (vc[i]!.key 2), (vc[i]!.key 3), (vc[i]!.key 4), (vc[i]!.key 5), (vc[i]!.key 6), (vc[i]!.key 7)]) (bitI .xor .i64 (vc[i]!.ver) 1))), ?_, ?_⟩
     · exact ⟨hR, (by first | omega | (simp <;> omega))⟩
     · exact ⟨fun b => b, WeakerR.ofL (Ks := [4, 31]) hI ⟨⟨rfl, rfl⟩, ⟨rfl, rfl⟩, ⟨rfl, rfl⟩, ⟨rfl, rfl⟩, ⟨rfl, rfl⟩, ⟨rfl, rfl⟩, ⟨rfl, rfl⟩, ⟨rfl, rfl⟩, ⟨lit_cast (wrap_i64 (by omega) (by omega)), rfl⟩, trivial⟩ (okH_cons rfl rfl rfl rfl (okH_list rfl rfl rfl (okH_nil))) rfl⟩
    ·
     have h10 : ¬ i < (rpSeeO l k ver).length := by have := of_decide_eq_false h9; omega
     rw [drop_end h10] at hR
     refine Awp.exit ?_
     refine Awp.freezeW 31 (encL eSeen vc) ?_ [(0, sS (some l.nil) eSeen l.D), (4, .ptr 4 0), (7, sS (some (cloneSeen l).nil) eSeen ((cloneSeen l).D)), (8, sS (some (pSee (cloneSeen l) k ver).1.nil) eSeen []), (9, .pv (.lit (.int .i64 ((pSee (cloneSeen l) k ver).2)))), (10, sS (some false) eSeen vc), (11, .pv (.lit (.int .i64 0)))] [(4, .cells [.pv (.lit (.int .u8 (k 0))), .pv (.lit (.int .u8 (k 1))), .pv (.lit (.int .u8 (k 2))), .pv (.lit (.int .u8 (k 3))), .pv (.lit (.int .u8 (k 4))), .pv (.lit (.int .u8 (k 5))), .pv (.lit (.int .u8 (k 6))), .pv (.lit (.int .u8 (k 7)))])] ?_ ?_ ?_
     · rfl
     · exact ⟨⟨_, rfl, .inl (.inl rfl)⟩, ⟨_, rfl, .inl (.inl rfl)⟩, ⟨_, rfl, .inl (.inl rfl)⟩, ⟨_, rfl, .inl (.inl rfl)⟩, ⟨_, rfl, .inl (.inl rfl)⟩, ⟨_, rfl, .inl (.inr ⟨_, _, _, rfl, by simp [sS] <;> omega⟩)⟩, ⟨_, rfl, .inl (.inl rfl)⟩, trivial⟩
     · exact ⟨⟨(by show (4 : Nat) ≠ 31; decide), .inl rfl⟩, trivial⟩
     refine Awp.consP C ?_
     refine rvP C (sS (some (pSee (cloneSeen l) k ver).1.nil) eSeen []) ?_
     refine rvP C (sS (some false) eSeen vc) ?_
     refine rvc_un (rexec_call hP C rfl rfl rfl (eqSeen_calls (Sl.mk ((pSee (cloneSeen l) k ver).1.nil) []) (Sl.mk false vc) (by first | (simp; done) | (show vc.length ≤ 1000000; omega))) ?_)
     refine rvP C (.pv (.lit (.bool (eqSeen (Sl.mk ((pSee (cloneSeen l) k ver).1.nil) []) (Sl.mk false vc))))) ?_
     refine rvc_case 65 (eqSeen (Sl.mk ((pSee (cloneSeen l) k ver).1.nil) []) (Sl.mk false vc)) rfl (fun h13 => ?_) (fun h13 => ?_)
     ·
      replace hR := of_true h13 hR
      refine rvO C (.pv (.lit (.int .i64 ((pSee (cloneSeen l) k ver).2)))) ?_
      refine rvO C (.pv (.lit (.int .i64 0))) ?_
      refine rvO C (.pv (.lit (.bool (((pSee (cloneSeen l) k ver).2) == 0)))) ?_
      refine rvP C (.pv (.lit (.bool (((pSee (cloneSeen l) k ver).2) == 0)))) ?_
      refine rvP C (.pv (.lit (.bool (((pSee (cloneSeen l) k ver).2) == 0)))) ?_
      refine rvc_case 70 (((pSee (cloneSeen l) k ver).2) == 0) rfl (fun h14 => ?_) (fun h14 => ?_)
      ·
       replace hR := of_true h14 hR
       refine rvO C (sS (some (cloneSeen l).nil) eSeen ((cloneSeen l).D)) ?_
       refine rvO C (sS (some l.nil) eSeen l.D) ?_
       refine rvc_open rfl rfl rfl (rexec_call hP C rfl rfl rfl (eqSeen_calls (cloneSeen l) l (Nat.le_trans (clone_len l) (Nat.le_trans (by have := of_decide_eq_false ‹decide ((l.D.length : Int) > 1000) = false›; (show _ ≤ 1000); omega) (by decide)))) ?_)
       refine rvP C (.pv (.lit (.bool (eqSeen (cloneSeen l) l)))) ?_
       refine rvP C (.pv (.lit (.bool (eqSeen (cloneSeen l) l)))) ?_
       refine rvc_case 75 (eqSeen (cloneSeen l) l) rfl (fun h15 => ?_) (fun h15 => ?_)
       ·
        replace hR := of_true h15 hR
        refine rvO C (sS (some l.nil) eSeen l.D) ?_
        refine rvO C (.agg [.pv (.lit (.int .u8 (k 0))), .pv (.lit (.int .u8 (k 1))), .pv (.lit (.int .u8 (k 2))), .pv (.lit (.int .u8 (k 3))), .pv (.lit (.int .u8 (k 4))), .pv (.lit (.int .u8 (k 5))), .pv (.lit (.int .u8 (k 6))), .pv (.lit (.int .u8 (k 7)))]) ?_
        obtain ⟨f1, hq_f1⟩ : ∃ q_, q_ = (pFloor l k) := ⟨_, rfl⟩
        have hc_f1 := (pFloor_calls l k hl (by show l.D.length ≤ 1000000; have := of_decide_eq_false h1; have := of_decide_eq_false h9; have := beq_iff_eq.1 h14; omega))
        first | rw [← hq_f1] at hR hc_f1 | (unfold lawSees at hR; rw [← hq_f1] at hR hc_f1) | (unfold lawSees_l0 at hR; rw [← hq_f1] at hR hc_f1) | (unfold lawSees_l1 at hR; rw [← hq_f1] at hR hc_f1)
        refine rvc_open rfl rfl rfl (rexec_call hP C rfl rfl rfl hc_f1 ?_)
        refine rvO C (sS (some l.nil) eSeen l.D) ?_
        refine rvO C (.agg [.pv (.lit (.int .u8 (k 0))), .pv (.lit (.int .u8 (k 1))), .pv (.lit (.int .u8 (k 2))), .pv (.lit (.int .u8 (k 3))), .pv (.lit (.int .u8 (k 4))), .pv (.lit (.int .u8 (k 5))), .pv (.lit (.int .u8 (k 6))), .pv (.lit (.int .u8 (k 7)))]) ?_
        obtain ⟨f2, hq_f2⟩ : ∃ q_, q_ = (rpFloor l k) := ⟨_, rfl⟩
        have hc_f2 := (rpFloor_calls l k hl (by show l.D.length ≤ 1000000; have := of_decide_eq_false h1; have := of_decide_eq_false h9; have := beq_iff_eq.1 h14; omega))
        first | rw [← hq_f2] at hR hc_f2 | (unfold lawSees at hR; rw [← hq_f2] at hR hc_f2) | (unfold lawSees_l0 at hR; rw [← hq_f2] at hR hc_f2) | (unfold lawSees_l1 at hR; rw [← hq_f2] at hR hc_f2)
        refine rvc_open rfl rfl rfl (rexec_call hP C rfl rfl rfl hc_f2 ?_)
        refine rvO C (.pv (.lit (.bool (f1 == f2)))) ?_
        refine rvP C (.pv (.lit (.bool (f1 == f2)))) ?_
        refine rvP C (.pv (.lit (.bool (f1 == f2)))) ?_
        refine rvc_case 84 (f1 == f2) rfl (fun h16 => ?_) (fun h16 => ?_)
        ·
         replace hR := of_true h16 hR
         refine rvc_open rfl rfl rfl (rexec_call hP C rfl rfl rfl (awake_is ) ?_)
         refine rvP C (.pv (.lit (.bool true))) ?_
         refine rvP C (.pv (.lit (.bool true))) ?_
         refine rvc_nil ?_
         refine Awp.ret ?_
         subst hR
         exact ⟨.inl rfl, rfl⟩
        ·
         replace hR := of_false h16 hR
         refine rvS ?_
         refine rvP C (.pv (.lit (.bool false))) ?_
         refine rvP C (.pv (.lit (.bool false))) ?_
         refine rvc_nil ?_
         refine Awp.ret ?_
         subst hR
         exact ⟨.inl rfl, rfl⟩
       ·
        replace hR := of_false h15 hR
        refine rvS ?_
        refine rvS ?_
        refine rvS ?_
        refine rvS ?_
        refine rvS ?_
        refine rvS ?_
        refine rvS ?_
        refine rvP C (.pv (.lit (.bool false))) ?_
        refine rvP C (.pv (.lit (.bool false))) ?_
        refine rvS ?_
        refine rvP C (.pv (.lit (.bool false))) ?_
        refine rvP C (.pv (.lit (.bool false))) ?_
        refine rvc_nil ?_
        refine Awp.ret ?_
        subst hR
        exact ⟨.inl rfl, rfl⟩
      ·
       replace hR := of_false h14 hR
       refine rvS ?_
       refine rvS ?_
       refine rvS ?_
       refine rvP C (.pv (.lit (.bool false))) ?_
       refine rvP C (.pv (.lit (.bool false))) ?_
       refine rvS ?_
       refine rvS ?_
       refine rvS ?_
       refine rvS ?_
       refine rvS ?_
       refine rvS ?_
       refine rvS ?_
       refine rvP C (.pv (.lit (.bool false))) ?_
       refine rvP C (.pv (.lit (.bool false))) ?_
       refine rvS ?_
       refine rvP C (.pv (.lit (.bool false))) ?_
       refine rvP C (.pv (.lit (.bool false))) ?_
       refine rvc_nil ?_
       refine Awp.ret ?_
       subst hR
       exact ⟨.inl rfl, rfl⟩
     ·
      replace hR := of_false h13 hR
      refine rvS ?_
      refine rvS ?_
      refine rvS ?_
      refine rvP C (.pv (.lit (.bool false))) ?_
      refine rvP C (.pv (.lit (.bool false))) ?_
      refine rvS ?_
      refine rvS ?_
      refine rvS ?_
      refine rvP C (.pv (.lit (.bool false))) ?_
      refine rvP C (.pv (.lit (.bool false))) ?_
      refine rvS ?_
      refine rvS ?_
      refine rvS ?_
      refine rvS ?_
      refine rvS ?_
      refine rvS ?_
      refine rvS ?_
      refine rvP C (.pv (.lit (.bool false))) ?_
      refine rvP C (.pv (.lit (.bool false))) ?_
      refine rvS ?_
      refine rvP C (.pv (.lit (.bool false))) ?_
      refine rvP C (.pv (.lit (.bool false))) ?_
      refine rvc_nil ?_
      refine Awp.ret ?_
      subst hR
      exact ⟨.inl rfl, rfl⟩
  ·
   replace hR := of_false h2 hR
   refine rvc_un (rexec_callO hP C rfl rfl rfl rfl (pSeeO_calls2 (cloneSeen l) k ver (clone_KB hl) hk (clone_nil l) (Nat.le_trans (clone_len l) (by have := of_decide_eq_false ‹decide ((l.D.length : Int) > 1000) = false›; omega)) h2) ?_)
   refine rvP C (.tup [.sl 24 0 ((pSeeO (cloneSeen l) k ver).length) 9 false, .pv (.lit (.int .i64 0))]) ?_
   refine rvP C (.sl 24 0 ((pSeeO (cloneSeen l) k ver).length) 9 false) ?_
   refine rvP C (.pv (.lit (.int .i64 0))) ?_
   refine rvP C (.sl 24 0 ((pSeeO (cloneSeen l) k ver).length) 9 false) ?_
   refine rvP C (.pv (.lit (.int .i64 0))) ?_
   refine rvc_nil ?_
   refine Awp.cons C (fun _ => .quiet) (by kernel_rfl) ?_
   refine rvP C (sS (some l.nil) eSeen l.D) ?_
   refine rvP C (.agg [.pv (.lit (.int .u8 (k 0))), .pv (.lit (.int .u8 (k 1))), .pv (.lit (.int .u8 (k 2))), .pv (.lit (.int .u8 (k 3))), .pv (.lit (.int .u8 (k 4))), .pv (.lit (.int .u8 (k 5))), .pv (.lit (.int .u8 (k 6))), .pv (.lit (.int .u8 (k 7)))]) ?_
   refine rvP C (.pv (.lit (.int .i64 ver))) ?_
   rcases Bool.eq_false_or_eq_true ((rpSeeO l k ver).isEmpty) with h17 | h17
   ·
    replace hR := of_true h17 hR
    refine rvc_un (rexec_call hP C rfl rfl rfl (rpSeeE_calls l k ver hl hk (by have := of_decide_eq_false ‹decide ((l.D.length : Int) > 1000) = false›; omega) h17) ?_)
    refine rvP C (.tup [sS (some (rpSee l k ver).1.nil) eSeen [], .pv (.lit (.int .i64 ((rpSee l k ver).2)))]) ?_
    refine rvP C (sS (some (rpSee l k ver).1.nil) eSeen []) ?_
    refine rvP C (.pv (.lit (.int .i64 ((rpSee l k ver).2)))) ?_
    refine rvP C (sS (some (rpSee l k ver).1.nil) eSeen []) ?_
    refine rvP C (.pv (.lit (.int .i64 ((rpSee l k ver).2)))) ?_
    refine rvc_nil ?_
    refine Awp.seq ?_
    refine Awp.consP C ?_
    refine rvP C (.sl 24 0 ((pSeeO (cloneSeen l) k ver).length) 9 false) ?_
    refine rvP C (.pv (.lit (.int .i64 (((pSeeO (cloneSeen l) k ver).length) : Int)))) ?_
    refine rvP C (.pv (.lit (.int .i64 0))) ?_
    refine rvc_nil ?_
    refine Awp.block ?_
    refine Awp.forR (σ := ((List Seen))) ((pSeeO (cloneSeen l) k ver).length) (fun i v => [(0, sS (some l.nil) eSeen l.D), (4, .ptr 4 0), (7, sS (some (cloneSeen l).nil) eSeen ((cloneSeen l).D)), (8, .sl 24 0 ((pSeeO (cloneSeen l) k ver).length) 9 false), (9, .pv (.lit (.int .i64 0))), (10, sS (some (rpSee l k ver).1.nil) eSeen []), (11, .pv (.lit (.int .i64 ((rpSee l k ver).2)))), (35, .pv (.lit (.int .i64 (((pSeeO (cloneSeen l) k ver).length) : Int)))), (36, .pv (.lit (.int .i64 (i : Int))))]) (fun i v => [(4, .cells [.pv (.lit (.int .u8 (k 0))), .pv (.lit (.int .u8 (k 1))), .pv (.lit (.int .u8 (k 2))), .pv (.lit (.int .u8 (k 3))), .pv (.lit (.int .u8 (k 4))), .pv (.lit (.int .u8 (k 5))), .pv (.lit (.int .u8 (k 6))), .pv (.lit (.int .u8 (k 7)))]), (24, .cells (encC eSeen v))]) [4, 24] (fun i v => (lawSees_l0 l k ver ((pSeeO (cloneSeen l) k ver).drop i) i v = R) ∧ (v.length = (pSeeO (cloneSeen l) k ver).length)) (pSeeO (cloneSeen l) k ver) ?_ ?_ (fun i vc h18 hR => ?_)
    · exact ⟨hR, (by first | omega | (simp <;> omega))⟩
    · exact ⟨fun b => b, WeakerR.ofL (Ks := [4, 24]) hI ⟨⟨rfl, rfl⟩, ⟨rfl, rfl⟩, ⟨rfl, rfl⟩, ⟨rfl, rfl⟩, ⟨rfl, rfl⟩, ⟨rfl, rfl⟩, ⟨rfl, rfl⟩, ⟨rfl, rfl⟩, ⟨rfl, rfl⟩, trivial⟩ (okH_cons rfl rfl rfl rfl (okH_list rfl rfl rfl (okH_nil))) rfl⟩
    obtain ⟨hR, hi_vc⟩ := hR
    replace hi_vc : vc.length = (pSeeO (cloneSeen l) k ver).length := hi_vc
    have hq0_ := pSeeO_len (v := ver) (clone_KB hl) hk (Nat.le_trans (clone_len l) (by have := of_decide_eq_false ‹decide ((l.D.length : Int) > 1000) = false›; omega))
    refine Awp.consP C ?_
    refine rvP C (.pv (.lit (.bool (decide ((i : Int) < (((pSeeO (cloneSeen l) k ver).length) : Int)))))) ?_
    refine rvc_nil ?_
    refine Awp.seq ?_
    refine Awp.cond (b := (decide ((i : Int) < (((pSeeO (cloneSeen l) k ver).length) : Int)))) rfl (fun h19 => ?_) (fun h19 => ?_)
    ·
     have h20 : i < (pSeeO (cloneSeen l) k ver).length := by have := of_decide_eq_true h19; omega
     obtain ⟨x, h21⟩ := getX h20
     rw [drop_at h21] at hR
     refine Awp.skip ?_
     refine Awp.seq ?_
     refine Awp.block ?_
     refine Awp.consP C ?_
     refine rvP C (.pv (.lit (.int .i64 (i : Int)))) ?_
     refine rvP C (.pv (.lit (.int .i64 (i : Int)))) ?_
     refine rvc_nil ?_
     refine Awp.regionP C ?_
     refine rvP C (.sl 24 0 ((pSeeO (cloneSeen l) k ver).length) 9 false) ?_
     refine rvP C (.pv (.lit (.int .i64 (i : Int)))) ?_
     have h22 : vc[i]? = some vc[i]! := getE (by have := of_decide_eq_false h1; have := of_decide_eq_true h19; omega)
     refine rvc_un (rexec_prim C (δ := { v := .ptr 24 (0 + i * 9) }) rfl rfl rfl rfl ⟨(by have := of_decide_eq_false h1; have := of_decide_eq_true h19; omega), getlt h22 (by first | rfl | omega | (have := of_decide_eq_false h1; have := of_decide_eq_true h19; omega)) (by first | rfl | omega | simp)⟩ rfl ?_)
     refine rvP C (.ptr 24 (0 + i * 9 + 8)) ?_
     refine rvc_un (rexec_loadE C (e := eSeen) i 8 (vc[i]!) (.pv (.lit (.int .i64 (vc[i]!.ver)))) rfl rfl rfl rfl h22 (by simp [eSeen]) (by decide) (by decide) rfl ?_)
     refine rvP C (.pv (.lit (.int .i64 (bitI .xor .i64 (vc[i]!.ver) 1)))) ?_
     refine rvc_un (rexec_prim C (δ := { v := .ptr 24 (0 + i * 9) }) rfl rfl rfl rfl ⟨(by have := of_decide_eq_false h1; have := of_decide_eq_true h19; omega), getlt h22 (by first | rfl | omega | (have := of_decide_eq_false h1; have := of_decide_eq_true h19; omega)) (by first | rfl | omega | simp)⟩ rfl ?_)
     refine rvP C (.ptr 24 (0 + i * 9 + 8)) ?_
     refine rvc_un (rexec_storeE C (e := eSeen) i 8 (vc[i]!) (Seen.mk (ofL [(vc[i]!.key 0), (vc[i]!.key 1), (vc[i]!.key 2), (vc[i]!.key 3), (vc[i]!.key 4), (vc[i]!.key 5), (vc[i]!.key 6), (vc[i]!.key 7)]) (bitI .xor .i64 (vc[i]!.ver) 1)) rfl rfl rfl rfl h22 (by simp [eSeen]) rfl rfl rfl (of_decide_eq_true rfl) rfl ?_)
     refine rvc_nil ?_
     refine Awp.regionP C ?_
     refine rvP C (.pv (.lit (.int .i64 (IntKind.i64.wrap ((i : Int) + 1))))) ?_
     refine rvP C (.pv (.lit (.int .i64 (IntKind.i64.wrap ((i : Int) + 1))))) ?_
     refine rvc_nil ?_
     refine ⟨h20, (vc.set i (Seen.mk (ofL [(vc[i]!.key 0), (vc[i]!.key 1), (vc[i]!.key 2), (vc[i]!.key 3), (vc[i]!.key 4), (vc[i]!.key 5), (vc[i]!.key 6), (vc[i]!.key 7)]) (bitI .xor .i64 (vc[i]!.ver) 1))), ?_, ?_⟩
     · exact ⟨hR, (by first | omega | (simp <;> omega))⟩
     · exact ⟨fun b => b, WeakerR.ofL (Ks := [4, 24]) hI ⟨⟨rfl, rfl⟩, ⟨rfl, rfl⟩, ⟨rfl, rfl⟩, ⟨rfl, rfl⟩, ⟨rfl, rfl⟩, ⟨rfl, rfl⟩, ⟨rfl, rfl⟩, ⟨rfl, rfl⟩, ⟨lit_cast (wrap_i64 (by omega) (by omega)), rfl⟩, trivial⟩ (okH_cons rfl rfl rfl rfl (okH_list rfl rfl rfl (okH_nil))) rfl⟩
    ·
     have h20 : ¬ i < (pSeeO (cloneSeen l) k ver).length := by have := of_decide_eq_false h19; omega
     rw [drop_end h20] at hR
     refine Awp.exit ?_
     refine Awp.seq ?_
     refine Awp.consP C ?_
     refine rvP C (sS (some (rpSee l k ver).1.nil) eSeen []) ?_
     refine rvP C (.pv (.lit (.int .i64 0))) ?_
     refine rvP C (.pv (.lit (.int .i64 0))) ?_
     refine rvc_nil ?_
     refine Awp.block ?_
     refine Awp.rounds 1 ?_
     refine Arounds.succ ?_
     refine Awp.consP C ?_
     refine rvP C (.pv (.lit (.bool false))) ?_
     refine rvc_nil ?_
     refine Awp.seq ?_
     refine Awp.condF (b := false) rfl rfl ?_
     refine Awp.exit ?_
     refine Awp.freezeW 24 (encL eSeen vc) ?_ [(0, sS (some l.nil) eSeen l.D), (4, .ptr 4 0), (7, sS (some (cloneSeen l).nil) eSeen ((cloneSeen l).D)), (8, sS (some false) eSeen vc), (9, .pv (.lit (.int .i64 0))), (10, sS (some (rpSee l k ver).1.nil) eSeen []), (11, .pv (.lit (.int .i64 ((rpSee l k ver).2))))] [(4, .cells [.pv (.lit (.int .u8 (k 0))), .pv (.lit (.int .u8 (k 1))), .pv (.lit (.int .u8 (k 2))), .pv (.lit (.int .u8 (k 3))), .pv (.lit (.int .u8 (k 4))), .pv (.lit (.int .u8 (k 5))), .pv (.lit (.int .u8 (k 6))), .pv (.lit (.int .u8 (k 7)))])] ?_ ?_ ?_
     · rfl
     · exact ⟨⟨_, rfl, .inl (.inl rfl)⟩, ⟨_, rfl, .inl (.inl rfl)⟩, ⟨_, rfl, .inl (.inl rfl)⟩, ⟨_, rfl, .inl (.inr ⟨_, _, _, rfl, by simp [sS] <;> omega⟩)⟩, ⟨_, rfl, .inl (.inl rfl)⟩, ⟨_, rfl, .inl (.inl rfl)⟩, ⟨_, rfl, .inl (.inl rfl)⟩, trivial⟩
     · exact ⟨⟨(by show (4 : Nat) ≠ 24; decide), .inl rfl⟩, trivial⟩
     refine Awp.consP C ?_
     refine rvP C (sS (some false) eSeen vc) ?_
     refine rvP C (sS (some (rpSee l k ver).1.nil) eSeen []) ?_
     refine rvc_un (rexec_call hP C rfl rfl rfl (eqSeen_calls (Sl.mk false vc) (Sl.mk ((rpSee l k ver).1.nil) []) (by first | (simp; done) | (show vc.length ≤ 1000000; omega))) ?_)
     refine rvP C (.pv (.lit (.bool (eqSeen (Sl.mk false vc) (Sl.mk ((rpSee l k ver).1.nil) []))))) ?_
     refine rvc_case 65 (eqSeen (Sl.mk false vc) (Sl.mk ((rpSee l k ver).1.nil) [])) rfl (fun h23 => ?_) (fun h23 => ?_)
     ·
      replace hR := of_true h23 hR
      refine rvO C (.pv (.lit (.int .i64 0))) ?_
      refine rvO C (.pv (.lit (.int .i64 ((rpSee l k ver).2)))) ?_
      refine rvO C (.pv (.lit (.bool ((0 : Int) == ((rpSee l k ver).2))))) ?_
      refine rvP C (.pv (.lit (.bool ((0 : Int) == ((rpSee l k ver).2))))) ?_
      refine rvP C (.pv (.lit (.bool ((0 : Int) == ((rpSee l k ver).2))))) ?_
      refine rvc_case 70 ((0 : Int) == ((rpSee l k ver).2)) rfl (fun h24 => ?_) (fun h24 => ?_)
      ·
       replace hR := of_true h24 hR
       refine rvO C (sS (some (cloneSeen l).nil) eSeen ((cloneSeen l).D)) ?_
       refine rvO C (sS (some l.nil) eSeen l.D) ?_
       refine rvc_open rfl rfl rfl (rexec_call hP C rfl rfl rfl (eqSeen_calls (cloneSeen l) l (Nat.le_trans (clone_len l) (Nat.le_trans (by have := of_decide_eq_false ‹decide ((l.D.length : Int) > 1000) = false›; (show _ ≤ 1000); omega) (by decide)))) ?_)
       refine rvP C (.pv (.lit (.bool (eqSeen (cloneSeen l) l)))) ?_
       refine rvP C (.pv (.lit (.bool (eqSeen (cloneSeen l) l)))) ?_
       refine rvc_case 75 (eqSeen (cloneSeen l) l) rfl (fun h25 => ?_) (fun h25 => ?_)
       ·
        replace hR := of_true h25 hR
        refine rvO C (sS (some l.nil) eSeen l.D) ?_
        refine rvO C (.agg [.pv (.lit (.int .u8 (k 0))), .pv (.lit (.int .u8 (k 1))), .pv (.lit (.int .u8 (k 2))), .pv (.lit (.int .u8 (k 3))), .pv (.lit (.int .u8 (k 4))), .pv (.lit (.int .u8 (k 5))), .pv (.lit (.int .u8 (k 6))), .pv (.lit (.int .u8 (k 7)))]) ?_
        obtain ⟨f1, hq_f1⟩ : ∃ q_, q_ = (pFloor l k) := ⟨_, rfl⟩
        have hc_f1 := (pFloor_calls l k hl (by show l.D.length ≤ 1000000; have := of_decide_eq_false h1; have := of_decide_eq_false h19; have := beq_iff_eq.1 h24; omega))
        first | rw [← hq_f1] at hR hc_f1 | (unfold lawSees at hR; rw [← hq_f1] at hR hc_f1) | (unfold lawSees_l0 at hR; rw [← hq_f1] at hR hc_f1) | (unfold lawSees_l1 at hR; rw [← hq_f1] at hR hc_f1)
        refine rvc_open rfl rfl rfl (rexec_call hP C rfl rfl rfl hc_f1 ?_)
        refine rvO C (sS (some l.nil) eSeen l.D) ?_
        refine rvO C (.agg [.pv (.lit (.int .u8 (k 0))), .pv (.lit (.int .u8 (k 1))), .pv (.lit (.int .u8 (k 2))), .pv (.lit (.int .u8 (k 3))), .pv (.lit (.int .u8 (k 4))), .pv (.lit (.int .u8 (k 5))), .pv (.lit (.int .u8 (k 6))), .pv (.lit (.int .u8 (k 7)))]) ?_
        obtain ⟨f2, hq_f2⟩ : ∃ q_, q_ = (rpFloor l k) := ⟨_, rfl⟩
        have hc_f2 := (rpFloor_calls l k hl (by show l.D.length ≤ 1000000; have := of_decide_eq_false h1; have := of_decide_eq_false h19; have := beq_iff_eq.1 h24; omega))
        first | rw [← hq_f2] at hR hc_f2 | (unfold lawSees at hR; rw [← hq_f2] at hR hc_f2) | (unfold lawSees_l0 at hR; rw [← hq_f2] at hR hc_f2) | (unfold lawSees_l1 at hR; rw [← hq_f2] at hR hc_f2)
        refine rvc_open rfl rfl rfl (rexec_call hP C rfl rfl rfl hc_f2 ?_)
        refine rvO C (.pv (.lit (.bool (f1 == f2)))) ?_
        refine rvP C (.pv (.lit (.bool (f1 == f2)))) ?_
        refine rvP C (.pv (.lit (.bool (f1 == f2)))) ?_
        refine rvc_case 84 (f1 == f2) rfl (fun h26 => ?_) (fun h26 => ?_)
        ·
         replace hR := of_true h26 hR
         refine rvc_open rfl rfl rfl (rexec_call hP C rfl rfl rfl (awake_is ) ?_)
         refine rvP C (.pv (.lit (.bool true))) ?_
         refine rvP C (.pv (.lit (.bool true))) ?_
         refine rvc_nil ?_
         refine Awp.ret ?_
         subst hR
         exact ⟨.inl rfl, rfl⟩
        ·
         replace hR := of_false h26 hR
         refine rvS ?_
         refine rvP C (.pv (.lit (.bool false))) ?_
         refine rvP C (.pv (.lit (.bool false))) ?_
         refine rvc_nil ?_
         refine Awp.ret ?_
         subst hR
         exact ⟨.inl rfl, rfl⟩
       ·
        replace hR := of_false h25 hR
        refine rvS ?_
        refine rvS ?_
        refine rvS ?_
        refine rvS ?_
        refine rvS ?_
        refine rvS ?_
        refine rvS ?_
        refine rvP C (.pv (.lit (.bool false))) ?_
        refine rvP C (.pv (.lit (.bool false))) ?_
        refine rvS ?_
        refine rvP C (.pv (.lit (.bool false))) ?_
        refine rvP C (.pv (.lit (.bool false))) ?_
        refine rvc_nil ?_
        refine Awp.ret ?_
        subst hR
        exact ⟨.inl rfl, rfl⟩
      ·
       replace hR := of_false h24 hR
       refine rvS ?_
       refine rvS ?_
       refine rvS ?_
       refine rvP C (.pv (.lit (.bool false))) ?_
       refine rvP C (.pv (.lit (.bool false))) ?_
       refine rvS ?_
       refine rvS ?_
       refine rvS ?_
       refine rvS ?_
       refine rvS ?_
       refine rvS ?_
       refine rvS ?_
       refine rvP C (.pv (.lit (.bool false))) ?_
       refine rvP C (.pv (.lit (.bool false))) ?_
       refine rvS ?_
       refine rvP C (.pv (.lit (.bool false))) ?_
       refine rvP C (.pv (.lit (.bool false))) ?_
       refine rvc_nil ?_
       refine Awp.ret ?_
       subst hR
       exact ⟨.inl rfl, rfl⟩
     ·
      replace hR := of_false h23 hR
      refine rvS ?_
      refine rvS ?_
      refine rvS ?_
      refine rvP C (.pv (.lit (.bool false))) ?_
      refine rvP C (.pv (.lit (.bool false))) ?_
      refine rvS ?_
      refine rvS ?_
      refine rvS ?_
      refine rvP C (.pv (.lit (.bool false))) ?_
      refine rvP C (.pv (.lit (.bool false))) ?_
      refine rvS ?_
      refine rvS ?_
      refine rvS ?_
      refine rvS ?_
      refine rvS ?_
      refine rvS ?_
      refine rvS ?_
      refine rvP C (.pv (.lit (.bool false))) ?_
      refine rvP C (.pv (.lit (.bool false))) ?_
      refine rvS ?_
      refine rvP C (.pv (.lit (.bool false))) ?_
      refine rvP C (.pv (.lit (.bool false))) ?_
      refine rvc_nil ?_
      refine Awp.ret ?_
      subst hR
      exact ⟨.inl rfl, rfl⟩
   ·
    replace hR := of_false h17 hR
    refine rvc_un (rexec_callO hP C rfl rfl rfl rfl (rpSeeO_calls2 l k ver hl hk (by have := of_decide_eq_false ‹decide ((l.D.length : Int) > 1000) = false›; omega) h17) ?_)
    refine rvP C (.tup [.sl 31 0 ((rpSeeO l k ver).length) 9 false, .pv (.lit (.int .i64 0))]) ?_
    refine rvP C (.sl 31 0 ((rpSeeO l k ver).length) 9 false) ?_
    refine rvP C (.pv (.lit (.int .i64 0))) ?_
    refine rvP C (.sl 31 0 ((rpSeeO l k ver).length) 9 false) ?_
    refine rvP C (.pv (.lit (.int .i64 0))) ?_
    refine rvc_nil ?_
    refine Awp.seq ?_
    refine Awp.consP C ?_
    refine rvP C (.sl 24 0 ((pSeeO (cloneSeen l) k ver).length) 9 false) ?_
    refine rvP C (.pv (.lit (.int .i64 (((pSeeO (cloneSeen l) k ver).length) : Int)))) ?_
    refine rvP C (.pv (.lit (.int .i64 0))) ?_
    refine rvc_nil ?_
    refine Awp.block ?_
    refine Awp.forR (σ := ((List Seen))) ((pSeeO (cloneSeen l) k ver).length) (fun i v => [(0, sS (some l.nil) eSeen l.D), (4, .ptr 4 0), (7, sS (some (cloneSeen l).nil) eSeen ((cloneSeen l).D)), (8, .sl 24 0 ((pSeeO (cloneSeen l) k ver).length) 9 false), (9, .pv (.lit (.int .i64 0))), (10, .sl 31 0 ((rpSeeO l k ver).length) 9 false), (11, .pv (.lit (.int .i64 0))), (35, .pv (.lit (.int .i64 (((pSeeO (cloneSeen l) k ver).length) : Int)))), (36, .pv (.lit (.int .i64 (i : Int))))]) (fun i v => [(4, .cells [.pv (.lit (.int .u8 (k 0))), .pv (.lit (.int .u8 (k 1))), .pv (.lit (.int .u8 (k 2))), .pv (.lit (.int .u8 (k 3))), .pv (.lit (.int .u8 (k 4))), .pv (.lit (.int .u8 (k 5))), .pv (.lit (.int .u8 (k 6))), .pv (.lit (.int .u8 (k 7)))]), (24, .cells (encC eSeen v)), (31, .cells (encC eSeen (rpSeeO l k ver)))]) [4, 24, 31] (fun i v => (lawSees_l0b l k ver ((pSeeO (cloneSeen l) k ver).drop i) i v = R) ∧ (v.length = (pSeeO (cloneSeen l) k ver).length)) (pSeeO (cloneSeen l) k ver) ?_ ?_ (fun i vc h27 hR => ?_)
    · exact ⟨hR, (by first | omega | (simp <;> omega))⟩
    · exact ⟨fun b => b, WeakerR.ofL (Ks := [4, 24, 31]) hI ⟨⟨rfl, rfl⟩, ⟨rfl, rfl⟩, ⟨rfl, rfl⟩, ⟨rfl, rfl⟩, ⟨rfl, rfl⟩, ⟨rfl, rfl⟩, ⟨rfl, rfl⟩, ⟨rfl, rfl⟩, ⟨rfl, rfl⟩, trivial⟩ (okH_cons rfl rfl rfl rfl (okH_list rfl rfl rfl (okH_list rfl rfl rfl (okH_nil)))) rfl⟩
    obtain ⟨hR, hi_vc⟩ := hR
    replace hi_vc : vc.length = (pSeeO (cloneSeen l) k ver).length := hi_vc
    have hq0_ := pSeeO_len (v := ver) (clone_KB hl) hk (Nat.le_trans (clone_len l) (by have := of_decide_eq_false ‹decide ((l.D.length : Int) > 1000) = false›; omega))
    refine Awp.consP C ?_
    refine rvP C (.pv (.lit (.bool (decide ((i : Int) < (((pSeeO (cloneSeen l) k ver).length) : Int)))))) ?_
    refine rvc_nil ?_
    refine Awp.seq ?_
    refine Awp.cond (b := (decide ((i : Int) < (((pSeeO (cloneSeen l) k ver).length) : Int)))) rfl (fun h28 => ?_) (fun h28 => ?_)
    ·
     have h29 : i < (pSeeO (cloneSeen l) k ver).length := by have := of_decide_eq_true h28; omega
     obtain ⟨x, h30⟩ := getX h29
     rw [drop_at h30] at hR
     refine Awp.skip ?_
     refine Awp.seq ?_
     refine Awp.block ?_
     refine Awp.consP C ?_
     refine rvP C (.pv (.lit (.int .i64 (i : Int)))) ?_
     refine rvP C (.pv (.lit (.int .i64 (i : Int)))) ?_
     refine rvc_nil ?_
     refine Awp.regionP C ?_
     refine rvP C (.sl 24 0 ((pSeeO (cloneSeen l) k ver).length) 9 false) ?_
     refine rvP C (.pv (.lit (.int .i64 (i : Int)))) ?_
     have h31 : vc[i]? = some vc[i]! := getE (by have := of_decide_eq_false h1; have := of_decide_eq_true h28; omega)
     refine rvc_un (rexec_prim C (δ := { v := .ptr 24 (0 + i * 9) }) rfl rfl rfl rfl ⟨(by have := of_decide_eq_false h1; have := of_decide_eq_true h28; omega), getlt h31 (by first | rfl | omega | (have := of_decide_eq_false h1; have := of_decide_eq_true h28; omega)) (by first | rfl | omega | simp)⟩ rfl ?_)
     refine rvP C (.ptr 24 (0 + i * 9 + 8)) ?_
     refine rvc_un (rexec_loadE C (e := eSeen) i 8 (vc[i]!) (.pv (.lit (.int .i64 (vc[i]!.ver)))) rfl rfl rfl rfl h31 (by simp [eSeen]) (by decide) (by decide) rfl ?_)
     refine rvP C (.pv (.lit (.int .i64 (bitI .xor .i64 (vc[i]!.ver) 1)))) ?_
     refine rvc_un (rexec_prim C (δ := { v := .ptr 24 (0 + i * 9) }) rfl rfl rfl rfl ⟨(by have := of_decide_eq_false h1; have := of_decide_eq_true h28; omega), getlt h31 (by first | rfl | omega | (have := of_decide_eq_false h1; have := of_decide_eq_true h28; omega)) (by first | rfl | omega | simp)⟩ rfl ?_)
     refine rvP C (.ptr 24 (0 + i * 9 + 8)) ?_
     refine rvc_un (rexec_storeE C (e := eSeen) i 8 (vc[i]!) (Seen.mk (ofL [(vc[i]!.key 0), (vc[i]!.key 1), (vc[i]!.key 2), (vc[i]!.key 3), (vc[i]!.key 4), (vc[i]!.key 5), (vc[i]!.key 6), (vc[i]!.key 7)]) (bitI .xor .i64 (vc[i]!.ver) 1)) rfl rfl rfl rfl h31 (by simp [eSeen]) rfl rfl rfl (of_decide_eq_true rfl) rfl ?_)
     refine rvc_nil ?_
     refine Awp.regionP C ?_
     refine rvP C (.pv (.lit (.int .i64 (IntKind.i64.wrap ((i : Int) + 1))))) ?_
     refine rvP C (.pv (.lit (.int .i64 (IntKind.i64.wrap ((i : Int) + 1))))) ?_
     refine rvc_nil ?_
     refine ⟨h29, (vc.set i (Seen.mk (ofL [(vc[i]!.key 0), (vc[i]!.key 1), (vc[i]!.key 2), (vc[i]!.key 3), (vc[i]!.key 4), (vc[i]!.key 5), (vc[i]!.key 6), (vc[i]!.key 7)]) (bitI .xor .i64 (vc[i]!.ver) 1))), ?_, ?_⟩
     · exact ⟨hR, (by first | omega | (simp <;> omega))⟩
     · exact ⟨fun b => b, WeakerR.ofL (Ks := [4, 24, 31]) hI ⟨⟨rfl, rfl⟩, ⟨rfl, rfl⟩, ⟨rfl, rfl⟩, ⟨rfl, rfl⟩, ⟨rfl, rfl⟩, ⟨rfl, rfl⟩, ⟨rfl, rfl⟩, ⟨rfl, rfl⟩, ⟨lit_cast (wrap_i64 (by omega) (by omega)), rfl⟩, trivial⟩ (okH_cons rfl rfl rfl rfl (okH_list rfl rfl rfl (okH_list rfl rfl rfl (okH_nil)))) rfl⟩
    ·
     have h29 : ¬ i < (pSeeO (cloneSeen l) k ver).length := by have := of_decide_eq_false h28; omega
     rw [drop_end h29] at hR
     refine Awp.exit ?_
     refine Awp.seq ?_
     refine Awp.consP C ?_
     refine rvP C (.sl 31 0 ((rpSeeO l k ver).length) 9 false) ?_
     refine rvP C (.pv (.lit (.int .i64 (((rpSeeO l k ver).length) : Int)))) ?_
     refine rvP C (.pv (.lit (.int .i64 0))) ?_
     refine rvc_nil ?_
     refine Awp.block ?_
     refine Awp.forR (σ := ((List Seen))) ((rpSeeO l k ver).length) (fun i1 v => [(0, sS (some l.nil) eSeen l.D), (4, .ptr 4 0), (7, sS (some (cloneSeen l).nil) eSeen ((cloneSeen l).D)), (8, .sl 24 0 ((pSeeO (cloneSeen l) k ver).length) 9 false), (9, .pv (.lit (.int .i64 0))), (10, .sl 31 0 ((rpSeeO l k ver).length) 9 false), (11, .pv (.lit (.int .i64 0))), (49, .pv (.lit (.int .i64 (((rpSeeO l k ver).length) : Int)))), (50, .pv (.lit (.int .i64 (i1 : Int))))]) (fun i1 v => [(4, .cells [.pv (.lit (.int .u8 (k 0))), .pv (.lit (.int .u8 (k 1))), .pv (.lit (.int .u8 (k 2))), .pv (.lit (.int .u8 (k 3))), .pv (.lit (.int .u8 (k 4))), .pv (.lit (.int .u8 (k 5))), .pv (.lit (.int .u8 (k 6))), .pv (.lit (.int .u8 (k 7)))]), (24, .cells (encC eSeen vc)), (31, .cells (encC eSeen v))]) [4, 24, 31] (fun i1 v => (lawSees_l1b l k vc ((rpSeeO l k ver).drop i1) i1 v = R) ∧ (v.length = (rpSeeO l k ver).length)) (rpSeeO l k ver) ?_ ?_ (fun i1 vc1 h32 hR => ?_)
     · exact ⟨hR, (by first | omega | (simp <;> omega))⟩
     · exact ⟨fun b => b, WeakerR.ofL (Ks := [4, 24, 31]) hI ⟨⟨rfl, rfl⟩, ⟨rfl, rfl⟩, ⟨rfl, rfl⟩, ⟨rfl, rfl⟩, ⟨rfl, rfl⟩, ⟨rfl, rfl⟩, ⟨rfl, rfl⟩, ⟨rfl, rfl⟩, ⟨rfl, rfl⟩, trivial⟩ (okH_cons rfl rfl rfl rfl (okH_list rfl rfl rfl (okH_list rfl rfl rfl (okH_nil)))) rfl⟩
     obtain ⟨hR, hi_vc1⟩ := hR
     replace hi_vc1 : vc1.length = (rpSeeO l k ver).length := hi_vc1
     have hq1_ := rpSeeO_len (l := l) (v := ver) hl hk (by have := of_decide_eq_false ‹decide ((l.D.length : Int) > 1000) = false›; omega)
     refine Awp.consP C ?_
     refine rvP C (.pv (.lit (.bool (decide ((i1 : Int) < (((rpSeeO l k ver).length) : Int)))))) ?_
     refine rvc_nil ?_
     refine Awp.seq ?_
     refine Awp.cond (b := (decide ((i1 : Int) < (((rpSeeO l k ver).length) : Int)))) rfl (fun h33 => ?_) (fun h33 => ?_)
     ·
      have h34 : i1 < (rpSeeO l k ver).length := by have := of_decide_eq_true h33; omega
      obtain ⟨x1, h35⟩ := getX h34
      rw [drop_at h35] at hR
      refine Awp.skip ?_
      refine Awp.seq ?_
      refine Awp.block ?_
      refine Awp.consP C ?_
      refine rvP C (.pv (.lit (.int .i64 (i1 : Int)))) ?_
      refine rvP C (.pv (.lit (.int .i64 (i1 : Int)))) ?_
      refine rvc_nil ?_
      refine Awp.regionP C ?_
      refine rvP C (.sl 31 0 ((rpSeeO l k ver).length) 9 false) ?_
      refine rvP C (.pv (.lit (.int .i64 (i1 : Int)))) ?_
      have h36 : vc1[i1]? = some vc1[i1]! := getE (by have := of_decide_eq_false h1; have := of_decide_eq_false h28; have := of_decide_eq_true h33; omega)
      refine rvc_un (rexec_prim C (δ := { v := .ptr 31 (0 + i1 * 9) }) rfl rfl rfl rfl ⟨(by have := of_decide_eq_false h1; have := of_decide_eq_false h28; have := of_decide_eq_true h33; omega), getlt h36 (by first | rfl | omega | (have := of_decide_eq_false h1; have := of_decide_eq_false h28; have := of_decide_eq_true h33; omega)) (by first | rfl | omega | simp)⟩ rfl ?_)
      refine rvP C (.ptr 31 (0 + i1 * 9 + 8)) ?_
      refine rvc_un (rexec_loadE C (e := eSeen) i1 8 (vc1[i1]!) (.pv (.lit (.int .i64 (vc1[i1]!.ver)))) rfl rfl rfl rfl h36 (by simp [eSeen]) (by decide) (by decide) rfl ?_)
      refine rvP C (.pv (.lit (.int .i64 (bitI .xor .i64 (vc1[i1]!.ver) 1)))) ?_
      refine rvc_un (rexec_prim C (δ := { v := .ptr 31 (0 + i1 * 9) }) rfl rfl rfl rfl ⟨(by have := of_decide_eq_false h1; have := of_decide_eq_false h28; have := of_decide_eq_true h33; omega), getlt h36 (by first | rfl | omega | (have := of_decide_eq_false h1; have := of_decide_eq_false h28; have := of_decide_eq_true h33; omega)) (by first | rfl | omega | simp)⟩ rfl ?_)
      refine rvP C (.ptr 31 (0 + i1 * 9 + 8)) ?_
      refine rvc_un (rexec_storeE C (e := eSeen) i1 8 (vc1[i1]!) (Seen.mk (ofL [(vc1[i1]!.key 0), (vc1[i1]!.key 1), (vc1[i1]!.key 2), (vc1[i1]!.key 3), (vc1[i1]!.key 4), (vc1[i1]!.key 5), (vc1[i1]!.key 6), (vc1[i1]!.key 7)]) (bitI .xor .i64 (vc1[i1]!.ver) 1)) rfl rfl rfl rfl h36 (by simp [eSeen]) rfl rfl rfl (of_decide_eq_true rfl) rfl ?_)
      refine rvc_nil ?_
      refine Awp.regionP C ?_
      refine rvP C (.pv (.lit (.int .i64 (IntKind.i64.wrap ((i1 : Int) + 1))))) ?_
      refine rvP C (.pv (.lit (.int .i64 (IntKind.i64.wrap ((i1 : Int) + 1))))) ?_
      refine rvc_nil ?_
      refine ⟨h34, (vc1.set i1 (Seen.mk (ofL [(vc1[i1]!.key 0), (vc1[i1]!.key 1), (vc1[i1]!.key 2), (vc1[i1]!.key 3), (vc1[i1]!.key 4), (vc1[i1]!.key 5), (vc1[i1]!.key 6), (vc1[i1]!.key 7)]) (bitI .xor .i64 (vc1[i1]!.ver) 1))), ?_, ?_⟩
      · exact ⟨hR, (by first | omega | (simp <;> omega))⟩
      · exact ⟨fun b => b, WeakerR.ofL (Ks := [4, 24, 31]) hI ⟨⟨rfl, rfl⟩, ⟨rfl, rfl⟩, ⟨rfl, rfl⟩, ⟨rfl, rfl⟩, ⟨rfl, rfl⟩, ⟨rfl, rfl⟩, ⟨rfl, rfl⟩, ⟨rfl, rfl⟩, ⟨lit_cast (wrap_i64 (by omega) (by omega)), rfl⟩, trivial⟩ (okH_cons rfl rfl rfl rfl (okH_list rfl rfl rfl (okH_list rfl rfl rfl (okH_nil)))) rfl⟩
     ·
      have h34 : ¬ i1 < (rpSeeO l k ver).length := by have := of_decide_eq_false h33; omega
      rw [drop_end h34] at hR
      refine Awp.exit ?_
      refine Awp.freezeW 24 (encL eSeen vc) ?_ [(0, sS (some l.nil) eSeen l.D), (4, .ptr 4 0), (7, sS (some (cloneSeen l).nil) eSeen ((cloneSeen l).D)), (8, sS (some false) eSeen vc), (9, .pv (.lit (.int .i64 0))), (10, .sl 31 0 ((rpSeeO l k ver).length) 9 false), (11, .pv (.lit (.int .i64 0)))] [(4, .cells [.pv (.lit (.int .u8 (k 0))), .pv (.lit (.int .u8 (k 1))), .pv (.lit (.int .u8 (k 2))), .pv (.lit (.int .u8 (k 3))), .pv (.lit (.int .u8 (k 4))), .pv (.lit (.int .u8 (k 5))), .pv (.lit (.int .u8 (k 6))), .pv (.lit (.int .u8 (k 7)))]), (31, .cells (encC eSeen vc1))] ?_ ?_ ?_
      · rfl
      · exact ⟨⟨_, rfl, .inl (.inl rfl)⟩, ⟨_, rfl, .inl (.inl rfl)⟩, ⟨_, rfl, .inl (.inl rfl)⟩, ⟨_, rfl, .inl (.inr ⟨_, _, _, rfl, by simp [sS] <;> omega⟩)⟩, ⟨_, rfl, .inl (.inl rfl)⟩, ⟨_, rfl, .inl (.inl rfl)⟩, ⟨_, rfl, .inl (.inl rfl)⟩, trivial⟩
      · exact ⟨⟨(by show (4 : Nat) ≠ 24; decide), .inl rfl⟩, ⟨(by show (31 : Nat) ≠ 24; decide), .inl rfl⟩, trivial⟩
      refine Awp.freezeW 31 (encL eSeen vc1) ?_ [(0, sS (some l.nil) eSeen l.D), (4, .ptr 4 0), (7, sS (some (cloneSeen l).nil) eSeen ((cloneSeen l).D)), (8, sS (some false) eSeen vc), (9, .pv (.lit (.int .i64 0))), (10, sS (some false) eSeen vc1), (11, .pv (.lit (.int .i64 0)))] [(4, .cells [.pv (.lit (.int .u8 (k 0))), .pv (.lit (.int .u8 (k 1))), .pv (.lit (.int .u8 (k 2))), .pv (.lit (.int .u8 (k 3))), .pv (.lit (.int .u8 (k 4))), .pv (.lit (.int .u8 (k 5))), .pv (.lit (.int .u8 (k 6))), .pv (.lit (.int .u8 (k 7)))])] ?_ ?_ ?_
      · rfl
      · exact ⟨⟨_, rfl, .inl (.inl rfl)⟩, ⟨_, rfl, .inl (.inl rfl)⟩, ⟨_, rfl, .inl (.inl rfl)⟩, ⟨_, rfl, .inl (.inl rfl)⟩, ⟨_, rfl, .inl (.inl rfl)⟩, ⟨_, rfl, .inl (.inr ⟨_, _, _, rfl, by simp [sS] <;> omega⟩)⟩, ⟨_, rfl, .inl (.inl rfl)⟩, trivial⟩
      · exact ⟨⟨(by show (4 : Nat) ≠ 31; decide), .inl rfl⟩, trivial⟩
      refine Awp.consP C ?_
      refine rvP C (sS (some false) eSeen vc) ?_
      refine rvP C (sS (some false) eSeen vc1) ?_
      refine rvc_un (rexec_call hP C rfl rfl rfl (eqSeen_calls (Sl.mk false vc) (Sl.mk false vc1) (by first | (simp; done) | (show vc.length ≤ 1000000; omega))) ?_)
      refine rvP C (.pv (.lit (.bool (eqSeen (Sl.mk false vc) (Sl.mk false vc1))))) ?_
      refine rvc_case 65 (eqSeen (Sl.mk false vc) (Sl.mk false vc1)) rfl (fun h37 => ?_) (fun h37 => ?_)
      ·
       replace hR := of_true h37 hR
       refine rvO C (.pv (.lit (.int .i64 0))) ?_
       refine rvO C (.pv (.lit (.int .i64 0))) ?_
       refine rvO C (.pv (.lit (.bool true))) ?_
       refine rvP C (.pv (.lit (.bool true))) ?_
       refine rvP C (.pv (.lit (.bool true))) ?_
       refine rvO C (sS (some (cloneSeen l).nil) eSeen ((cloneSeen l).D)) ?_
       refine rvO C (sS (some l.nil) eSeen l.D) ?_
       refine rvc_open rfl rfl rfl (rexec_call hP C rfl rfl rfl (eqSeen_calls (cloneSeen l) l (Nat.le_trans (clone_len l) (Nat.le_trans (by have := of_decide_eq_false ‹decide ((l.D.length : Int) > 1000) = false›; (show _ ≤ 1000); omega) (by decide)))) ?_)
       refine rvP C (.pv (.lit (.bool (eqSeen (cloneSeen l) l)))) ?_
       refine rvP C (.pv (.lit (.bool (eqSeen (cloneSeen l) l)))) ?_
       refine rvc_case 75 (eqSeen (cloneSeen l) l) rfl (fun h38 => ?_) (fun h38 => ?_)
       ·
        replace hR := of_true h38 hR
        refine rvO C (sS (some l.nil) eSeen l.D) ?_
        refine rvO C (.agg [.pv (.lit (.int .u8 (k 0))), .pv (.lit (.int .u8 (k 1))), .pv (.lit (.int .u8 (k 2))), .pv (.lit (.int .u8 (k 3))), .pv (.lit (.int .u8 (k 4))), .pv (.lit (.int .u8 (k 5))), .pv (.lit (.int .u8 (k 6))), .pv (.lit (.int .u8 (k 7)))]) ?_
        obtain ⟨f1, hq_f1⟩ : ∃ q_, q_ = (pFloor l k) := ⟨_, rfl⟩
        have hc_f1 := (pFloor_calls l k hl (by show l.D.length ≤ 1000000; have := of_decide_eq_false h1; have := of_decide_eq_false h28; have := of_decide_eq_false h33; omega))
        first | rw [← hq_f1] at hR hc_f1 | (unfold lawSees at hR; rw [← hq_f1] at hR hc_f1) | (unfold lawSees_l0b at hR; rw [← hq_f1] at hR hc_f1) | (unfold lawSees_l1b at hR; rw [← hq_f1] at hR hc_f1)
        refine rvc_open rfl rfl rfl (rexec_call hP C rfl rfl rfl hc_f1 ?_)
        refine rvO C (sS (some l.nil) eSeen l.D) ?_
        refine rvO C (.agg [.pv (.lit (.int .u8 (k 0))), .pv (.lit (.int .u8 (k 1))), .pv (.lit (.int .u8 (k 2))), .pv (.lit (.int .u8 (k 3))), .pv (.lit (.int .u8 (k 4))), .pv (.lit (.int .u8 (k 5))), .pv (.lit (.int .u8 (k 6))), .pv (.lit (.int .u8 (k 7)))]) ?_
        obtain ⟨f2, hq_f2⟩ : ∃ q_, q_ = (rpFloor l k) := ⟨_, rfl⟩
        have hc_f2 := (rpFloor_calls l k hl (by show l.D.length ≤ 1000000; have := of_decide_eq_false h1; have := of_decide_eq_false h28; have := of_decide_eq_false h33; omega))
        first | rw [← hq_f2] at hR hc_f2 | (unfold lawSees at hR; rw [← hq_f2] at hR hc_f2) | (unfold lawSees_l0b at hR; rw [← hq_f2] at hR hc_f2) | (unfold lawSees_l1b at hR; rw [← hq_f2] at hR hc_f2)
        refine rvc_open rfl rfl rfl (rexec_call hP C rfl rfl rfl hc_f2 ?_)
        refine rvO C (.pv (.lit (.bool (f1 == f2)))) ?_
        refine rvP C (.pv (.lit (.bool (f1 == f2)))) ?_
        refine rvP C (.pv (.lit (.bool (f1 == f2)))) ?_
        refine rvc_case 84 (f1 == f2) rfl (fun h39 => ?_) (fun h39 => ?_)
        ·
         replace hR := of_true h39 hR
         refine rvc_open rfl rfl rfl (rexec_call hP C rfl rfl rfl (awake_is ) ?_)
         refine rvP C (.pv (.lit (.bool true))) ?_
         refine rvP C (.pv (.lit (.bool true))) ?_
         refine rvc_nil ?_
         refine Awp.ret ?_
         subst hR
         exact ⟨.inl rfl, rfl⟩
        ·
         replace hR := of_false h39 hR
         refine rvS ?_
         refine rvP C (.pv (.lit (.bool false))) ?_
         refine rvP C (.pv (.lit (.bool false))) ?_
         refine rvc_nil ?_
         refine Awp.ret ?_
         subst hR
         exact ⟨.inl rfl, rfl⟩
       ·
        replace hR := of_false h38 hR
        refine rvS ?_
        refine rvS ?_
        refine rvS ?_
        refine rvS ?_
        refine rvS ?_
        refine rvS ?_
        refine rvS ?_
        refine rvP C (.pv (.lit (.bool false))) ?_
        refine rvP C (.pv (.lit (.bool false))) ?_
        refine rvS ?_
        refine rvP C (.pv (.lit (.bool false))) ?_
        refine rvP C (.pv (.lit (.bool false))) ?_
        refine rvc_nil ?_
        refine Awp.ret ?_
        subst hR
        exact ⟨.inl rfl, rfl⟩
      ·
       replace hR := of_false h37 hR
       refine rvS ?_
       refine rvS ?_
       refine rvS ?_
       refine rvP C (.pv (.lit (.bool false))) ?_
       refine rvP C (.pv (.lit (.bool false))) ?_
       refine rvS ?_
       refine rvS ?_
       refine rvS ?_
       refine rvP C (.pv (.lit (.bool false))) ?_
       refine rvP C (.pv (.lit (.bool false))) ?_
       refine rvS ?_
       refine rvS ?_
       refine rvS ?_
       refine rvS ?_
       refine rvS ?_
       refine rvS ?_
       refine rvS ?_
       refine rvP C (.pv (.lit (.bool false))) ?_
       refine rvP C (.pv (.lit (.bool false))) ?_
       refine rvS ?_
       refine rvP C (.pv (.lit (.bool false))) ?_
       refine rvP C (.pv (.lit (.bool false))) ?_
       refine rvc_nil ?_
       refine Awp.ret ?_
       subst hR
       exact ⟨.inl rfl, rfl⟩
set_option maxRecDepth 100000 in
theorem flat5 {m : Nat} {ps : List PV} (h : FlatA Tryd.prog (m + 1) 5 ps) : ∃ n, ps = [.lit (.int .u8 n)] ∧ (Lit.int .u8 n).wf = true := by
  unfold FlatA at h
  rw [Tryd.underlying5] at h
  exact h
def WT30 (f : Nat → Int) : Prop := ∀ j, j < 8 → (Lit.int .u8 (f j)).wf = true
set_option maxRecDepth 100000 in
theorem flat30 {m : Nat} {ps : List PV} (h : FlatA Tryd.prog (m + 2) 30 ps) : ∃ f : Nat → Int, ps = [.lit (.int .u8 (f 0)), .lit (.int .u8 (f 1)), .lit (.int .u8 (f 2)), .lit (.int .u8 (f 3)), .lit (.int .u8 (f 4)), .lit (.int .u8 (f 5)), .lit (.int .u8 (f 6)), .lit (.int .u8 (f 7))] ∧ WT30 f := by
  unfold FlatA at h
  rw [Tryd.underlying30] at h
  obtain ⟨D, rfl, h1, h2⟩ := h
  obtain ⟨a0, a1, a2, a3, a4, a5, a6, a7, rfl⟩ := len8 h1
  obtain ⟨x0, rfl, w0⟩ := flat5 (m := m) (h2 a0 (by simp))
  obtain ⟨x1, rfl, w1⟩ := flat5 (m := m) (h2 a1 (by simp))
  obtain ⟨x2, rfl, w2⟩ := flat5 (m := m) (h2 a2 (by simp))
  obtain ⟨x3, rfl, w3⟩ := flat5 (m := m) (h2 a3 (by simp))
  obtain ⟨x4, rfl, w4⟩ := flat5 (m := m) (h2 a4 (by simp))
  obtain ⟨x5, rfl, w5⟩ := flat5 (m := m) (h2 a5 (by simp))
  obtain ⟨x6, rfl, w6⟩ := flat5 (m := m) (h2 a6 (by simp))
  obtain ⟨x7, rfl, w7⟩ := flat5 (m := m) (h2 a7 (by simp))
  refine ⟨ofL [x0, x1, x2, x3, x4, x5, x6, x7], rfl, fun j hj => ?_⟩
  rcases (by omega : j = 0 ∨ j = 1 ∨ j = 2 ∨ j = 3 ∨ j = 4 ∨ j = 5 ∨ j = 6 ∨ j = 7) with rfl | rfl | rfl | rfl | rfl | rfl | rfl | rfl
  · exact w0
  · exact w1
  · exact w2
  · exact w3
  · exact w4
  · exact w5
  · exact w6
  · exact w7
set_option maxRecDepth 100000 in
theorem flat3 {m : Nat} {ps : List PV} (h : FlatA Tryd.prog (m + 1) 3 ps) : ∃ n, ps = [.lit (.int .i64 n)] ∧ (Lit.int .i64 n).wf = true := by
  unfold FlatA at h
  rw [Tryd.underlying3] at h
  exact h
def WT32 (x : Seen) : Prop := WT30 x.key ∧ (Lit.int .i64 x.ver).wf = true
set_option maxRecDepth 100000 in
theorem flat32 {m : Nat} {ps : List PV} (h : FlatA Tryd.prog (m + 3) 32 ps) : ∃ x : Seen, ps = eSeen.enc x ∧ WT32 x := by
  unfold FlatA at h
  rw [Tryd.underlying32] at h
  obtain ⟨a0, b0, e0, h0, a1, b1, e1, h1, el⟩ := h
  obtain ⟨x0, rfl, w0⟩ := flat30 (m := m + 0) h0
  obtain ⟨x1, rfl, w1⟩ := flat3 (m := m + 1) h1
  subst el
  subst e1
  subst e0
  exact ⟨⟨x0, x1⟩, rfl, w0, w1⟩
def WT22 (s : Sl Seen) : Prop := s.D.length ≤ maxLen ∧ (s.nil = true → s.D = []) ∧ ∀ x ∈ s.D, WT32 x
set_option maxRecDepth 100000 in
theorem flat22 {m : Nat} {ps : List PV} (h : FlatA Tryd.prog (m + 4) 22 ps) : ∃ s : Sl Seen, ps = [.sl (some s.nil) s.D.length (encL eSeen s.D)] ∧ WT22 s := by
  unfold FlatA at h
  rw [Tryd.underlying22] at h
  obtain ⟨b, D, rfl, h1, h2, h3⟩ := h
  obtain ⟨D2, e1, e2, e3⟩ := enc_list (e := eSeen) (W := fun x => WT32 x) D fun y hy => flat32 (h3 y hy)
  rw [e2, ← e1]
  exact ⟨⟨b, D2⟩, rfl, (by show D2.length ≤ _; rw [e1]; exact h1), (fun hb => by have := h2 hb; rw [this] at e1; exact List.eq_nil_of_length_eq_zero e1), e3⟩
theorem wf8 {n : Int} (h : (Lit.int .u8 n).wf = true) : 0 ≤ n ∧ n < 256 := by
  have h' : (decide (IntKind.u8.min ≤ n) && decide (n ≤ IntKind.u8.max)) = true := h
  simp only [Bool.and_eq_true, decide_eq_true_eq] at h'
  have e1 : IntKind.u8.min = 0 := rfl
  have e2 : IntKind.u8.max = 255 := rfl
  omega
theorem R8.arr {f : Nat → Int} {n : Nat} (h1 : ∀ i, i < n → (Lit.int .u8 (f i)).wf = true) (h2 : ∀ i, ¬ i < n → f i = 0) (t : Nat) : R8 (f t) := by
  by_cases h : t < n
  · exact wf8 (h1 t h)
  · rw [h2 t h]; exact ⟨by decide, by decide⟩
theorem WT22.kb {l : Sl Seen} (h : WT22 l) : KB l.D := fun x hx j hj => wf8 ((h.2.2 x hx).1 j hj)
theorem big_le {n : Nat} (h : n ≤ maxLen) : n ≤ 9223372036854775807 := Nat.le_trans h (by decide)
def flip1 (x : Seen) : Seen := Seen.mk (ofL [(x.key 0), (x.key 1), (x.key 2), (x.key 3), (x.key 4), (x.key 5), (x.key 6), (x.key 7)]) (bitI .xor .i64 (x.ver) 1)
def flipL : List Seen → Nat → List Seen → List Seen
  | [], _, vc => vc
  | _ :: xs, i, vc => flipL xs (i + 1) (vc.set i (flip1 vc[i]!))
theorem flip1_rd {x y : Seen} (h : rd x = rd y) : rd (flip1 x) = rd (flip1 y) := by
  have h1 : kL x.key = kL y.key := congrArg Prod.fst h
  have h2 : x.ver = y.ver := congrArg Prod.snd h
  show (kL x.key, bitI .xor .i64 x.ver 1) = (kL y.key, bitI .xor .i64 y.ver 1)
  rw [h1, h2]
theorem get_rd {a b : List Seen} (h : a.map rd = b.map rd) (i : Nat) : rd a[i]! = rd b[i]! := by
  have hl := len_rd h
  by_cases hi : i < a.length
  · have h1 := congrArg (fun q => q[i]?) h
    rw [List.getElem?_map, List.getElem?_map, List.getElem?_eq_getElem hi, List.getElem?_eq_getElem (by omega)] at h1
    rw [getElem!_pos a i hi, getElem!_pos b i (by omega)]
    exact Option.some.inj h1
  · rw [getElem!_neg a i hi, getElem!_neg b i (by omega)]
theorem flipL_rd : ∀ {xs ys : List Seen} (i : Nat) {a b : List Seen}, xs.length = ys.length → a.map rd = b.map rd → (flipL xs i a).map rd = (flipL ys i b).map rd
  | [], [], _, _, _, _, h => h
  | [], _ :: _, _, _, _, h, _ => by simp at h
  | _ :: _, [], _, _, _, h, _ => by simp at h
  | _ :: xs, _ :: ys, i, a, b, hl, h => by
    refine flipL_rd (xs := xs) (ys := ys) (i + 1) (by simpa using hl) ?_
    rw [List.map_set, List.map_set, h, flip1_rd (get_rd h i)]
theorem sees_l0b {l : Sl Seen} {k : Nat → Int} {ver : Int} : ∀ (xs : List Seen) (i : Nat) (vc : List Seen), lawSees_l0b l k ver xs i vc = lawSees_l1b l k (flipL xs i vc) (rpSeeO l k ver) 0 (rpSeeO l k ver)
  | [], _, _ => rfl
  | _ :: xs, i, vc => by
    unfold lawSees_l0b
    exact sees_l0b xs (i + 1) _
theorem sees_l1b {l : Sl Seen} {k : Nat → Int} {vc : List Seen} : ∀ (ys : List Seen) (i : Nat) (vd : List Seen), lawSees_l1b l k vc ys i vd = (bif (eqSeen (Sl.mk false vc) (Sl.mk false (flipL ys i vd))) then (bif (eqSeen (cloneSeen l) l) then (bif ((pFloor l k) == (rpFloor l k)) then true else false) else false) else false)
  | [], _, _ => rfl
  | _ :: ys, i, vd => by
    unfold lawSees_l1b
    exact sees_l1b ys (i + 1) _
theorem lawSees_true {l : Sl Seen} {k : Nat → Int} {ver : Int} (w : WT22 l) (hk : KeyB k) : lawSees l k ver = true := by
  unfold lawSees
  cases e : decide ((l.D.length : Int) > 1000)
  · have hl := of_decide_eq_false e
    have h6 : l.D.length ≤ 1000000 := by omega
    have hc := clone_D w.2.1
    have hp : pRight (cloneSeen l) = pRight l := pRight_rd (by rw [hc]; exact w.kb) w.kb (by rw [hc]; exact h6) (by rw [hc])
    have s1 : SeeSpec (pSee (cloneSeen l) k ver) l k ver := by
      have s := pSee_spec (l := cloneSeen l) (k := k) ver (by rw [hc]; exact w.kb) hk (clone_nil l) (by rw [hc]; omega)
      obtain ⟨a1, a2, a3, a4⟩ := s
      rw [hp] at a1 a2 a3 a4
      rw [hc] at a3 a4
      exact ⟨a1, a2, a3, a4⟩
    obtain ⟨q1, q2⟩ := s1.same (rpSee_spec (k := k) ver w.kb hk (by omega))
    have hf : pFloor l k = rpFloor l k := by rw [pFloor_eq w.kb hk h6, rpFloor_eq w.kb h6]
    have hcl : eqSeen (cloneSeen l) l = true := by rw [eqSeen_eq, hc, decide_eq_true rfl]
    rw [← pSeeO_eq, ← rpSeeO_eq] at q2
    have hlen := len_rd q2
    rw [hf, hcl, cond_false]
    cases e1 : (pSeeO (cloneSeen l) k ver).isEmpty
    · have hne : (rpSeeO l k ver).isEmpty = false := by
        cases hy : rpSeeO l k ver with
        | nil =>
          rw [hy] at hlen
          have hx := List.eq_nil_of_length_eq_zero hlen
          rw [hx] at e1; cases e1
        | cons y ys => rfl
      rw [hne, cond_false, cond_false, sees_l0b, sees_l1b, eqSeen_eq, decide_eq_true (flipL_rd 0 hlen q2), hf, hcl, beq_self_eq_true]; rfl
    · have hx : pSeeO (cloneSeen l) k ver = [] := by simpa using e1
      have hy : rpSeeO l k ver = [] := by
        rw [hx] at hlen
        exact List.eq_nil_of_length_eq_zero hlen.symm
      rw [hy, cond_true, eqSeen_eq, q1, beq_self_eq_true, beq_self_eq_true]; rfl
  · rfl
theorem passSees_calls (l : Sl Seen) (w : WT22 l) (k : Nat → Int) (hk : ∀ t, R8 (k t)) (ver : Int) (_wv : (Lit.int .i64 ver).wf = true) : PCalls Tryd.prog 7 [sS (some l.nil) eSeen l.D, .agg (cI .u8 (tb 8 k)), .pv (.lit (.int .i64 ver))] (.pv (.lit (.bool true))) := by
  have h := lawSees_calls l k ver w.kb (fun j _ => hk j) w.2.1 (big_le w.1)
  rw [lawSees_true w (fun j _ => hk j)] at h
  exact h
theorem own : ownKnob Tryd.prog.godebug = none := by kernel_rfl
theorem laidOut : laidOutB Tryd.prog = true := by kernel_rfl
end Go.Proofs.YthnghkkbnhjlgaaDoor
