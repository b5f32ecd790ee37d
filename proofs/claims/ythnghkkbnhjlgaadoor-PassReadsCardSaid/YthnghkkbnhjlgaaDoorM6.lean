import Derived.Test.YthnghkkbnhjlgaaDoorM1
import Derived.Test.YthnghkkbnhjlgaaDoorM2
import Derived.Test.YthnghkkbnhjlgaaDoorM3
import Derived.Test.YthnghkkbnhjlgaaDoorM5
import Derived.KernelRfl
import Derived.Test.YthnghkkbnhjlgaaDoorM4
/- slices.Insert over a row of one's own: its contract. No conditions. -/
namespace Go.Proofs.YthnghkkbnhjlgaaDoor
open Go.Am
theorem insertS_calls (D : List Seen) (i : Nat) (v : Sl Seen) (hi : i ≤ D.length) (hv : 0 < v.D.length) (hl1 : D.length ≤ 1000000) (hl2 : v.D.length ≤ 1000000) : TCalls Tryd.prog 46 [.sl 0 0 D.length 9 false, .pv (.lit (.int .i64 (i : Int))), sS (some v.nil) eSeen v.D] (.cells (encC eSeen D)) (.sl 1 0 (insertL D i v.D).length 9 false) (.cells (encC eSeen (insertL D i v.D))) := by
 have hm0 : ((v.D.length : Int) == 0) = false := by simp; intro h; rw [h] at hv; simp at hv
 have hrep : D.take i ++ List.replicate (D.length + v.D.length - i) (Seen.mk (fun _ => 0) 0) = D.take i ++ List.replicate v.D.length (Seen.mk (fun _ => 0) 0) ++ List.replicate (D.length - i) (Seen.mk (fun _ => 0) 0) := by
  rw [List.append_assoc, List.replicate_append_replicate]; congr 2; omega
 refine TCalls.of_body tabOk Tryd.func46 rfl rfl rfl rfl rfl (encC_within _ _) (encC_within _ _) mixed fun E hP C hI => ?_
 refine Awp.capOf 0 0 D.length 9 false (encC eSeen D) rfl rfl (by rw [encC_len]; rfl) fun c hc0 => ?_
 refine Awp.cons C (fun _ => .pure) (by kernel_rfl) ?_ -- region 0 false
 refine rvc_prim C rfl rfl rfl rfl (trivial) rfl ?_
 refine rvc_nil ?_
 refine Awp.cons C (fun _ => .pure) (by kernel_rfl) ?_ -- region 1 false
 refine rvc_prim C rfl rfl rfl rfl (trivial) rfl ?_
 refine rvc_prim C rfl rfl rfl rfl (trivial) rfl ?_
 refine rvc_un (rexec_sliceLoC C rfl rfl rfl rfl rfl rfl hi ?_)
 refine rvc_nil ?_
 refine Awp.cons C (fun _ => .pure) (by kernel_rfl) ?_ -- region 2 false
 refine rvc_prim C rfl rfl rfl rfl (trivial) rfl ?_
 refine rvc_prim C rfl rfl rfl rfl (trivial) rfl ?_
 refine rvc_prim C rfl rfl rfl rfl (trivial) rfl ?_
 refine rvc_nil ?_
 refine Awp.seq ?_
 refine Awp.cons C (fun _ => .pure) (by kernel_rfl) ?_ -- region 3 false
 refine rvc_prim C rfl rfl rfl rfl (trivial) rfl ?_
 refine rvc_prim C rfl rfl rfl rfl (trivial) rfl ?_
 refine rvc_nil ?_
 refine Awp.condF rfl (hm0) ?_
 refine Awp.skip ?_
 refine Awp.cons C (fun _ => .pure) (by kernel_rfl) ?_ -- region 5 false
 refine rvc_prim C rfl rfl rfl rfl (trivial) rfl ?_
 refine rvc_un (rexec_lenC C rfl rfl rfl rfl rfl rfl ?_)
 refine rvc_prim C rfl rfl rfl rfl (trivial) rfl ?_
 refine rvc_nil ?_
 refine Awp.seq ?_
 refine Awp.cons C (fun _ => .pure) (by kernel_rfl) ?_ -- region 6 false
 refine rvc_prim C rfl rfl rfl rfl (trivial) rfl ?_
 refine rvc_prim C rfl rfl rfl rfl (trivial) rfl ?_
 refine rvc_prim C rfl rfl rfl rfl (trivial) rfl ?_
 refine rvc_nil ?_
 refine Awp.cond rfl (fun hc => ?_) (fun hc => ?_)
 ·
  refine Awp.dropCap 0 0 0 D.length 9 c rfl ?_
  have hin : i = D.length := by have := beq_iff_eq.1 hc; omega
  refine Awp.cons C (fun _ => .pure) (by kernel_rfl) ?_ -- region 7 false
  refine rvc_prim C rfl rfl rfl rfl (trivial) rfl ?_
  refine rvc_prim C rfl rfl rfl rfl (trivial) rfl ?_
  refine rvc_un (rexec_append C rfl rfl rfl rfl rfl rfl rfl rfl (fun _ h => by cases h) rfl (en := eSeen) (D0 := D) (D := v.D) rfl rfl rfl rfl (by show (2 * (D.length + v.D.length) + 192) * 16 ≤ _; omega) (by decide) (nn := (D ++ v.D).length) (by simp) ?_)
  refine rvc_prim C rfl rfl rfl rfl (trivial) rfl ?_
  refine rvc_nil ?_
  rw [show insertL D i v.D = D ++ v.D by subst hin; simp [insertL]]
  refine Awp.weakenR (S := [(6, .sl 1 0 (D ++ v.D).length 9 false)]) (H := [(1, .cells (encC eSeen (D ++ v.D)))]) (U := [0, 1]) (fun x => bif x == 1 then 25 else x) (WeakerR.ofLI (I := [0]) (Ks := [1]) hI ⟨⟨sl_to rfl rfl (by rfl), rfl⟩, trivial⟩ (okH_list rfl rfl rfl okH_nil) rfl rfl) ?_
  refine Awp.ret ?_
  exact ⟨.inl rfl, rfl, rfl⟩
 ·
  have hne : i ≠ D.length := by have := ne_of_beq_false hc; omega
  refine Awp.skip ?_
  refine Awp.seq ?_
  refine Awp.cons C (fun _ => .pure) (by kernel_rfl) ?_ -- region 8 false
  refine rvc_prim C rfl rfl rfl rfl (trivial) rfl ?_
  refine rvc_prim C rfl rfl rfl rfl (trivial) rfl ?_
  refine rvc_un (rexec_primv C { v := .pv (.lit (.int .i64 ((D.length + v.D.length : Nat) : Int))) } rfl rfl rfl rfl trivial (delta_int (by rw [wrapI _ (by omega)]; omega)) rfl ?_)
  refine rvc_prim C rfl rfl rfl rfl (trivial) rfl ?_
  refine rvc_un (rexec_capC C rfl rfl rfl rfl rfl rfl ?_)
  refine rvc_prim C rfl rfl rfl rfl (trivial) rfl ?_
  refine rvc_nil ?_
  refine Awp.cond rfl (fun hc => ?_) (fun hc => ?_)
  ·
   have hgt : c < D.length + v.D.length := by have := of_decide_eq_true hc; omega
   refine Awp.cons C (fun _ => .pure) (by kernel_rfl) ?_ -- region 9 false
   refine rvc_prim C rfl rfl rfl rfl (trivial) rfl ?_
   refine rvc_prim C rfl rfl rfl rfl (trivial) rfl ?_
   refine rvc_un (rexec_sliceHiC C i rfl rfl rfl rfl rfl rfl (by omega) ?_)
   refine rvc_prim C rfl rfl rfl rfl (trivial) rfl ?_
   refine rvc_prim C rfl rfl rfl rfl (trivial) rfl ?_
   refine rvc_un (rexec_primv C { v := .pv (.lit (.int .i64 ((D.length + v.D.length : Nat) : Int))) } rfl rfl rfl rfl trivial (delta_int (by rw [wrapI _ (by omega)]; omega)) rfl ?_)
   refine rvc_prim C rfl rfl rfl rfl (trivial) rfl ?_
   refine rvc_un (rexec_primv C { v := .pv (.lit (.int .i64 ((D.length + v.D.length - i : Nat) : Int))) } rfl rfl rfl rfl trivial (delta_int (by rw [wrapI _ (by omega)]; omega)) rfl ?_)
   refine rvc_un (rexec_appendZ C rfl rfl rfl rfl rfl rfl rfl rfl rfl (Seen.mk (fun _ => 0) 0) D i (D.length + v.D.length - i) rfl rfl rfl hi (by omega) (by omega) (by show (2 * (i + (D.length + v.D.length - i)) + 192) * 16 ≤ _; omega) (by decide) (by decide) rfl rfl ?_)
   refine rvc_prim C rfl rfl rfl rfl (trivial) rfl ?_
   refine rvc_nil ?_
   refine Awp.cons C (fun _ => .pure) (by kernel_rfl) ?_ -- region 10 false
   refine rvc_prim C rfl rfl rfl rfl (trivial) rfl ?_
   refine rvc_prim C rfl rfl rfl rfl (trivial) rfl ?_
   refine rvc_un (rexec_sliceOwn C (l := i) rfl rfl rfl rfl rfl rfl (by omega) ?_)
   refine rvc_prim C rfl rfl rfl rfl (trivial) rfl ?_
   refine rvc_un (rexec_copyS C rfl rfl rfl rfl rfl rfl (e := eSeen) v.D (encC eSeen (D.take i ++ v.D ++ List.replicate (D.length - i) (Seen.mk (fun _ => 0) 0))) rfl rfl rfl (by omega) (by rw [encC_len]; simp [eSeen]; omega) (by rw [hrep]; exact set_mid (by simp) (by simp [eSeen]; omega)) ?_)
   refine rvc_nil ?_
   refine Awp.dropCap 0 0 0 D.length 9 c rfl ?_
   refine Awp.consP C ?_
   refine rvc_prim C rfl rfl rfl rfl (trivial) rfl ?_
   refine rvc_prim C rfl rfl rfl rfl (trivial) rfl ?_
   refine rvc_prim C rfl rfl rfl rfl (trivial) rfl ?_
   refine rvc_un (rexec_primv C { v := .pv (.lit (.int .i64 ((i + v.D.length : Nat) : Int))) } rfl rfl rfl rfl trivial (delta_int (by rw [wrapI _ (by omega)]; omega)) rfl ?_)
   refine rvc_un (rexec_sliceOwn C (l := i + v.D.length) rfl rfl rfl rfl rfl rfl (by omega) ?_)
   refine rvc_prim C rfl rfl rfl rfl (trivial) rfl ?_
   refine rvc_prim C rfl rfl rfl rfl (trivial) rfl ?_
   refine rvc_un (rexec_sliceOwn C (l := i) rfl rfl rfl rfl rfl rfl (by omega) ?_)
   refine rvc_un (rexec_copyO C rfl rfl rfl rfl rfl rfl (e := eSeen) (D.drop i) (encC eSeen (insertL D i v.D)) rfl rfl rfl rfl (by rw [encC_len]; simp [eSeen]; omega) (by have := tail_of (e := eSeen) (D := D) (Z := []) (i := i) (k := D.length - i) (j := (D.drop i).length * 9) hi (Nat.le_refl _) (by simp [eSeen]); simpa [eSeen] using this) (by simp; omega) (by rw [encC_len]; simp [eSeen]; omega) (by have := set_mid (e := eSeen) (A := D.take i ++ v.D) (B := List.replicate (D.length - i) (Seen.mk (fun _ => 0) 0)) (B' := D.drop i) (C := []) (k := (i + v.D.length) * 9) (by simp) (by simp [eSeen]; omega); simpa [insertL] using this) ?_ rfl)
   refine rvc_nil ?_
   refine Awp.cons C (fun _ => .pure) (by kernel_rfl) ?_ -- region 12 false
   refine rvc_prim C rfl rfl rfl rfl (trivial) rfl ?_
   refine rvc_prim C rfl rfl rfl rfl (trivial) rfl ?_
   refine rvc_nil ?_
   refine Awp.weakenR (S := [(6, .sl 1 0 (insertL D i v.D).length 9 false)]) (H := [(1, .cells (encC eSeen (insertL D i v.D)))]) (U := [0, 1]) (fun x => bif x == 1 then 40 else x) (WeakerR.ofLI (I := [0]) (Ks := [1]) hI ⟨⟨sl_to rfl rfl (by rw [insertL_len (D := D) (M := v.D) hi] <;> omega), rfl⟩, trivial⟩ (okH_list rfl rfl rfl okH_nil) rfl rfl) ?_
   refine Awp.ret ?_
   exact ⟨.inl rfl, rfl, rfl⟩
  ·
   have hle : D.length + v.D.length ≤ c := by have := of_decide_eq_false hc; omega
   refine Awp.skip ?_
   refine Awp.cons C (fun _ => .pure) (by kernel_rfl) ?_ -- region 13 false
   refine rvc_prim C rfl rfl rfl rfl (trivial) rfl ?_
   refine rvc_prim C rfl rfl rfl rfl (trivial) rfl ?_
   refine rvc_prim C rfl rfl rfl rfl (trivial) rfl ?_
   refine rvc_un (rexec_primv C { v := .pv (.lit (.int .i64 ((D.length + v.D.length : Nat) : Int))) } rfl rfl rfl rfl trivial (delta_int (by rw [wrapI _ (by omega)]; omega)) rfl ?_)
   refine rvc_un (rexec_sliceHiC C (D.length + v.D.length) rfl rfl rfl rfl rfl rfl (by omega) ?_)
   refine rvc_prim C rfl rfl rfl rfl (trivial) rfl ?_
   refine rvc_nil ?_
   refine Awp.seq ?_
   refine Awp.extend 0 0 (D.length + v.D.length) 9 c (encC eSeen D) rfl rfl (by rw [encC_len]; simp [eSeen]; omega) ?_
   refine Awp.dropCap 0 0 0 (D.length + v.D.length) 9 c rfl ?_
   refine Awp.cons C (fun _ => .writer) (by kernel_rfl) ?_ -- region 14 false
   refine rvc_prim C rfl rfl rfl rfl (trivial) rfl ?_
   refine rvc_prim C rfl rfl rfl rfl (trivial) rfl ?_
   refine rvc_prim C rfl rfl rfl rfl (trivial) rfl ?_
   refine rvc_prim C rfl rfl rfl rfl (trivial) rfl ?_
   refine rvc_un (rexec_primv C { v := .pv (.lit (.int .i64 ((i + v.D.length : Nat) : Int))) } rfl rfl rfl rfl trivial (delta_int (by rw [wrapI _ (by omega)]; omega)) rfl ?_)
   refine rvc_un (rexec_sliceOwn C (l := i + v.D.length) rfl rfl rfl rfl rfl rfl (by omega) ?_)
   refine rvc_un (rexec_overlaps C (fn := Tryd.f64) (t := 22) (tR := 4) rfl rfl (by rw [hP]; exact Tryd.func64) rfl rfl rfl (by kernel_rfl) rfl rfl rfl (fl := some v.nil) (m := v.D.length) (ps := encL eSeen v.D) rfl rfl (encL_ne hv (by decide)) (encC_ne (by omega) (by decide)) ?_)
   refine rvc_prim C rfl rfl rfl rfl (trivial) rfl ?_
   refine rvc_nil ?_
   refine Awp.condT rfl (rfl) ?_
   refine Awp.consP C ?_
   refine rvc_prim C rfl rfl rfl rfl (trivial) rfl ?_
   refine rvc_prim C rfl rfl rfl rfl (trivial) rfl ?_
   refine rvc_prim C rfl rfl rfl rfl (trivial) rfl ?_
   refine rvc_un (rexec_primv C { v := .pv (.lit (.int .i64 ((i + v.D.length : Nat) : Int))) } rfl rfl rfl rfl trivial (delta_int (by rw [wrapI _ (by omega)]; omega)) rfl ?_)
   refine rvc_un (rexec_sliceOwn C (l := i + v.D.length) rfl rfl rfl rfl rfl rfl (by omega) ?_)
   refine rvc_prim C rfl rfl rfl rfl (trivial) rfl ?_
   refine rvc_prim C rfl rfl rfl rfl (trivial) rfl ?_
   refine rvc_un (rexec_sliceOwn C (l := i) rfl rfl rfl rfl rfl rfl (by omega) ?_)
   refine rvc_un (rexec_copyO C rfl rfl rfl rfl rfl rfl (e := eSeen) (D.drop i) (setRange (encC eSeen D ++ List.replicate (c * 9 - (encC eSeen D).length) AV.undef) ((i + v.D.length) * 9) (encC eSeen (D.drop i))) rfl rfl rfl rfl (by rw [List.length_append, encC_len, List.length_replicate]; simp [eSeen]; omega) (by have := tail_of (e := eSeen) (D := D) (Z := List.replicate (c * 9 - (encC eSeen D).length) AV.undef) (i := i) (k := D.length + v.D.length - i) (j := (D.drop i).length * 9) hi (by omega) (by simp [eSeen]); simpa [eSeen] using this) (by simp; omega) (by rw [List.length_append, encC_len, List.length_replicate]; simp [eSeen]; omega) (by congr 1; simp) ?_ rfl)
   refine rvc_nil ?_
   refine Awp.cons C (fun _ => .pure) (by kernel_rfl) ?_ -- region 16 false
   refine rvc_prim C rfl rfl rfl rfl (trivial) rfl ?_
   refine rvc_prim C rfl rfl rfl rfl (trivial) rfl ?_
   refine rvc_un (rexec_sliceOwn C (l := i) rfl rfl rfl rfl rfl rfl (by omega) ?_)
   refine rvc_prim C rfl rfl rfl rfl (trivial) rfl ?_
   refine rvc_un (rexec_copyS C rfl rfl rfl rfl rfl rfl (e := eSeen) v.D (encC eSeen (insertL D i v.D) ++ (List.replicate (c * 9 - (encC eSeen D).length) AV.undef).drop (v.D.length * 9)) rfl rfl rfl (by omega) (by rw [setRange_length (by simp only [encC_len, List.length_append, List.length_replicate, List.length_drop, show eSeen.sz = 9 from rfl]; omega)]; simp only [encC_len, List.length_append, List.length_replicate, show eSeen.sz = 9 from rfl]; omega) (by have := insert_inplace (e := eSeen) (D := D) (M := v.D) (Z := List.replicate (c * 9 - (encC eSeen D).length) AV.undef) (i := i) hi (by rw [List.length_replicate, encC_len]; simp [eSeen]; omega); simpa [eSeen] using this) ?_)
   refine rvc_nil ?_
   refine Awp.cons C (fun _ => .pure) (by kernel_rfl) ?_ -- region 17 false
   refine rvc_prim C rfl rfl rfl rfl (trivial) rfl ?_
   refine rvc_prim C rfl rfl rfl rfl (trivial) rfl ?_
   refine rvc_nil ?_
   refine Awp.trim 0 (encC eSeen (insertL D i v.D)) ((List.replicate (c * 9 - (encC eSeen D).length) AV.undef).drop (v.D.length * 9)) rfl ?_
   refine Awp.weakenR (S := [(6, .sl 1 0 (insertL D i v.D).length 9 false)]) (H := [(1, .cells (encC eSeen (insertL D i v.D)))]) (U := [0, 1]) (fun x => bif x == 1 then 0 else x) (WeakerR.ofLI (I := [0]) (Ks := [1]) hI ⟨⟨sl_to rfl rfl (by rw [insertL_len (D := D) (M := v.D) hi] <;> omega), rfl⟩, trivial⟩ (okH_list rfl rfl rfl okH_nil) rfl rfl) ?_
   refine Awp.ret ?_
   exact ⟨.inl rfl, rfl, rfl⟩
def cloneSeen (s : (Sl Seen)) : (Sl Seen) :=
  (bif s.nil then (Sl.mk true []) else (Sl.mk false s.D))
theorem cloneSeen_calls (s : (Sl Seen)) (hl1 : s.D.length ≤ 1000000) : PCalls Tryd.prog 14 [sS (some s.nil) eSeen s.D] (sS (some (cloneSeen s).nil) eSeen ((cloneSeen s).D)) := by
 generalize hR : cloneSeen s = R
 refine PCalls.of_body tabOk Tryd.func14 rfl rfl rfl rfl rfl mixed fun E hP C hI => ?_
 refine Awp.consP C ?_
 refine rvP C (sS (some true) eSeen []) ?_
 refine rvc_nil ?_
 refine Awp.seq ?_
 refine Awp.consP C ?_
 refine rvP C (sS (some s.nil) eSeen s.D) ?_
 refine rvc_un (rexec_eqNil C (f := s.nil) rfl rfl rfl rfl ?_)
 refine rvc_nil ?_
 refine Awp.cond (b := s.nil) rfl (fun h1 => ?_) (fun h1 => ?_)
 ·
  replace hR := of_true h1 hR
  refine Awp.consP C ?_
  refine rvP C (sS (some true) eSeen []) ?_
  refine rvc_nil ?_
  refine Awp.ret ?_
  subst hR
  exact ⟨.inl rfl, rfl⟩
 ·
  replace hR := of_false h1 hR
  refine Awp.skip ?_
  refine Awp.consP C ?_
  refine rvc_un (rexec_prim C (δ := { v := .sl 5 0 0 9 true, new := [(5, .cells (encC eSeen []))] }) rfl rfl rfl rfl trivial rfl ?_)
  refine rvP C (sS (some s.nil) eSeen s.D) ?_
  refine rvc_un (rexec_append C rfl rfl rfl rfl rfl rfl rfl rfl (fun _ h => by cases h) rfl (en := eSeen) (D0 := []) (D := s.D) rfl rfl rfl rfl (by first | omega | (simp <;> omega)) (by decide) (nn := s.D.length) (by simp) ?_)
  refine rvP C (.sl 7 0 s.D.length 9 false) ?_
  refine rvc_nil ?_
  refine Awp.freezeW 7 (encL eSeen s.D) ?_ [(2, sS (some false) eSeen s.D)] [] ?_ ?_ ?_
  · rfl
  · exact ⟨⟨_, rfl, .inl (.inr ⟨_, _, _, rfl, rfl⟩)⟩, trivial⟩
  · exact trivial
  refine Awp.ret ?_
  subst hR
  exact ⟨.inl rfl, rfl⟩
def cloneSeenO (s : (Sl Seen)) : List Seen :=
  s.D
theorem cloneSeenO_calls (s : (Sl Seen)) (hn : s.nil = false) (hl1 : s.D.length ≤ 1000000) : OCalls Tryd.prog 14 [sS (some s.nil) eSeen s.D] (.sl 0 0 (cloneSeenO s).length 9 false) (.cells (encC eSeen (cloneSeenO s))) := by
 generalize hR : cloneSeenO s = R
 refine OCalls.of_body tabOk Tryd.func14 rfl rfl rfl rfl rfl (encC_within _ _) mixed fun E hP C hI => ?_
 refine Awp.consP C ?_
 refine rvP C (sS (some true) eSeen []) ?_
 refine rvc_nil ?_
 refine Awp.seq ?_
 refine Awp.consP C ?_
 refine rvP C (sS (some s.nil) eSeen s.D) ?_
 refine rvc_un (rexec_eqNil C (f := s.nil) rfl rfl rfl rfl ?_)
 refine rvc_nil ?_
 refine Awp.condF (b := s.nil) rfl hn ?_
 refine Awp.skip ?_
 refine Awp.consP C ?_
 refine rvc_un (rexec_prim C (δ := { v := .sl 5 0 0 9 true, new := [(5, .cells (encC eSeen []))] }) rfl rfl rfl rfl trivial rfl ?_)
 refine rvP C (sS (some s.nil) eSeen s.D) ?_
 refine rvc_un (rexec_append C rfl rfl rfl rfl rfl rfl rfl rfl (fun _ h => by cases h) rfl (en := eSeen) (D0 := []) (D := s.D) rfl rfl rfl rfl (by first | omega | (simp <;> omega)) (by decide) (nn := s.D.length) (by simp) ?_)
 refine rvP C (.sl 7 0 s.D.length 9 false) ?_
 refine rvc_nil ?_
 refine Awp.weakenR (S := [(2, .sl 0 0 s.D.length 9 false)]) (H := [(0, .cells (encC eSeen s.D))]) (U := [0]) (fun x => bif x == 0 then 7 else x) (WeakerR.ofL (Ks := [0]) hI ⟨⟨rfl, rfl⟩, trivial⟩ (okH_list rfl rfl rfl okH_nil) rfl) ?_
 refine Awp.ret ?_
 subst hR
 exact ⟨.inl rfl, rfl, rfl⟩
theorem cloneSeenO_nil (s : Sl Seen) (h : s.nil = true) (hl : s.D.length ≤ 1000000) : PCalls Tryd.prog 14 [sS (some s.nil) eSeen s.D] (sS (some true) eSeen []) := by
  have r := cloneSeen_calls s hl
  rw [show cloneSeen s = Sl.mk true [] by unfold cloneSeen; rw [h]; rfl] at r
  exact r
theorem ne0_of {D : List Seen} (h : 0 < D.length) : ((D.length : Int) == 0) = false := by simp; intro e; rw [e] at h; simp at h
def insNil   (v : (Sl Seen)) : List Seen :=
  v.D
theorem insNil_calls   (v : (Sl Seen)) (hv : 0 < v.D.length) (hl1 : v.D.length ≤ 1000000) : OCalls Tryd.prog 46 [sS (some true) eSeen [], .pv (.lit (.int .i64 0)), sS (some v.nil) eSeen v.D] (.sl 0 0 (insNil   v).length 9 false) (.cells (encC eSeen (insNil   v))) := by
 generalize hR : insNil   v = R
 refine OCalls.of_body tabOk Tryd.func46 rfl rfl rfl rfl rfl (encC_within _ _) mixed fun E hP C hI => ?_
 refine Awp.consP C ?_
 refine rvP C (sS (some true) eSeen []) ?_
 refine rvc_nil ?_
 refine Awp.consP C ?_
 refine rvP C (sS (some true) eSeen []) ?_
 refine rvP C (.pv (.lit (.int .i64 0))) ?_
 refine rvc_un (rexec_sliceS C (e := eSeen) (D := []) 0 0 rfl rfl rfl rfl rfl rfl rfl rfl rfl rfl (by have := ne_of_beq_false (ne0_of hv); omega) (by have := ne_of_beq_false (ne0_of hv); omega) [] (by simp) ?_)
 refine rvc_nil ?_
 refine Awp.consP C ?_
 refine rvP C (sS (some v.nil) eSeen v.D) ?_
 refine rvP C (.pv (.lit (.int .i64 (v.D.length : Int)))) ?_
 refine rvP C (.pv (.lit (.int .i64 (v.D.length : Int)))) ?_
 refine rvc_nil ?_
 refine Awp.seq ?_
 refine Awp.consP C ?_
 refine rvP C (.pv (.lit (.int .i64 (v.D.length : Int)))) ?_
 refine rvP C (.pv (.lit (.bool ((v.D.length : Int) == 0)))) ?_
 refine rvc_nil ?_
 refine Awp.condF (b := ((v.D.length : Int) == 0)) rfl (ne0_of hv) ?_
 refine Awp.skip ?_
 refine Awp.consP C ?_
 refine rvP C (sS (some true) eSeen []) ?_
 refine rvP C (.pv (.lit (.int .i64 0))) ?_
 refine rvP C (.pv (.lit (.int .i64 0))) ?_
 refine rvc_nil ?_
 refine Awp.seq ?_
 refine Awp.consP C ?_
 refine rvP C (.pv (.lit (.int .i64 0))) ?_
 refine rvP C (.pv (.lit (.int .i64 0))) ?_
 refine rvP C (.pv (.lit (.bool true))) ?_
 refine rvc_nil ?_
 refine Awp.condT (b := true) rfl rfl ?_
 refine Awp.consP C ?_
 refine rvP C (sS (some true) eSeen []) ?_
 refine rvP C (sS (some v.nil) eSeen v.D) ?_
 refine rvc_un (rexec_appendN C rfl rfl rfl rfl rfl rfl rfl rfl (fun _ h => by cases h) rfl (en := eSeen) (D := v.D) rfl rfl hv (by have := ne_of_beq_false (ne0_of hv); first | omega | (simp <;> omega)) (by decide) (nn := v.D.length) rfl ?_)
 refine rvP C (.sl 25 0 v.D.length 9 false) ?_
 refine rvc_nil ?_
 refine Awp.weakenR (S := [(6, .sl 0 0 v.D.length 9 false)]) (H := [(0, .cells (encC eSeen v.D))]) (U := [0]) (fun x => bif x == 0 then 25 else x) (WeakerR.ofL (Ks := [0]) hI ⟨⟨rfl, rfl⟩, trivial⟩ (okH_list rfl rfl rfl okH_nil) rfl) ?_
 refine Awp.ret ?_
 subst hR
 exact ⟨.inl rfl, rfl, rfl⟩
theorem insertSI_calls (D : List Seen) (i : Int) (v : Sl Seen) (hi : 0 ≤ i ∧ i ≤ (D.length : Int)) (hv : 0 < v.D.length) (hl1 : D.length ≤ 1000000) (hl2 : v.D.length ≤ 1000000) : TCalls Tryd.prog 46 [.sl 0 0 D.length 9 false, .pv (.lit (.int .i64 i)), sS (some v.nil) eSeen v.D] (.cells (encC eSeen D)) (.sl 1 0 (insertL D i.toNat v.D).length 9 false) (.cells (encC eSeen (insertL D i.toNat v.D))) := by
  have r := insertS_calls D i.toNat v (by omega) hv hl1 hl2
  rw [Int.toNat_of_nonneg hi.1] at r
  exact r
theorem insNilI_calls (i : Int) (v : Sl Seen) (hi : i = 0) (hv : 0 < v.D.length) (hl : v.D.length ≤ 1000000) : OCalls Tryd.prog 46 [sS (some true) eSeen [], .pv (.lit (.int .i64 i)), sS (some v.nil) eSeen v.D] (.sl 0 0 v.D.length 9 false) (.cells (encC eSeen v.D)) := by
  subst hi
  exact insNil_calls v hv hl
theorem place_nil {l : Sl Seen} {k : Nat → Int} (hn : l.D.length ≤ 1000000) (h : l.D = []) : (place l k).1 = 0 := by
  have := place_le l k hn
  rw [h] at this
  simp at this
  omega
theorem place_nil2 {l : Sl Seen} {k : Nat → Int} (hn : l.D.length ≤ 1000000) (h : l.D = []) : (place l k).2 = false := by
  cases e : (place l k).2
  · rfl
  · have := place_lt hn e
    rw [h] at this
    simp at this
    omega
theorem place_toNat {l : Sl Seen} {k : Nat → Int} (hn : l.D.length ≤ 1000000) : ((place l k).1).toNat ≤ l.D.length := by
  have := place_le l k hn
  omega
theorem KB_nil : ∀ x ∈ ([] : List Seen), KeyB x.key := fun _ h => nomatch h
theorem KB_one {k : Nat → Int} {v : Int} (hk : KeyB k) : ∀ x ∈ [Seen.mk k v], KeyB x.key := fun x h => by rw [List.mem_singleton.1 h]; exact hk
theorem K8 {k : Nat → Int} (h : KeyB k) : KeyB (ofL [k 0, k 1, k 2, k 3, k 4, k 5, k 6, k 7]) := fun j hj => by
  rcases (by omega : j = 0 ∨ j = 1 ∨ j = 2 ∨ j = 3 ∨ j = 4 ∨ j = 5 ∨ j = 6 ∨ j = 7) with rfl | rfl | rfl | rfl | rfl | rfl | rfl | rfl <;> exact h _ (by decide)
theorem KB_setk {D : List Seen} {i : Nat} {k : Nat → Int} {v : Int} (h : ∀ x ∈ D, KeyB x.key) (hk : KeyB k) : ∀ x ∈ D.set i (Seen.mk k v), KeyB x.key := fun x hx => by
  rcases List.mem_or_eq_of_mem_set hx with hx | rfl
  · exact h x hx
  · exact hk
theorem KB_ins {D : List Seen} {i : Nat} {k : Nat → Int} {v : Int} (h : ∀ x ∈ D, KeyB x.key) (hk : KeyB k) : ∀ x ∈ insertL D i [Seen.mk k v], KeyB x.key := fun x hx => by
  unfold insertL at hx
  rcases List.mem_append.1 hx with hx | hx
  · rcases List.mem_append.1 hx with hx | hx
    · exact h x (List.mem_of_mem_take hx)
    · exact KB_one hk x hx
  · exact h x (List.mem_of_mem_drop hx)
def pSee (l : (Sl Seen)) (k : (Nat → Int)) (ver : Int) : (Sl Seen) × Int :=
  (bif ((pRight l) != 0) then ((Sl.mk true []), (pRight l)) else (bif ((shRight k) != 0) then ((Sl.mk true []), 100) else (bif (decide (ver < 0)) then ((Sl.mk true []), 100) else (bif (decide (ver > 1099511627776)) then ((Sl.mk true []), 100) else (bif l.nil then (bif (ver == 0) then (bif ((pRight (Sl.mk true [])) != 0) then ((Sl.mk true []), (pRight (Sl.mk true []))) else ((Sl.mk true []), 0)) else (bif ((pRight (Sl.mk false [(Seen.mk k ver)])) != 0) then ((Sl.mk true []), (pRight (Sl.mk false [(Seen.mk k ver)]))) else ((Sl.mk false [(Seen.mk k ver)]), 0))) else (bif (place l k).2 then (bif ((pRight (Sl.mk false (l.D.set (((place l k).1).toNat) (Seen.mk (ofL [(l.D[((place l k).1).toNat]!.key 0), (l.D[((place l k).1).toNat]!.key 1), (l.D[((place l k).1).toNat]!.key 2), (l.D[((place l k).1).toNat]!.key 3), (l.D[((place l k).1).toNat]!.key 4), (l.D[((place l k).1).toNat]!.key 5), (l.D[((place l k).1).toNat]!.key 6), (l.D[((place l k).1).toNat]!.key 7)]) (bif (decide ((l.D[((place l k).1).toNat]!.ver) < ver)) then ver else (l.D[((place l k).1).toNat]!.ver)))))) != 0) then ((Sl.mk true []), (pRight (Sl.mk false (l.D.set (((place l k).1).toNat) (Seen.mk (ofL [(l.D[((place l k).1).toNat]!.key 0), (l.D[((place l k).1).toNat]!.key 1), (l.D[((place l k).1).toNat]!.key 2), (l.D[((place l k).1).toNat]!.key 3), (l.D[((place l k).1).toNat]!.key 4), (l.D[((place l k).1).toNat]!.key 5), (l.D[((place l k).1).toNat]!.key 6), (l.D[((place l k).1).toNat]!.key 7)]) (bif (decide ((l.D[((place l k).1).toNat]!.ver) < ver)) then ver else (l.D[((place l k).1).toNat]!.ver))))))) else ((Sl.mk false (l.D.set (((place l k).1).toNat) (Seen.mk (ofL [(l.D[((place l k).1).toNat]!.key 0), (l.D[((place l k).1).toNat]!.key 1), (l.D[((place l k).1).toNat]!.key 2), (l.D[((place l k).1).toNat]!.key 3), (l.D[((place l k).1).toNat]!.key 4), (l.D[((place l k).1).toNat]!.key 5), (l.D[((place l k).1).toNat]!.key 6), (l.D[((place l k).1).toNat]!.key 7)]) (bif (decide ((l.D[((place l k).1).toNat]!.ver) < ver)) then ver else (l.D[((place l k).1).toNat]!.ver))))), 0)) else (bif (ver == 0) then (bif ((pRight (Sl.mk false l.D)) != 0) then ((Sl.mk true []), (pRight (Sl.mk false l.D))) else ((Sl.mk false l.D), 0)) else (bif ((pRight (Sl.mk false (insertL l.D (((place l k).1).toNat) [(Seen.mk k ver)]))) != 0) then ((Sl.mk true []), (pRight (Sl.mk false (insertL l.D (((place l k).1).toNat) [(Seen.mk k ver)])))) else ((Sl.mk false (insertL l.D (((place l k).1).toNat) [(Seen.mk k ver)])), 0)))))))))
theorem pSee_calls (l : (Sl Seen)) (k : (Nat → Int)) (ver : Int) (hl : ∀ x ∈ l.D, KeyB x.key) (hk : KeyB k) (hn : l.nil = true → l.D = []) (hl1 : l.D.length ≤ 1000) : PCalls Tryd.prog 22 [sS (some l.nil) eSeen l.D, .agg [.pv (.lit (.int .u8 (k 0))), .pv (.lit (.int .u8 (k 1))), .pv (.lit (.int .u8 (k 2))), .pv (.lit (.int .u8 (k 3))), .pv (.lit (.int .u8 (k 4))), .pv (.lit (.int .u8 (k 5))), .pv (.lit (.int .u8 (k 6))), .pv (.lit (.int .u8 (k 7)))], .pv (.lit (.int .i64 ver))] (.tup [sS (some (pSee l k ver).1.nil) eSeen ((pSee l k ver).1.D), .pv (.lit (.int .i64 ((pSee l k ver).2)))]) := by
 generalize hR : pSee l k ver = R
 refine PCalls.of_body tabOk Tryd.func22 rfl rfl rfl rfl rfl mixed fun E hP C hI => ?_
 refine Awp.consP C ?_
 refine rvc_un (rexec_prim C (δ := { v := .ptr 4 0, new := [(4, .cells [.pv (.lit (.int .u8 (k 0))), .pv (.lit (.int .u8 (k 1))), .pv (.lit (.int .u8 (k 2))), .pv (.lit (.int .u8 (k 3))), .pv (.lit (.int .u8 (k 4))), .pv (.lit (.int .u8 (k 5))), .pv (.lit (.int .u8 (k 6))), .pv (.lit (.int .u8 (k 7)))])] }) rfl rfl rfl rfl trivial rfl ?_)
 refine rvP C (sS (some true) eSeen []) ?_
 refine rvP C (.pv (.lit (.int .i64 0))) ?_
 refine rvc_nil ?_
 refine Awp.seq ?_
 refine Awp.consP C ?_
 refine rvP C (sS (some l.nil) eSeen l.D) ?_
 refine rvc_un (rexec_call hP C rfl rfl rfl (pRight_calls l hl (Nat.le_trans hl1 (by decide))) ?_)
 refine rvP C (.pv (.lit (.int .i64 (pRight l)))) ?_
 refine rvc_nil ?_
 refine Awp.consP C ?_
 refine rvP C (.pv (.lit (.int .i64 (pRight l)))) ?_
 refine rvP C (.pv (.lit (.bool ((pRight l) != 0)))) ?_
 refine rvc_nil ?_
 refine Awp.cond (b := ((pRight l) != 0)) rfl (fun h1 => ?_) (fun h1 => ?_)
 ·
  replace hR := of_true h1 hR
  refine Awp.consP C ?_
  refine rvP C (.pv (.lit (.int .i64 (pRight l)))) ?_
  refine rvP C (sS (some true) eSeen []) ?_
  refine rvP C (.pv (.lit (.int .i64 (pRight l)))) ?_
  refine rvc_nil ?_
  refine Awp.ret ?_
  subst hR
  exact ⟨.inl rfl, rfl⟩
 ·
  replace hR := of_false h1 hR
  refine Awp.skip ?_
  refine Awp.seq ?_
  refine Awp.consP C ?_
  refine rvP C (.agg [.pv (.lit (.int .u8 (k 0))), .pv (.lit (.int .u8 (k 1))), .pv (.lit (.int .u8 (k 2))), .pv (.lit (.int .u8 (k 3))), .pv (.lit (.int .u8 (k 4))), .pv (.lit (.int .u8 (k 5))), .pv (.lit (.int .u8 (k 6))), .pv (.lit (.int .u8 (k 7)))]) ?_
  refine rvc_un (rexec_call hP C rfl rfl rfl (shRight_calls k hk) ?_)
  refine rvP C (.pv (.lit (.bool ((shRight k) != 0)))) ?_
  refine rvP C (.pv (.lit (.bool ((shRight k) != 0)))) ?_
  refine rvc_case 21 ((shRight k) != 0) rfl (fun h2 => ?_) (fun h2 => ?_)
  ·
   replace hR := of_true h2 hR
   refine rvS ?_
   refine rvS ?_
   refine rvP C (.pv (.lit (.bool true))) ?_
   refine rvP C (.pv (.lit (.bool true))) ?_
   refine rvS ?_
   refine rvS ?_
   refine rvP C (.pv (.lit (.bool true))) ?_
   refine rvc_nil ?_
   refine Awp.condT (b := true) rfl rfl ?_
   refine Awp.consP C ?_
   refine rvP C (sS (some true) eSeen []) ?_
   refine rvP C (.pv (.lit (.int .i64 100))) ?_
   refine rvc_nil ?_
   refine Awp.ret ?_
   subst hR
   exact ⟨.inl rfl, rfl⟩
  ·
   replace hR := of_false h2 hR
   refine rvO C (.pv (.lit (.int .i64 ver))) ?_
   refine rvO C (.pv (.lit (.bool (decide (ver < 0))))) ?_
   refine rvP C (.pv (.lit (.bool (decide (ver < 0))))) ?_
   refine rvP C (.pv (.lit (.bool (decide (ver < 0))))) ?_
   refine rvc_case 25 (decide (ver < 0)) rfl (fun h3 => ?_) (fun h3 => ?_)
   ·
    replace hR := of_true h3 hR
    refine rvS ?_
    refine rvS ?_
    refine rvP C (.pv (.lit (.bool true))) ?_
    refine rvc_nil ?_
    refine Awp.condT (b := true) rfl rfl ?_
    refine Awp.consP C ?_
    refine rvP C (sS (some true) eSeen []) ?_
    refine rvP C (.pv (.lit (.int .i64 100))) ?_
    refine rvc_nil ?_
    refine Awp.ret ?_
    subst hR
    exact ⟨.inl rfl, rfl⟩
   ·
    replace hR := of_false h3 hR
    refine rvO C (.pv (.lit (.int .i64 ver))) ?_
    refine rvO C (.pv (.lit (.bool (decide (ver > 1099511627776))))) ?_
    refine rvP C (.pv (.lit (.bool (decide (ver > 1099511627776))))) ?_
    refine rvc_nil ?_
    refine Awp.cond (b := (decide (ver > 1099511627776))) rfl (fun h4 => ?_) (fun h4 => ?_)
    ·
     replace hR := of_true h4 hR
     refine Awp.consP C ?_
     refine rvP C (sS (some true) eSeen []) ?_
     refine rvP C (.pv (.lit (.int .i64 100))) ?_
     refine rvc_nil ?_
     refine Awp.ret ?_
     subst hR
     exact ⟨.inl rfl, rfl⟩
    ·
     replace hR := of_false h4 hR
     refine Awp.skip ?_
     refine Awp.cons C (fun _ => .quiet) (by kernel_rfl) ?_
     refine rvP C (sS (some l.nil) eSeen l.D) ?_
     rcases Bool.eq_false_or_eq_true l.nil with h5 | h5
     ·
      replace hR := of_true h5 hR
      refine rvc_un (rexec_call hP C rfl rfl rfl (cloneSeenO_nil l h5 (by have := eq_of_bne_false h1; have := eq_of_bne_false h2; have := of_decide_eq_false h3; have := of_decide_eq_false h4; omega)) ?_)
      refine rvP C (sS (some true) eSeen []) ?_
      refine rvc_nil ?_
      refine Awp.consP C ?_
      refine rvP C (sS (some l.nil) eSeen l.D) ?_
      refine rvP C (.agg [.pv (.lit (.int .u8 (k 0))), .pv (.lit (.int .u8 (k 1))), .pv (.lit (.int .u8 (k 2))), .pv (.lit (.int .u8 (k 3))), .pv (.lit (.int .u8 (k 4))), .pv (.lit (.int .u8 (k 5))), .pv (.lit (.int .u8 (k 6))), .pv (.lit (.int .u8 (k 7)))]) ?_
      refine rvc_un (rexec_call hP C rfl rfl rfl (place_calls l k (Nat.le_trans hl1 (by decide))) ?_)
      refine rvP C (.tup [.pv (.lit (.int .i64 ((place l k).1))), .pv (.lit (.bool ((place l k).2)))]) ?_
      refine rvP C (.pv (.lit (.int .i64 ((place l k).1)))) ?_
      refine rvP C (.pv (.lit (.bool ((place l k).2)))) ?_
      refine rvP C (.pv (.lit (.int .i64 ((place l k).1)))) ?_
      refine rvP C (.pv (.lit (.bool ((place l k).2)))) ?_
      refine rvc_nil ?_
      refine Awp.seq ?_
      refine Awp.block ?_
      refine Awp.consP C ?_
      refine rvP C (.pv (.lit (.bool ((place l k).2)))) ?_
      refine rvP C (.pv (.lit (.bool ((place l k).2)))) ?_
      refine rvc_nil ?_
      refine Awp.condF (b := (place l k).2) rfl (place_nil2 (Nat.le_trans hl1 (by decide)) (hn h5)) ?_
      refine Awp.consP C ?_
      refine rvP C (.pv (.lit (.int .i64 ver))) ?_
      refine rvP C (.pv (.lit (.bool (ver == 0)))) ?_
      refine rvP C (.pv (.lit (.bool (ver == 0)))) ?_
      refine rvc_nil ?_
      refine Awp.cond (b := (ver == 0)) rfl (fun h6 => ?_) (fun h6 => ?_)
      ·
       replace hR := of_true h6 hR
       refine Awp.skip ?_
       refine Awp.seq ?_
       refine Awp.consP C ?_
       refine rvP C (sS (some true) eSeen []) ?_
       refine rvc_un (rexec_call hP C rfl rfl rfl (pRight_calls (Sl.mk true []) (by first | exact hl | exact KB_nil | exact KB_ins hl hk | exact KB_one hk | exact KB_setk hl (K8 (KB.at hl (by omega)))) (by first | (show _ ≤ 1000000; simp; done) | (show l.D.length ≤ 1000000; exact (Nat.le_trans hl1 (by decide))) | (rw [List.length_set]; exact (Nat.le_trans hl1 (by decide))) | (rw [insertL_len (place_toNat (Nat.le_trans hl1 (by decide)))]; simp; omega))) ?_)
       refine rvP C (.pv (.lit (.int .i64 (pRight (Sl.mk true []))))) ?_
       refine rvc_nil ?_
       refine Awp.consP C ?_
       refine rvP C (.pv (.lit (.int .i64 (pRight (Sl.mk true []))))) ?_
       refine rvP C (.pv (.lit (.bool ((pRight (Sl.mk true [])) != 0)))) ?_
       refine rvc_nil ?_
       refine Awp.cond (b := ((pRight (Sl.mk true [])) != 0)) rfl (fun h7 => ?_) (fun h7 => ?_)
       ·
        replace hR := of_true h7 hR
        refine Awp.consP C ?_
        refine rvP C (.pv (.lit (.int .i64 (pRight (Sl.mk true []))))) ?_
        refine rvP C (sS (some true) eSeen []) ?_
        refine rvP C (.pv (.lit (.int .i64 (pRight (Sl.mk true []))))) ?_
        refine rvc_nil ?_
        refine Awp.ret ?_
        subst hR
        exact ⟨.inl rfl, rfl⟩
       ·
        replace hR := of_false h7 hR
        refine Awp.skip ?_
        refine Awp.consP C ?_
        refine rvP C (sS (some true) eSeen []) ?_
        refine rvP C (sS (some true) eSeen []) ?_
        refine rvP C (.pv (.lit (.int .i64 0))) ?_
        refine rvc_nil ?_
        refine Awp.ret ?_
        subst hR
        exact ⟨.inl rfl, rfl⟩
      ·
       replace hR := of_false h6 hR
       refine Awp.region C (fun _ => .writer) (by kernel_rfl) ?_
       refine rvP C (sS (some true) eSeen []) ?_
       refine rvP C (.pv (.lit (.int .i64 ((place l k).1)))) ?_
       refine rvP C (.agg [.pv (.lit (.int .u8 (k 0))), .pv (.lit (.int .u8 (k 1))), .pv (.lit (.int .u8 (k 2))), .pv (.lit (.int .u8 (k 3))), .pv (.lit (.int .u8 (k 4))), .pv (.lit (.int .u8 (k 5))), .pv (.lit (.int .u8 (k 6))), .pv (.lit (.int .u8 (k 7)))]) ?_
       refine rvP C (.pv (.lit (.int .i64 ver))) ?_
       refine rvP C (.agg [.pv (.lit (.int .u8 (k 0))), .pv (.lit (.int .u8 (k 1))), .pv (.lit (.int .u8 (k 2))), .pv (.lit (.int .u8 (k 3))), .pv (.lit (.int .u8 (k 4))), .pv (.lit (.int .u8 (k 5))), .pv (.lit (.int .u8 (k 6))), .pv (.lit (.int .u8 (k 7))), .pv (.lit (.int .i64 ver))]) ?_
       refine rvc_un (rexec_buildSliceF C eSeen [(Seen.mk k ver)] rfl rfl rfl rfl rfl rfl rfl (by decide) rfl ?_)
       refine rvc_un (rexec_callO hP C rfl rfl rfl rfl (insNilI_calls ((place l k).1) (Sl.mk false [(Seen.mk k ver)]) (place_nil (Nat.le_trans hl1 (by decide)) (hn ‹l.nil = true›)) (by simp) (by simp)) ?_)
       refine rvP C (.sl 43 0 ([(Seen.mk k ver)].length) 9 false) ?_
       refine rvc_nil ?_
       refine Awp.seq ?_
       refine Awp.freezeW 43 (encL eSeen [(Seen.mk k ver)]) ?_ [(6, sS (some true) eSeen []), (7, .pv (.lit (.int .i64 0))), (9, sS (some false) eSeen [(Seen.mk k ver)])] [(4, .cells [.pv (.lit (.int .u8 (k 0))), .pv (.lit (.int .u8 (k 1))), .pv (.lit (.int .u8 (k 2))), .pv (.lit (.int .u8 (k 3))), .pv (.lit (.int .u8 (k 4))), .pv (.lit (.int .u8 (k 5))), .pv (.lit (.int .u8 (k 6))), .pv (.lit (.int .u8 (k 7)))])] ?_ ?_ ?_
       · rfl
       · exact ⟨⟨_, rfl, .inl (.inl rfl)⟩, ⟨_, rfl, .inl (.inl rfl)⟩, ⟨_, rfl, .inl (.inr ⟨_, _, _, rfl, rfl⟩)⟩, trivial⟩
       · exact ⟨⟨(by show (4 : Nat) ≠ 43; decide), .inl rfl⟩, trivial⟩
       refine Awp.consP C ?_
       refine rvP C (sS (some false) eSeen [(Seen.mk k ver)]) ?_
       refine rvc_un (rexec_call hP C rfl rfl rfl (pRight_calls (Sl.mk false [(Seen.mk k ver)]) (by first | exact hl | exact KB_nil | exact KB_ins hl hk | exact KB_one hk | exact KB_setk hl (K8 (KB.at hl (by omega)))) (by first | (show _ ≤ 1000000; simp; done) | (show l.D.length ≤ 1000000; exact (Nat.le_trans hl1 (by decide))) | (rw [List.length_set]; exact (Nat.le_trans hl1 (by decide))) | (rw [insertL_len (place_toNat (Nat.le_trans hl1 (by decide)))]; simp; omega))) ?_)
       refine rvP C (.pv (.lit (.int .i64 (pRight (Sl.mk false [(Seen.mk k ver)]))))) ?_
       refine rvc_nil ?_
       refine Awp.consP C ?_
       refine rvP C (.pv (.lit (.int .i64 (pRight (Sl.mk false [(Seen.mk k ver)]))))) ?_
       refine rvP C (.pv (.lit (.bool ((pRight (Sl.mk false [(Seen.mk k ver)])) != 0)))) ?_
       refine rvc_nil ?_
       refine Awp.cond (b := ((pRight (Sl.mk false [(Seen.mk k ver)])) != 0)) rfl (fun h8 => ?_) (fun h8 => ?_)
       ·
        replace hR := of_true h8 hR
        refine Awp.consP C ?_
        refine rvP C (.pv (.lit (.int .i64 (pRight (Sl.mk false [(Seen.mk k ver)]))))) ?_
        refine rvP C (sS (some true) eSeen []) ?_
        refine rvP C (.pv (.lit (.int .i64 (pRight (Sl.mk false [(Seen.mk k ver)]))))) ?_
        refine rvc_nil ?_
        refine Awp.ret ?_
        subst hR
        exact ⟨.inl rfl, rfl⟩
       ·
        replace hR := of_false h8 hR
        refine Awp.skip ?_
        refine Awp.consP C ?_
        refine rvP C (sS (some false) eSeen [(Seen.mk k ver)]) ?_
        refine rvP C (sS (some false) eSeen [(Seen.mk k ver)]) ?_
        refine rvP C (.pv (.lit (.int .i64 0))) ?_
        refine rvc_nil ?_
        refine Awp.ret ?_
        subst hR
        exact ⟨.inl rfl, rfl⟩
     ·
      replace hR := of_false h5 hR
      refine rvc_un (rexec_callO hP C rfl rfl rfl rfl (cloneSeenO_calls l h5 (by have := eq_of_bne_false h1; have := eq_of_bne_false h2; have := of_decide_eq_false h3; have := of_decide_eq_false h4; omega)) ?_)
      refine rvP C (.sl 30 0 l.D.length 9 false) ?_
      refine rvc_nil ?_
      refine Awp.consP C ?_
      refine rvP C (sS (some l.nil) eSeen l.D) ?_
      refine rvP C (.agg [.pv (.lit (.int .u8 (k 0))), .pv (.lit (.int .u8 (k 1))), .pv (.lit (.int .u8 (k 2))), .pv (.lit (.int .u8 (k 3))), .pv (.lit (.int .u8 (k 4))), .pv (.lit (.int .u8 (k 5))), .pv (.lit (.int .u8 (k 6))), .pv (.lit (.int .u8 (k 7)))]) ?_
      refine rvc_un (rexec_call hP C rfl rfl rfl (place_calls l k (Nat.le_trans hl1 (by decide))) ?_)
      refine rvP C (.tup [.pv (.lit (.int .i64 ((place l k).1))), .pv (.lit (.bool ((place l k).2)))]) ?_
      refine rvP C (.pv (.lit (.int .i64 ((place l k).1)))) ?_
      refine rvP C (.pv (.lit (.bool ((place l k).2)))) ?_
      refine rvP C (.pv (.lit (.int .i64 ((place l k).1)))) ?_
      refine rvP C (.pv (.lit (.bool ((place l k).2)))) ?_
      refine rvc_nil ?_
      refine Awp.seq ?_
      refine Awp.block ?_
      refine Awp.consP C ?_
      refine rvP C (.pv (.lit (.bool ((place l k).2)))) ?_
      refine rvP C (.pv (.lit (.bool ((place l k).2)))) ?_
      refine rvc_nil ?_
      refine Awp.cond (b := (place l k).2) rfl (fun h9 => ?_) (fun h9 => ?_)
      ·
       replace hR := of_true h9 hR
       refine Awp.regionP C ?_
       refine rvP C (.sl 30 0 l.D.length 9 false) ?_
       refine rvP C (.pv (.lit (.int .i64 ((place l k).1)))) ?_
       refine rvP C (.sl 30 0 l.D.length 9 false) ?_
       refine rvP C (.pv (.lit (.int .i64 ((place l k).1)))) ?_
       have hpl_ := place_lt (k := k) (Nat.le_trans hl1 (by decide)) ‹(place l k).2 = true›
       have h10 : l.D[((place l k).1).toNat]? = some l.D[((place l k).1).toNat]! := getE (by have h_ := place_lt (k := k) (Nat.le_trans hl1 (by decide)) ‹(place l k).2 = true›; omega)
       refine rvc_un (rexec_prim C (δ := { v := .ptr 30 (0 + ((place l k).1).toNat * 9) }) rfl rfl rfl rfl ⟨(by have := eq_of_bne_false h1; have := eq_of_bne_false h2; have := of_decide_eq_false h3; have := of_decide_eq_false h4; omega), getlt h10 (by first | rfl | omega | (have := eq_of_bne_false h1; have := eq_of_bne_false h2; have := of_decide_eq_false h3; have := of_decide_eq_false h4; omega)) (by first | rfl | omega | simp)⟩ rfl ?_)
       refine rvP C (.ptr 30 (0 + ((place l k).1).toNat * 9 + 8)) ?_
       refine rvc_un (rexec_loadE C (e := eSeen) (((place l k).1).toNat) 8 (l.D[((place l k).1).toNat]!) (.pv (.lit (.int .i64 (l.D[((place l k).1).toNat]!.ver)))) rfl rfl rfl rfl h10 (by simp [eSeen]) (by decide) (by decide) rfl ?_)
       refine rvP C (.pv (.lit (.int .i64 ver))) ?_
       refine rvc_un (rexec_max C rfl rfl rfl ?_)
       refine rvc_un (rexec_prim C (δ := { v := .ptr 30 (0 + ((place l k).1).toNat * 9) }) rfl rfl rfl rfl ⟨(by have := eq_of_bne_false h1; have := eq_of_bne_false h2; have := of_decide_eq_false h3; have := of_decide_eq_false h4; omega), getlt h10 (by first | rfl | omega | (have := eq_of_bne_false h1; have := eq_of_bne_false h2; have := of_decide_eq_false h3; have := of_decide_eq_false h4; omega)) (by first | rfl | omega | simp)⟩ rfl ?_)
       refine rvP C (.ptr 30 (0 + ((place l k).1).toNat * 9 + 8)) ?_
       refine rvc_un (rexec_storeE C (e := eSeen) (((place l k).1).toNat) 8 (l.D[((place l k).1).toNat]!) (Seen.mk (ofL [(l.D[((place l k).1).toNat]!.key 0), (l.D[((place l k).1).toNat]!.key 1), (l.D[((place l k).1).toNat]!.key 2), (l.D[((place l k).1).toNat]!.key 3), (l.D[((place l k).1).toNat]!.key 4), (l.D[((place l k).1).toNat]!.key 5), (l.D[((place l k).1).toNat]!.key 6), (l.D[((place l k).1).toNat]!.key 7)]) (bif (decide ((l.D[((place l k).1).toNat]!.ver) < ver)) then ver else (l.D[((place l k).1).toNat]!.ver))) rfl rfl rfl rfl h10 (by simp [eSeen]) rfl rfl rfl (of_decide_eq_true rfl) rfl ?_)
       refine rvc_nil ?_
       refine Awp.seq ?_
       refine Awp.freezeW 30 (encL eSeen (l.D.set (((place l k).1).toNat) (Seen.mk (ofL [(l.D[((place l k).1).toNat]!.key 0), (l.D[((place l k).1).toNat]!.key 1), (l.D[((place l k).1).toNat]!.key 2), (l.D[((place l k).1).toNat]!.key 3), (l.D[((place l k).1).toNat]!.key 4), (l.D[((place l k).1).toNat]!.key 5), (l.D[((place l k).1).toNat]!.key 6), (l.D[((place l k).1).toNat]!.key 7)]) (bif (decide ((l.D[((place l k).1).toNat]!.ver) < ver)) then ver else (l.D[((place l k).1).toNat]!.ver))))) ?_ [(6, sS (some true) eSeen []), (7, .pv (.lit (.int .i64 0))), (9, sS (some false) eSeen (l.D.set (((place l k).1).toNat) (Seen.mk (ofL [(l.D[((place l k).1).toNat]!.key 0), (l.D[((place l k).1).toNat]!.key 1), (l.D[((place l k).1).toNat]!.key 2), (l.D[((place l k).1).toNat]!.key 3), (l.D[((place l k).1).toNat]!.key 4), (l.D[((place l k).1).toNat]!.key 5), (l.D[((place l k).1).toNat]!.key 6), (l.D[((place l k).1).toNat]!.key 7)]) (bif (decide ((l.D[((place l k).1).toNat]!.ver) < ver)) then ver else (l.D[((place l k).1).toNat]!.ver)))))] [(4, .cells [.pv (.lit (.int .u8 (k 0))), .pv (.lit (.int .u8 (k 1))), .pv (.lit (.int .u8 (k 2))), .pv (.lit (.int .u8 (k 3))), .pv (.lit (.int .u8 (k 4))), .pv (.lit (.int .u8 (k 5))), .pv (.lit (.int .u8 (k 6))), .pv (.lit (.int .u8 (k 7)))])] ?_ ?_ ?_
       · rfl
       · exact ⟨⟨_, rfl, .inl (.inl rfl)⟩, ⟨_, rfl, .inl (.inl rfl)⟩, ⟨_, rfl, .inl (.inr ⟨_, _, _, rfl, by simp [sS] <;> omega⟩)⟩, trivial⟩
       · exact ⟨⟨(by show (4 : Nat) ≠ 30; decide), .inl rfl⟩, trivial⟩
       refine Awp.consP C ?_
       refine rvP C (sS (some false) eSeen (l.D.set (((place l k).1).toNat) (Seen.mk (ofL [(l.D[((place l k).1).toNat]!.key 0), (l.D[((place l k).1).toNat]!.key 1), (l.D[((place l k).1).toNat]!.key 2), (l.D[((place l k).1).toNat]!.key 3), (l.D[((place l k).1).toNat]!.key 4), (l.D[((place l k).1).toNat]!.key 5), (l.D[((place l k).1).toNat]!.key 6), (l.D[((place l k).1).toNat]!.key 7)]) (bif (decide ((l.D[((place l k).1).toNat]!.ver) < ver)) then ver else (l.D[((place l k).1).toNat]!.ver))))) ?_
       refine rvc_un (rexec_call hP C rfl rfl rfl (pRight_calls (Sl.mk false (l.D.set (((place l k).1).toNat) (Seen.mk (ofL [(l.D[((place l k).1).toNat]!.key 0), (l.D[((place l k).1).toNat]!.key 1), (l.D[((place l k).1).toNat]!.key 2), (l.D[((place l k).1).toNat]!.key 3), (l.D[((place l k).1).toNat]!.key 4), (l.D[((place l k).1).toNat]!.key 5), (l.D[((place l k).1).toNat]!.key 6), (l.D[((place l k).1).toNat]!.key 7)]) (bif (decide ((l.D[((place l k).1).toNat]!.ver) < ver)) then ver else (l.D[((place l k).1).toNat]!.ver))))) (by first | exact hl | exact KB_nil | exact KB_ins hl hk | exact KB_one hk | exact KB_setk hl (K8 (KB.at hl (by omega)))) (by first | (show _ ≤ 1000000; simp; done) | (show l.D.length ≤ 1000000; exact (Nat.le_trans hl1 (by decide))) | (rw [List.length_set]; exact (Nat.le_trans hl1 (by decide))) | (rw [insertL_len (place_toNat (Nat.le_trans hl1 (by decide)))]; simp; omega))) ?_)
       refine rvP C (.pv (.lit (.int .i64 (pRight (Sl.mk false (l.D.set (((place l k).1).toNat) (Seen.mk (ofL [(l.D[((place l k).1).toNat]!.key 0), (l.D[((place l k).1).toNat]!.key 1), (l.D[((place l k).1).toNat]!.key 2), (l.D[((place l k).1).toNat]!.key 3), (l.D[((place l k).1).toNat]!.key 4), (l.D[((place l k).1).toNat]!.key 5), (l.D[((place l k).1).toNat]!.key 6), (l.D[((place l k).1).toNat]!.key 7)]) (bif (decide ((l.D[((place l k).1).toNat]!.ver) < ver)) then ver else (l.D[((place l k).1).toNat]!.ver))))))))) ?_
       refine rvc_nil ?_
       refine Awp.consP C ?_
       refine rvP C (.pv (.lit (.int .i64 (pRight (Sl.mk false (l.D.set (((place l k).1).toNat) (Seen.mk (ofL [(l.D[((place l k).1).toNat]!.key 0), (l.D[((place l k).1).toNat]!.key 1), (l.D[((place l k).1).toNat]!.key 2), (l.D[((place l k).1).toNat]!.key 3), (l.D[((place l k).1).toNat]!.key 4), (l.D[((place l k).1).toNat]!.key 5), (l.D[((place l k).1).toNat]!.key 6), (l.D[((place l k).1).toNat]!.key 7)]) (bif (decide ((l.D[((place l k).1).toNat]!.ver) < ver)) then ver else (l.D[((place l k).1).toNat]!.ver))))))))) ?_
       refine rvP C (.pv (.lit (.bool ((pRight (Sl.mk false (l.D.set (((place l k).1).toNat) (Seen.mk (ofL [(l.D[((place l k).1).toNat]!.key 0), (l.D[((place l k).1).toNat]!.key 1), (l.D[((place l k).1).toNat]!.key 2), (l.D[((place l k).1).toNat]!.key 3), (l.D[((place l k).1).toNat]!.key 4), (l.D[((place l k).1).toNat]!.key 5), (l.D[((place l k).1).toNat]!.key 6), (l.D[((place l k).1).toNat]!.key 7)]) (bif (decide ((l.D[((place l k).1).toNat]!.ver) < ver)) then ver else (l.D[((place l k).1).toNat]!.ver)))))) != 0)))) ?_
       refine rvc_nil ?_
       refine Awp.cond (b := ((pRight (Sl.mk false (l.D.set (((place l k).1).toNat) (Seen.mk (ofL [(l.D[((place l k).1).toNat]!.key 0), (l.D[((place l k).1).toNat]!.key 1), (l.D[((place l k).1).toNat]!.key 2), (l.D[((place l k).1).toNat]!.key 3), (l.D[((place l k).1).toNat]!.key 4), (l.D[((place l k).1).toNat]!.key 5), (l.D[((place l k).1).toNat]!.key 6), (l.D[((place l k).1).toNat]!.key 7)]) (bif (decide ((l.D[((place l k).1).toNat]!.ver) < ver)) then ver else (l.D[((place l k).1).toNat]!.ver)))))) != 0)) rfl (fun h11 => ?_) (fun h11 => ?_)
       ·
        replace hR := of_true h11 hR
        refine Awp.consP C ?_
        refine rvP C (.pv (.lit (.int .i64 (pRight (Sl.mk false (l.D.set (((place l k).1).toNat) (Seen.mk (ofL [(l.D[((place l k).1).toNat]!.key 0), (l.D[((place l k).1).toNat]!.key 1), (l.D[((place l k).1).toNat]!.key 2), (l.D[((place l k).1).toNat]!.key 3), (l.D[((place l k).1).toNat]!.key 4), (l.D[((place l k).1).toNat]!.key 5), (l.D[((place l k).1).toNat]!.key 6), (l.D[((place l k).1).toNat]!.key 7)]) (bif (decide ((l.D[((place l k).1).toNat]!.ver) < ver)) then ver else (l.D[((place l k).1).toNat]!.ver))))))))) ?_
        refine rvP C (sS (some true) eSeen []) ?_
        refine rvP C (.pv (.lit (.int .i64 (pRight (Sl.mk false (l.D.set (((place l k).1).toNat) (Seen.mk (ofL [(l.D[((place l k).1).toNat]!.key 0), (l.D[((place l k).1).toNat]!.key 1), (l.D[((place l k).1).toNat]!.key 2), (l.D[((place l k).1).toNat]!.key 3), (l.D[((place l k).1).toNat]!.key 4), (l.D[((place l k).1).toNat]!.key 5), (l.D[((place l k).1).toNat]!.key 6), (l.D[((place l k).1).toNat]!.key 7)]) (bif (decide ((l.D[((place l k).1).toNat]!.ver) < ver)) then ver else (l.D[((place l k).1).toNat]!.ver))))))))) ?_
        refine rvc_nil ?_
        refine Awp.ret ?_
        subst hR
        exact ⟨.inl rfl, rfl⟩
       ·
        replace hR := of_false h11 hR
        refine Awp.skip ?_
        refine Awp.consP C ?_
        refine rvP C (sS (some false) eSeen (l.D.set (((place l k).1).toNat) (Seen.mk (ofL [(l.D[((place l k).1).toNat]!.key 0), (l.D[((place l k).1).toNat]!.key 1), (l.D[((place l k).1).toNat]!.key 2), (l.D[((place l k).1).toNat]!.key 3), (l.D[((place l k).1).toNat]!.key 4), (l.D[((place l k).1).toNat]!.key 5), (l.D[((place l k).1).toNat]!.key 6), (l.D[((place l k).1).toNat]!.key 7)]) (bif (decide ((l.D[((place l k).1).toNat]!.ver) < ver)) then ver else (l.D[((place l k).1).toNat]!.ver))))) ?_
        refine rvP C (sS (some false) eSeen (l.D.set (((place l k).1).toNat) (Seen.mk (ofL [(l.D[((place l k).1).toNat]!.key 0), (l.D[((place l k).1).toNat]!.key 1), (l.D[((place l k).1).toNat]!.key 2), (l.D[((place l k).1).toNat]!.key 3), (l.D[((place l k).1).toNat]!.key 4), (l.D[((place l k).1).toNat]!.key 5), (l.D[((place l k).1).toNat]!.key 6), (l.D[((place l k).1).toNat]!.key 7)]) (bif (decide ((l.D[((place l k).1).toNat]!.ver) < ver)) then ver else (l.D[((place l k).1).toNat]!.ver))))) ?_
        refine rvP C (.pv (.lit (.int .i64 0))) ?_
        refine rvc_nil ?_
        refine Awp.ret ?_
        subst hR
        exact ⟨.inl rfl, rfl⟩
      ·
       replace hR := of_false h9 hR
       refine Awp.consP C ?_
       refine rvP C (.pv (.lit (.int .i64 ver))) ?_
       refine rvP C (.pv (.lit (.bool (ver == 0)))) ?_
       refine rvP C (.pv (.lit (.bool (ver == 0)))) ?_
       refine rvc_nil ?_
       refine Awp.cond (b := (ver == 0)) rfl (fun h12 => ?_) (fun h12 => ?_)
       ·
        replace hR := of_true h12 hR
        refine Awp.skip ?_
        refine Awp.seq ?_
        refine Awp.freezeW 30 (encL eSeen l.D) ?_ [(6, sS (some true) eSeen []), (7, .pv (.lit (.int .i64 0))), (9, sS (some false) eSeen l.D)] [(4, .cells [.pv (.lit (.int .u8 (k 0))), .pv (.lit (.int .u8 (k 1))), .pv (.lit (.int .u8 (k 2))), .pv (.lit (.int .u8 (k 3))), .pv (.lit (.int .u8 (k 4))), .pv (.lit (.int .u8 (k 5))), .pv (.lit (.int .u8 (k 6))), .pv (.lit (.int .u8 (k 7)))])] ?_ ?_ ?_
        · rfl
        · exact ⟨⟨_, rfl, .inl (.inl rfl)⟩, ⟨_, rfl, .inl (.inl rfl)⟩, ⟨_, rfl, .inl (.inr ⟨_, _, _, rfl, rfl⟩)⟩, trivial⟩
        · exact ⟨⟨(by show (4 : Nat) ≠ 30; decide), .inl rfl⟩, trivial⟩
        refine Awp.consP C ?_
        refine rvP C (sS (some false) eSeen l.D) ?_
        refine rvc_un (rexec_call hP C rfl rfl rfl (pRight_calls (Sl.mk false l.D) (by first | exact hl | exact KB_nil | exact KB_ins hl hk | exact KB_one hk | exact KB_setk hl (K8 (KB.at hl (by omega)))) (by first | (show _ ≤ 1000000; simp; done) | (show l.D.length ≤ 1000000; exact (Nat.le_trans hl1 (by decide))) | (rw [List.length_set]; exact (Nat.le_trans hl1 (by decide))) | (rw [insertL_len (place_toNat (Nat.le_trans hl1 (by decide)))]; simp; omega))) ?_)
        refine rvP C (.pv (.lit (.int .i64 (pRight (Sl.mk false l.D))))) ?_
        refine rvc_nil ?_
        refine Awp.consP C ?_
        refine rvP C (.pv (.lit (.int .i64 (pRight (Sl.mk false l.D))))) ?_
        refine rvP C (.pv (.lit (.bool ((pRight (Sl.mk false l.D)) != 0)))) ?_
        refine rvc_nil ?_
        refine Awp.cond (b := ((pRight (Sl.mk false l.D)) != 0)) rfl (fun h13 => ?_) (fun h13 => ?_)
        ·
         replace hR := of_true h13 hR
         refine Awp.consP C ?_
         refine rvP C (.pv (.lit (.int .i64 (pRight (Sl.mk false l.D))))) ?_
         refine rvP C (sS (some true) eSeen []) ?_
         refine rvP C (.pv (.lit (.int .i64 (pRight (Sl.mk false l.D))))) ?_
         refine rvc_nil ?_
         refine Awp.ret ?_
         subst hR
         exact ⟨.inl rfl, rfl⟩
        ·
         replace hR := of_false h13 hR
         refine Awp.skip ?_
         refine Awp.consP C ?_
         refine rvP C (sS (some false) eSeen l.D) ?_
         refine rvP C (sS (some false) eSeen l.D) ?_
         refine rvP C (.pv (.lit (.int .i64 0))) ?_
         refine rvc_nil ?_
         refine Awp.ret ?_
         subst hR
         exact ⟨.inl rfl, rfl⟩
       ·
        replace hR := of_false h12 hR
        refine Awp.region C (fun _ => .writer) (by kernel_rfl) ?_
        refine rvP C (.sl 30 0 l.D.length 9 false) ?_
        refine rvP C (.pv (.lit (.int .i64 ((place l k).1)))) ?_
        refine rvP C (.agg [.pv (.lit (.int .u8 (k 0))), .pv (.lit (.int .u8 (k 1))), .pv (.lit (.int .u8 (k 2))), .pv (.lit (.int .u8 (k 3))), .pv (.lit (.int .u8 (k 4))), .pv (.lit (.int .u8 (k 5))), .pv (.lit (.int .u8 (k 6))), .pv (.lit (.int .u8 (k 7)))]) ?_
        refine rvP C (.pv (.lit (.int .i64 ver))) ?_
        refine rvP C (.agg [.pv (.lit (.int .u8 (k 0))), .pv (.lit (.int .u8 (k 1))), .pv (.lit (.int .u8 (k 2))), .pv (.lit (.int .u8 (k 3))), .pv (.lit (.int .u8 (k 4))), .pv (.lit (.int .u8 (k 5))), .pv (.lit (.int .u8 (k 6))), .pv (.lit (.int .u8 (k 7))), .pv (.lit (.int .i64 ver))]) ?_
        refine rvc_un (rexec_buildSliceF C eSeen [(Seen.mk k ver)] rfl rfl rfl rfl rfl rfl rfl (by decide) rfl ?_)
        refine rvc_un (rexec_callT hP C (b := 30) rfl rfl rfl rfl (insertSI_calls l.D ((place l k).1) (Sl.mk false [(Seen.mk k ver)]) (place_le l k (Nat.le_trans hl1 (by decide))) (by simp) (Nat.le_trans hl1 (by decide)) (by simp)) rfl rfl ?_)
        refine rvP C (.sl 43 0 ((insertL l.D (((place l k).1).toNat) [(Seen.mk k ver)]).length) 9 false) ?_
        refine rvc_nil ?_
        refine Awp.seq ?_
        refine Awp.freezeW 43 (encL eSeen (insertL l.D (((place l k).1).toNat) [(Seen.mk k ver)])) ?_ [(6, sS (some true) eSeen []), (7, .pv (.lit (.int .i64 0))), (9, sS (some false) eSeen (insertL l.D (((place l k).1).toNat) [(Seen.mk k ver)]))] [(4, .cells [.pv (.lit (.int .u8 (k 0))), .pv (.lit (.int .u8 (k 1))), .pv (.lit (.int .u8 (k 2))), .pv (.lit (.int .u8 (k 3))), .pv (.lit (.int .u8 (k 4))), .pv (.lit (.int .u8 (k 5))), .pv (.lit (.int .u8 (k 6))), .pv (.lit (.int .u8 (k 7)))])] ?_ ?_ ?_
        · rfl
        · exact ⟨⟨_, rfl, .inl (.inl rfl)⟩, ⟨_, rfl, .inl (.inl rfl)⟩, ⟨_, rfl, .inl (.inr ⟨_, _, _, rfl, rfl⟩)⟩, trivial⟩
        · exact ⟨⟨(by show (4 : Nat) ≠ 43; decide), .inl rfl⟩, trivial⟩
        refine Awp.consP C ?_
        refine rvP C (sS (some false) eSeen (insertL l.D (((place l k).1).toNat) [(Seen.mk k ver)])) ?_
        refine rvc_un (rexec_call hP C rfl rfl rfl (pRight_calls (Sl.mk false (insertL l.D (((place l k).1).toNat) [(Seen.mk k ver)])) (by first | exact hl | exact KB_nil | exact KB_ins hl hk | exact KB_one hk | exact KB_setk hl (K8 (KB.at hl (by omega)))) (by first | (show _ ≤ 1000000; simp; done) | (show l.D.length ≤ 1000000; exact (Nat.le_trans hl1 (by decide))) | (rw [List.length_set]; exact (Nat.le_trans hl1 (by decide))) | (rw [insertL_len (place_toNat (Nat.le_trans hl1 (by decide)))]; simp; omega))) ?_)
        refine rvP C (.pv (.lit (.int .i64 (pRight (Sl.mk false (insertL l.D (((place l k).1).toNat) [(Seen.mk k ver)])))))) ?_
        refine rvc_nil ?_
        refine Awp.consP C ?_
        refine rvP C (.pv (.lit (.int .i64 (pRight (Sl.mk false (insertL l.D (((place l k).1).toNat) [(Seen.mk k ver)])))))) ?_
        refine rvP C (.pv (.lit (.bool ((pRight (Sl.mk false (insertL l.D (((place l k).1).toNat) [(Seen.mk k ver)]))) != 0)))) ?_
        refine rvc_nil ?_
        refine Awp.cond (b := ((pRight (Sl.mk false (insertL l.D (((place l k).1).toNat) [(Seen.mk k ver)]))) != 0)) rfl (fun h14 => ?_) (fun h14 => ?_)
        ·
         replace hR := of_true h14 hR
         refine Awp.consP C ?_
         refine rvP C (.pv (.lit (.int .i64 (pRight (Sl.mk false (insertL l.D (((place l k).1).toNat) [(Seen.mk k ver)])))))) ?_
         refine rvP C (sS (some true) eSeen []) ?_
         refine rvP C (.pv (.lit (.int .i64 (pRight (Sl.mk false (insertL l.D (((place l k).1).toNat) [(Seen.mk k ver)])))))) ?_
         refine rvc_nil ?_
         refine Awp.ret ?_
         subst hR
         exact ⟨.inl rfl, rfl⟩
        ·
         replace hR := of_false h14 hR
         refine Awp.skip ?_
         refine Awp.consP C ?_
         refine rvP C (sS (some false) eSeen (insertL l.D (((place l k).1).toNat) [(Seen.mk k ver)])) ?_
         refine rvP C (sS (some false) eSeen (insertL l.D (((place l k).1).toNat) [(Seen.mk k ver)])) ?_
         refine rvP C (.pv (.lit (.int .i64 0))) ?_
         refine rvc_nil ?_
         refine Awp.ret ?_
         subst hR
         exact ⟨.inl rfl, rfl⟩
theorem sOk_rd {x y : Seen} (h : rd x = rd y) : sOk x = sOk y := by
  have h2 : x.ver = y.ver := congrArg Prod.snd h
  unfold sOk
  rw [sOk_congr h, h2]
theorem rt_rd : ∀ {a b : List Seen} (o : Option (List Int)), a.map rd = b.map rd → rt o a = rt o b
  | [], [], _, _ => rfl
  | [], _ :: _, _, h => by simp at h
  | _ :: _, [], _, h => by simp at h
  | x :: xs, y :: ys, o, h => by
    simp only [List.map_cons, List.cons.injEq] at h
    have h1 : kL x.key = kL y.key := congrArg Prod.fst h.1
    cases o with
    | none => rw [rt_c0, rt_c0, sOk_rd h.1, h1, rt_rd _ h.2]
    | some q => rw [rt_c1, rt_c1, sOk_rd h.1, h1, rt_rd _ h.2]
theorem len_rd {a b : List Seen} (h : a.map rd = b.map rd) : a.length = b.length := by
  have := congrArg List.length h
  simpa using this
theorem pRight_rd {X Y : Sl Seen} (hX : KB X.D) (hY : KB Y.D) (hn : X.D.length ≤ 1000000) (h : X.D.map rd = Y.D.map rd) : pRight X = pRight Y := by
  rw [pRight_eq hX hn, pRight_eq hY (by rw [← len_rd h]; exact hn), len_rd h, rt_rd none h]
/-- What is handed back, if it may be. -/
def chk (X : Sl Seen) : Sl Seen × Int := bif (pRight X) != 0 then (Sl.mk true [], pRight X) else (X, 0)
def Good (r : Sl Seen × Int) : Prop := KB r.1.D ∧ (r.1.nil = true → r.1.D = []) ∧ r.1.D.length ≤ 6
theorem good_nil (e : Int) : Good (Sl.mk true [], e) := ⟨(fun _ h => nomatch h), fun _ => rfl, Nat.zero_le _⟩
theorem chk_good {X : Sl Seen} (hX : KB X.D) (hn : X.nil = true → X.D = []) (hl : X.D.length ≤ 1000000) : Good (chk X) := by
  unfold chk
  cases e : (pRight X != 0)
  · have e0 : pRight X = 0 := by simpa using e
    exact ⟨hX, hn, ((pRight_zero hX hl).1 e0).1⟩
  · exact good_nil _
/-- The list that See makes. -/
def seeX (l : Sl Seen) (k : Nat → Int) (v : Int) : Sl Seen :=
  bif l.nil then (bif v == 0 then Sl.mk true [] else Sl.mk false [Seen.mk k v])
  else bif (place l k).2 then Sl.mk false (l.D.set ((place l k).1).toNat (Seen.mk (ofL [(l.D[((place l k).1).toNat]!.key 0), (l.D[((place l k).1).toNat]!.key 1), (l.D[((place l k).1).toNat]!.key 2), (l.D[((place l k).1).toNat]!.key 3), (l.D[((place l k).1).toNat]!.key 4), (l.D[((place l k).1).toNat]!.key 5), (l.D[((place l k).1).toNat]!.key 6), (l.D[((place l k).1).toNat]!.key 7)]) (bif (decide ((l.D[((place l k).1).toNat]!.ver) < v)) then v else (l.D[((place l k).1).toNat]!.ver))))
  else bif v == 0 then Sl.mk false l.D else Sl.mk false (insertL l.D ((place l k).1).toNat [Seen.mk k v])
def badKV (k : Nat → Int) (v : Int) : Bool := (shRight k != 0) || (decide (v < 0) || decide (v > 1099511627776))
theorem pSee_eq (l : Sl Seen) (k : Nat → Int) (v : Int) : pSee l k v = bif (pRight l) != 0 then (Sl.mk true [], pRight l) else bif badKV k v then (Sl.mk true [], 100) else chk (seeX l k v) := by
  unfold pSee badKV
  cases (pRight l != 0)
  · cases (shRight k != 0)
    · cases decide (v < 0)
      · cases decide (v > 1099511627776)
        · unfold seeX
          cases l.nil
          · cases (place l k).2
            · cases (v == 0) <;> rfl
            · rfl
          · cases (v == 0) <;> rfl
        · rfl
      · rfl
    · rfl
  · rfl
theorem seeX_ok {l : Sl Seen} {k : Nat → Int} (v : Int) (hl : KB l.D) (hk : KeyB k) (hl1 : l.D.length ≤ 1000) : KB (seeX l k v).D ∧ ((seeX l k v).nil = true → (seeX l k v).D = []) ∧ (seeX l k v).D.length ≤ 1001 := by
  have h6 : l.D.length ≤ 1000000 := by omega
  unfold seeX
  cases l.nil
  · rw [cond_false]
    cases e : (place l k).2
    · rw [cond_false]
      cases (v == 0)
      · exact ⟨KB_ins hl hk, (fun h => nomatch h), by show (insertL _ _ _).length ≤ _; rw [insertL_len (place_toNat h6)]; simp; omega⟩
      · exact ⟨hl, (fun h => nomatch h), by show l.D.length ≤ _; omega⟩
    · have := place_lt h6 e
      exact ⟨KB_setk hl (K8 (KB.at hl (by omega))), (fun h => nomatch h), by show (l.D.set _ _).length ≤ _; rw [List.length_set]; omega⟩
  · rw [cond_true]
    cases (v == 0)
    · exact ⟨KB_one hk, (fun h => nomatch h), by show ([_] : List Seen).length ≤ _; simp⟩
    · exact ⟨KB_nil, (fun _ => rfl), Nat.zero_le _⟩
theorem pSee_good {l : Sl Seen} {k : Nat → Int} {v : Int} (hl : KB l.D) (hk : KeyB k) (hl1 : l.D.length ≤ 1000) : Good (pSee l k v) := by
  rw [pSee_eq]
  cases (pRight l != 0)
  · cases badKV k v
    · obtain ⟨h1, h2, h3⟩ := seeX_ok v hl hk hl1
      exact chk_good h1 h2 (by omega)
    · exact good_nil _
  · exact good_nil _
theorem pSee_ok {l : Sl Seen} {k : Nat → Int} {v : Int} (hl : KB l.D) (hk : KeyB k) (_hn : l.nil = true → l.D = []) (hl1 : l.D.length ≤ 1000) : KB (pSee l k v).1.D ∧ ((pSee l k v).1.nil = true → (pSee l k v).1.D = []) ∧ (pSee l k v).1.D.length ≤ 1000 := by
  obtain ⟨h1, h2, h3⟩ := pSee_good (v := v) hl hk hl1
  exact ⟨h1, h2, by omega⟩
theorem KeyB_congr {j k : Nat → Int} (h : kL j = kL k) (hj : KeyB j) : KeyB k := fun t ht => by
  have hx := hj t ht
  simp only [kL_def, List.cons.injEq, and_true] at h
  rcases (by omega : t = 0 ∨ t = 1 ∨ t = 2 ∨ t = 3 ∨ t = 4 ∨ t = 5 ∨ t = 6 ∨ t = 7) with rfl | rfl | rfl | rfl | rfl | rfl | rfl | rfl
  · rw [← h.1]; exact hx
  · rw [← h.2.1]; exact hx
  · rw [← h.2.2.1]; exact hx
  · rw [← h.2.2.2.1]; exact hx
  · rw [← h.2.2.2.2.1]; exact hx
  · rw [← h.2.2.2.2.2.1]; exact hx
  · rw [← h.2.2.2.2.2.2.1]; exact hx
  · rw [← h.2.2.2.2.2.2.2]; exact hx
def nameK (D : List Int) : (Nat → Int) :=
  (cpF D 8 (ofL [(0 : Int), 0, 0, 0, 0, 0, 0, 0]))
theorem nameK_calls (D : List Int) (hD : ∀ x ∈ D, 0 ≤ x ∧ x < 256) : PCalls Tryd.prog 32 [.pv (.lit (.string (strOf D)))] (.agg [.pv (.lit (.int .u8 ((nameK D) 0))), .pv (.lit (.int .u8 ((nameK D) 1))), .pv (.lit (.int .u8 ((nameK D) 2))), .pv (.lit (.int .u8 ((nameK D) 3))), .pv (.lit (.int .u8 ((nameK D) 4))), .pv (.lit (.int .u8 ((nameK D) 5))), .pv (.lit (.int .u8 ((nameK D) 6))), .pv (.lit (.int .u8 ((nameK D) 7)))]) := by
 generalize hR : nameK D = R
 refine PCalls.of_body tabOk Tryd.func32 rfl rfl rfl rfl rfl mixed fun E hP C hI => ?_
 refine Awp.consP C ?_
 refine rvc_un (rexec_prim C (δ := { v := .ptr 2 0, new := [(2, .cells [.pv (.lit (.int .u8 0)), .pv (.lit (.int .u8 0)), .pv (.lit (.int .u8 0)), .pv (.lit (.int .u8 0)), .pv (.lit (.int .u8 0)), .pv (.lit (.int .u8 0)), .pv (.lit (.int .u8 0)), .pv (.lit (.int .u8 0))])] }) rfl rfl rfl rfl trivial rfl ?_)
 refine rvc_nil ?_
 refine Awp.consP C ?_
 refine rvc_un (rexec_prim C (δ := { v := .ptr 3 0, new := [(3, .cells [.pv (.lit (.int .u8 0)), .pv (.lit (.int .u8 0)), .pv (.lit (.int .u8 0)), .pv (.lit (.int .u8 0)), .pv (.lit (.int .u8 0)), .pv (.lit (.int .u8 0)), .pv (.lit (.int .u8 0)), .pv (.lit (.int .u8 0))])] }) rfl rfl rfl rfl trivial rfl ?_)
 refine rvc_nil ?_
 refine Awp.consP C ?_
 refine rvc_un (rexec_prim C (δ := { v := .sl 3 0 8 1 true }) rfl rfl rfl rfl ⟨by decide, Nat.le_of_ble_eq_true rfl, .inl rfl⟩ rfl ?_)
 refine rvP C (.pv (.lit (.string (strOf D)))) ?_
 refine rvc_un (rexec_copyStr C rfl rfl rfl rfl rfl rfl rfl (f := (ofL [(0 : Int), 0, 0, 0, 0, 0, 0, 0])) (D := D) hD rfl rfl ?_)
 refine rvc_nil ?_
 refine Awp.consP C ?_
 refine rvP C (.agg [.pv (.lit (.int .u8 ((cpF D 8 (ofL [(0 : Int), 0, 0, 0, 0, 0, 0, 0])) 0))), .pv (.lit (.int .u8 ((cpF D 8 (ofL [(0 : Int), 0, 0, 0, 0, 0, 0, 0])) 1))), .pv (.lit (.int .u8 ((cpF D 8 (ofL [(0 : Int), 0, 0, 0, 0, 0, 0, 0])) 2))), .pv (.lit (.int .u8 ((cpF D 8 (ofL [(0 : Int), 0, 0, 0, 0, 0, 0, 0])) 3))), .pv (.lit (.int .u8 ((cpF D 8 (ofL [(0 : Int), 0, 0, 0, 0, 0, 0, 0])) 4))), .pv (.lit (.int .u8 ((cpF D 8 (ofL [(0 : Int), 0, 0, 0, 0, 0, 0, 0])) 5))), .pv (.lit (.int .u8 ((cpF D 8 (ofL [(0 : Int), 0, 0, 0, 0, 0, 0, 0])) 6))), .pv (.lit (.int .u8 ((cpF D 8 (ofL [(0 : Int), 0, 0, 0, 0, 0, 0, 0])) 7)))]) ?_
 refine rvc_un (rexec_prim C (δ := { v := .undef, wr := [(2, some (.cells [.pv (.lit (.int .u8 ((cpF D 8 (ofL [(0 : Int), 0, 0, 0, 0, 0, 0, 0])) 0))), .pv (.lit (.int .u8 ((cpF D 8 (ofL [(0 : Int), 0, 0, 0, 0, 0, 0, 0])) 1))), .pv (.lit (.int .u8 ((cpF D 8 (ofL [(0 : Int), 0, 0, 0, 0, 0, 0, 0])) 2))), .pv (.lit (.int .u8 ((cpF D 8 (ofL [(0 : Int), 0, 0, 0, 0, 0, 0, 0])) 3))), .pv (.lit (.int .u8 ((cpF D 8 (ofL [(0 : Int), 0, 0, 0, 0, 0, 0, 0])) 4))), .pv (.lit (.int .u8 ((cpF D 8 (ofL [(0 : Int), 0, 0, 0, 0, 0, 0, 0])) 5))), .pv (.lit (.int .u8 ((cpF D 8 (ofL [(0 : Int), 0, 0, 0, 0, 0, 0, 0])) 6))), .pv (.lit (.int .u8 ((cpF D 8 (ofL [(0 : Int), 0, 0, 0, 0, 0, 0, 0])) 7)))]))] }) rfl rfl rfl rfl trivial rfl ?_)
 refine rvc_nil ?_
 refine Awp.ret ?_
 subst hR
 exact ⟨.inl rfl, rfl⟩
def eqSeen_l0 (s2 : (Sl Seen)) : List Seen → Nat → Bool
  | [], _ => true
  | x :: xs, i => (bif (!((((x.key 0) == (s2.D[(i : Int).toNat]!.key 0)) && (((x.key 1) == (s2.D[(i : Int).toNat]!.key 1)) && (((x.key 2) == (s2.D[(i : Int).toNat]!.key 2)) && (((x.key 3) == (s2.D[(i : Int).toNat]!.key 3)) && (((x.key 4) == (s2.D[(i : Int).toNat]!.key 4)) && (((x.key 5) == (s2.D[(i : Int).toNat]!.key 5)) && (((x.key 6) == (s2.D[(i : Int).toNat]!.key 6)) && (((x.key 7) == (s2.D[(i : Int).toNat]!.key 7)) && true)))))))) && ((x.ver == (s2.D[(i : Int).toNat]!.ver)) && true))) then false else eqSeen_l0 s2 xs (i + 1) )
def eqSeen (s1 : (Sl Seen)) (s2 : (Sl Seen)) : Bool :=
  (bif ((s1.D.length : Int) != (s2.D.length : Int)) then false else eqSeen_l0 s2 s1.D 0 )
theorem eqSeen_calls (s1 : (Sl Seen)) (s2 : (Sl Seen)) (hl1 : s1.D.length ≤ 1000000) : PCalls Tryd.prog 18 [sS (some s1.nil) eSeen s1.D, sS (some s2.nil) eSeen s2.D] (.pv (.lit (.bool (eqSeen s1 s2)))) := by
 generalize hR : eqSeen s1 s2 = R
 refine PCalls.of_body tabOk Tryd.func18 rfl rfl rfl rfl rfl mixed fun E hP C hI => ?_
 refine Awp.consP C ?_
 refine rvP C (.pv (.lit (.bool false))) ?_
 refine rvc_nil ?_
 refine Awp.seq ?_
 refine Awp.consP C ?_
 refine rvP C (sS (some s1.nil) eSeen s1.D) ?_
 refine rvP C (.pv (.lit (.int .i64 (s1.D.length : Int)))) ?_
 refine rvP C (sS (some s2.nil) eSeen s2.D) ?_
 refine rvP C (.pv (.lit (.int .i64 (s2.D.length : Int)))) ?_
 refine rvP C (.pv (.lit (.bool ((s1.D.length : Int) != (s2.D.length : Int))))) ?_
 refine rvc_nil ?_
 refine Awp.cond (b := ((s1.D.length : Int) != (s2.D.length : Int))) rfl (fun h1 => ?_) (fun h1 => ?_)
 ·
  replace hR := of_true h1 hR
  refine Awp.consP C ?_
  refine rvP C (.pv (.lit (.bool false))) ?_
  refine rvc_nil ?_
  refine Awp.ret ?_
  subst hR
  exact ⟨.inl rfl, rfl⟩
 ·
  replace hR := of_false h1 hR
  refine Awp.skip ?_
  refine Awp.seq ?_
  refine Awp.consP C ?_
  refine rvP C (sS (some s1.nil) eSeen s1.D) ?_
  refine rvP C (.pv (.lit (.int .i64 (s1.D.length : Int)))) ?_
  refine rvP C (.pv (.lit (.int .i64 0))) ?_
  refine rvc_nil ?_
  refine Awp.block ?_
  refine Awp.forR (σ := Unit) (s1.D.length) (fun i _v => [(0, sS (some s1.nil) eSeen s1.D), (1, sS (some s2.nil) eSeen s2.D), (12, .pv (.lit (.int .i64 (s1.D.length : Int)))), (13, .pv (.lit (.int .i64 (i : Int))))]) (fun i _v => []) [] (fun i _v => eqSeen_l0 s2 (s1.D.drop i) i  = R) () ?_ ?_ (fun i _v h2 hR => ?_)
  · exact hR
  · exact ⟨fun b => b, WeakerR.ofL (Ks := []) hI ⟨⟨rfl, rfl⟩, ⟨rfl, rfl⟩, ⟨rfl, rfl⟩, ⟨rfl, rfl⟩, trivial⟩ (okH_nil) rfl⟩
  refine Awp.consP C ?_
  refine rvP C (.pv (.lit (.bool (decide ((i : Int) < (s1.D.length : Int)))))) ?_
  refine rvc_nil ?_
  refine Awp.seq ?_
  refine Awp.cond (b := (decide ((i : Int) < (s1.D.length : Int)))) rfl (fun h3 => ?_) (fun h3 => ?_)
  ·
   have h4 : i < s1.D.length := by have := of_decide_eq_true h3; omega
   obtain ⟨x, h5⟩ := getX h4
   rw [drop_at h5] at hR
   refine Awp.skip ?_
   refine Awp.seq ?_
   refine Awp.block ?_
   refine Awp.consP C ?_
   refine rvP C (.pv (.lit (.int .i64 (i : Int)))) ?_
   refine rvP C (.pv (.lit (.int .i64 (i : Int)))) ?_
   refine rvc_nil ?_
   refine Awp.consP C ?_
   refine rvP C (sS (some s1.nil) eSeen s1.D) ?_
   refine rvP C (.pv (.lit (.int .i64 (i : Int)))) ?_
   refine rvc_un (rexec_idxS C rfl rfl rfl rfl rfl rfl x (Int.natCast_nonneg _) h5 ?_)
   refine rvP C (.agg [.pv (.lit (.int .u8 (x.key 0))), .pv (.lit (.int .u8 (x.key 1))), .pv (.lit (.int .u8 (x.key 2))), .pv (.lit (.int .u8 (x.key 3))), .pv (.lit (.int .u8 (x.key 4))), .pv (.lit (.int .u8 (x.key 5))), .pv (.lit (.int .u8 (x.key 6))), .pv (.lit (.int .u8 (x.key 7))), .pv (.lit (.int .i64 x.ver))]) ?_
   refine rvP C (sS (some s2.nil) eSeen s2.D) ?_
   refine rvP C (.pv (.lit (.int .i64 (i : Int)))) ?_
   have h6 : s2.D[(i : Int).toNat]? = some s2.D[(i : Int).toNat]! := getE (by have := eq_of_bne_false h1; have := of_decide_eq_true h3; omega)
   refine rvc_un (rexec_idxS C rfl rfl rfl rfl rfl rfl (s2.D[(i : Int).toNat]!) (Int.natCast_nonneg _) h6 ?_)
   refine rvP C (.agg [.pv (.lit (.int .u8 (s2.D[(i : Int).toNat]!.key 0))), .pv (.lit (.int .u8 (s2.D[(i : Int).toNat]!.key 1))), .pv (.lit (.int .u8 (s2.D[(i : Int).toNat]!.key 2))), .pv (.lit (.int .u8 (s2.D[(i : Int).toNat]!.key 3))), .pv (.lit (.int .u8 (s2.D[(i : Int).toNat]!.key 4))), .pv (.lit (.int .u8 (s2.D[(i : Int).toNat]!.key 5))), .pv (.lit (.int .u8 (s2.D[(i : Int).toNat]!.key 6))), .pv (.lit (.int .u8 (s2.D[(i : Int).toNat]!.key 7))), .pv (.lit (.int .i64 (s2.D[(i : Int).toNat]!.ver)))]) ?_
   refine rvP C (.pv (.lit (.bool (!((((x.key 0) == (s2.D[(i : Int).toNat]!.key 0)) && (((x.key 1) == (s2.D[(i : Int).toNat]!.key 1)) && (((x.key 2) == (s2.D[(i : Int).toNat]!.key 2)) && (((x.key 3) == (s2.D[(i : Int).toNat]!.key 3)) && (((x.key 4) == (s2.D[(i : Int).toNat]!.key 4)) && (((x.key 5) == (s2.D[(i : Int).toNat]!.key 5)) && (((x.key 6) == (s2.D[(i : Int).toNat]!.key 6)) && (((x.key 7) == (s2.D[(i : Int).toNat]!.key 7)) && true)))))))) && ((x.ver == (s2.D[(i : Int).toNat]!.ver)) && true)))))) ?_
   refine rvc_nil ?_
   refine Awp.cond (b := (!((((x.key 0) == (s2.D[(i : Int).toNat]!.key 0)) && (((x.key 1) == (s2.D[(i : Int).toNat]!.key 1)) && (((x.key 2) == (s2.D[(i : Int).toNat]!.key 2)) && (((x.key 3) == (s2.D[(i : Int).toNat]!.key 3)) && (((x.key 4) == (s2.D[(i : Int).toNat]!.key 4)) && (((x.key 5) == (s2.D[(i : Int).toNat]!.key 5)) && (((x.key 6) == (s2.D[(i : Int).toNat]!.key 6)) && (((x.key 7) == (s2.D[(i : Int).toNat]!.key 7)) && true)))))))) && ((x.ver == (s2.D[(i : Int).toNat]!.ver)) && true)))) rfl (fun h7 => ?_) (fun h7 => ?_)
   ·
    replace hR := of_true h7 hR
    refine Awp.consP C ?_
    refine rvP C (.pv (.lit (.bool false))) ?_
    refine rvc_nil ?_
    refine Awp.ret ?_
    subst hR
    exact ⟨.inl rfl, rfl⟩
   ·
    replace hR := of_false h7 hR
    refine Awp.skip ?_
    refine Awp.regionP C ?_
    refine rvP C (.pv (.lit (.int .i64 (IntKind.i64.wrap ((i : Int) + 1))))) ?_
    refine rvP C (.pv (.lit (.int .i64 (IntKind.i64.wrap ((i : Int) + 1))))) ?_
    refine rvc_nil ?_
    refine ⟨h4, (), ?_, ?_⟩
    · exact hR
    · exact ⟨fun b => b, WeakerR.ofL (Ks := []) hI ⟨⟨rfl, rfl⟩, ⟨rfl, rfl⟩, ⟨rfl, rfl⟩, ⟨lit_cast (wrap_i64 (by omega) (by omega)), rfl⟩, trivial⟩ (okH_nil) rfl⟩
  ·
   have h4 : ¬ i < s1.D.length := by have := of_decide_eq_false h3; omega
   rw [drop_end h4] at hR
   refine Awp.exit ?_
   refine Awp.consP C ?_
   refine rvP C (.pv (.lit (.bool true))) ?_
   refine rvc_nil ?_
   refine Awp.ret ?_
   subst hR
   exact ⟨.inl rfl, rfl⟩
theorem name1_B (c : Int) (h : 0 ≤ c ∧ c < 256) : KeyB (nameK [c]) := fun j hj => by
  rcases (by omega : j = 0 ∨ j = 1 ∨ j = 2 ∨ j = 3 ∨ j = 4 ∨ j = 5 ∨ j = 6 ∨ j = 7) with rfl | rfl | rfl | rfl | rfl | rfl | rfl | rfl
  · exact h
  all_goals (show (0 : Int) ≤ 0 ∧ (0 : Int) < 256; decide)
theorem rng8 (c : Int) (h : 0 ≤ c ∧ c < 256) : ∀ x ∈ [c], 0 ≤ x ∧ x < 256 := fun x hx => by rw [List.mem_singleton.1 hx]; exact h
def pRead_l0 : Nat → Nat → (List Seen) → Reader → (Sl Seen) × Int
  | 0, _, l, vc => (bif ((rdEnd vc) != 0) then ((Sl.mk true []), 100) else (bif ((pRight (Sl.mk l.isEmpty l)) != 0) then ((Sl.mk true []), 100) else ((Sl.mk l.isEmpty l), 0)))
  | k + 1, i, l, vc => pRead_l0 k (i + 1) (l ++ [(Seen.mk (unword ((rdNum vc).2)) ((rdIn ((rdNum vc).1) 1 1099511627776).2))]) ((rdIn ((rdNum vc).1) 1 1099511627776).1)
def pRead (key : (Sl Int)) (b : (Sl Int)) : (Sl Seen) × Int :=
  (bif ((key.D.length : Int) != 16) then ((Sl.mk true []), 1) else (bif ((b.D.length : Int) == 0) then ((Sl.mk true []), 0) else (bif (decide ((b.D.length : Int) > 120)) then ((Sl.mk true []), 100) else (bif (decide ((b.D.length : Int) < 8)) then ((Sl.mk true []), 100) else (bif (((mark key (Sl.mk b.nil (b.D.take ((IntKind.i64.wrap ((b.D.length : Int) - 8)).toNat)))).2) != 0) then ((Sl.mk true []), 100) else (bif (!(eqBytes ((mark key (Sl.mk b.nil (b.D.take ((IntKind.i64.wrap ((b.D.length : Int) - 8)).toNat)))).1) (Sl.mk b.nil (b.D.drop ((IntKind.i64.wrap ((b.D.length : Int) - 8)).toNat))))) then ((Sl.mk true []), 100) else pRead_l0 (rdIn (rdNew (Sl.mk b.nil (b.D.take ((IntKind.i64.wrap ((b.D.length : Int) - 8)).toNat)))) 1 6).2.toNat 0 [] (rdIn (rdNew (Sl.mk b.nil (b.D.take ((IntKind.i64.wrap ((b.D.length : Int) - 8)).toNat)))) 1 6).1))))))
theorem pRead_calls (key : (Sl Int)) (b : (Sl Int))  : PCalls Tryd.prog 20 [sS (some key.nil) (eI .u8) key.D, sS (some b.nil) (eI .u8) b.D] (.tup [sS (some (pRead key b).1.nil) eSeen ((pRead key b).1.D), .pv (.lit (.int .i64 ((pRead key b).2)))]) := by
 generalize hR : pRead key b = R
 refine PCalls.of_body tabOk Tryd.func20 rfl rfl rfl rfl rfl mixed fun E hP C hI => ?_
 refine Awp.consP C ?_
 refine rvP C (sS (some true) eSeen []) ?_
 refine rvP C (.pv (.lit (.int .i64 0))) ?_
 refine rvc_nil ?_
 refine Awp.seq ?_
 refine Awp.consP C ?_
 refine rvP C (sS (some key.nil) (eI .u8) key.D) ?_
 refine rvP C (.pv (.lit (.int .i64 (key.D.length : Int)))) ?_
 refine rvP C (.pv (.lit (.bool ((key.D.length : Int) != 16)))) ?_
 refine rvc_nil ?_
 refine Awp.cond (b := ((key.D.length : Int) != 16)) rfl (fun h1 => ?_) (fun h1 => ?_)
 ·
  replace hR := of_true h1 hR
  refine Awp.consP C ?_
  refine rvP C (sS (some true) eSeen []) ?_
  refine rvP C (.pv (.lit (.int .i64 1))) ?_
  refine rvc_nil ?_
  refine Awp.ret ?_
  subst hR
  exact ⟨.inl rfl, rfl⟩
 ·
  replace hR := of_false h1 hR
  refine Awp.skip ?_
  refine Awp.seq ?_
  refine Awp.consP C ?_
  refine rvP C (sS (some b.nil) (eI .u8) b.D) ?_
  refine rvP C (.pv (.lit (.int .i64 (b.D.length : Int)))) ?_
  refine rvP C (.pv (.lit (.bool ((b.D.length : Int) == 0)))) ?_
  refine rvc_nil ?_
  refine Awp.cond (b := ((b.D.length : Int) == 0)) rfl (fun h2 => ?_) (fun h2 => ?_)
  ·
   replace hR := of_true h2 hR
   refine Awp.consP C ?_
   refine rvP C (sS (some true) eSeen []) ?_
   refine rvP C (.pv (.lit (.int .i64 0))) ?_
   refine rvc_nil ?_
   refine Awp.ret ?_
   subst hR
   exact ⟨.inl rfl, rfl⟩
  ·
   replace hR := of_false h2 hR
   refine Awp.skip ?_
   refine Awp.seq ?_
   refine Awp.consP C ?_
   refine rvP C (sS (some b.nil) (eI .u8) b.D) ?_
   refine rvP C (.pv (.lit (.int .i64 (b.D.length : Int)))) ?_
   refine rvP C (.pv (.lit (.bool (decide ((b.D.length : Int) > 120))))) ?_
   refine rvP C (.pv (.lit (.bool (decide ((b.D.length : Int) > 120))))) ?_
   refine rvc_case 20 (decide ((b.D.length : Int) > 120)) rfl (fun h3 => ?_) (fun h3 => ?_)
   ·
    replace hR := of_true h3 hR
    refine rvS ?_
    refine rvS ?_
    refine rvS ?_
    refine rvP C (.pv (.lit (.bool true))) ?_
    refine rvc_nil ?_
    refine Awp.condT (b := true) rfl rfl ?_
    refine Awp.consP C ?_
    refine rvP C (sS (some true) eSeen []) ?_
    refine rvP C (.pv (.lit (.int .i64 100))) ?_
    refine rvc_nil ?_
    refine Awp.ret ?_
    subst hR
    exact ⟨.inl rfl, rfl⟩
   ·
    replace hR := of_false h3 hR
    refine rvO C (sS (some b.nil) (eI .u8) b.D) ?_
    refine rvO C (.pv (.lit (.int .i64 (b.D.length : Int)))) ?_
    refine rvO C (.pv (.lit (.bool (decide ((b.D.length : Int) < 8))))) ?_
    refine rvP C (.pv (.lit (.bool (decide ((b.D.length : Int) < 8))))) ?_
    refine rvc_nil ?_
    refine Awp.cond (b := (decide ((b.D.length : Int) < 8))) rfl (fun h4 => ?_) (fun h4 => ?_)
    ·
     replace hR := of_true h4 hR
     refine Awp.consP C ?_
     refine rvP C (sS (some true) eSeen []) ?_
     refine rvP C (.pv (.lit (.int .i64 100))) ?_
     refine rvc_nil ?_
     refine Awp.ret ?_
     subst hR
     exact ⟨.inl rfl, rfl⟩
    ·
     replace hR := of_false h4 hR
     refine Awp.skip ?_
     refine Awp.consP C ?_
     refine rvP C (sS (some b.nil) (eI .u8) b.D) ?_
     refine rvP C (.pv (.lit (.int .i64 (b.D.length : Int)))) ?_
     refine rvP C (.pv (.lit (.int .i64 (IntKind.i64.wrap ((b.D.length : Int) - 8))))) ?_
     refine rvP C (.pv (.lit (.int .i64 (IntKind.i64.wrap ((b.D.length : Int) - 8))))) ?_
     refine rvc_nil ?_
     refine Awp.consP C ?_
     refine rvP C (sS (some key.nil) (eI .u8) key.D) ?_
     refine rvP C (sS (some b.nil) (eI .u8) b.D) ?_
     refine rvP C (.pv (.lit (.int .i64 (IntKind.i64.wrap ((b.D.length : Int) - 8))))) ?_
     have ha_ := wrapI ((b.D.length : Int) - 8)
     have h8_ := of_decide_eq_false ‹decide ((b.D.length : Int) < 8) = false›
     have h120_ := of_decide_eq_false ‹decide ((b.D.length : Int) > 120) = false›
     refine rvc_un (rexec_sliceS C (e := (eI .u8)) (D := b.D) 0 ((IntKind.i64.wrap ((b.D.length : Int) - 8)).toNat) rfl rfl rfl rfl rfl rfl rfl rfl rfl (by simp; omega) (by omega) (by omega) (b.D.take ((IntKind.i64.wrap ((b.D.length : Int) - 8)).toNat)) (by simp) ?_)
     refine rvc_un (rexec_call hP C rfl rfl rfl (mark_calls key (Sl.mk b.nil (b.D.take ((IntKind.i64.wrap ((b.D.length : Int) - 8)).toNat))) (by simp; omega)) ?_)
     refine rvP C (.tup [sS (some (mark key (Sl.mk b.nil (b.D.take ((IntKind.i64.wrap ((b.D.length : Int) - 8)).toNat)))).1.nil) (eI .u8) ((mark key (Sl.mk b.nil (b.D.take ((IntKind.i64.wrap ((b.D.length : Int) - 8)).toNat)))).1.D), .pv (.lit (.int .i64 ((mark key (Sl.mk b.nil (b.D.take ((IntKind.i64.wrap ((b.D.length : Int) - 8)).toNat)))).2)))]) ?_
     refine rvP C (sS (some (mark key (Sl.mk b.nil (b.D.take ((IntKind.i64.wrap ((b.D.length : Int) - 8)).toNat)))).1.nil) (eI .u8) ((mark key (Sl.mk b.nil (b.D.take ((IntKind.i64.wrap ((b.D.length : Int) - 8)).toNat)))).1.D)) ?_
     refine rvP C (.pv (.lit (.int .i64 ((mark key (Sl.mk b.nil (b.D.take ((IntKind.i64.wrap ((b.D.length : Int) - 8)).toNat)))).2)))) ?_
     refine rvP C (sS (some (mark key (Sl.mk b.nil (b.D.take ((IntKind.i64.wrap ((b.D.length : Int) - 8)).toNat)))).1.nil) (eI .u8) ((mark key (Sl.mk b.nil (b.D.take ((IntKind.i64.wrap ((b.D.length : Int) - 8)).toNat)))).1.D)) ?_
     refine rvP C (.pv (.lit (.int .i64 ((mark key (Sl.mk b.nil (b.D.take ((IntKind.i64.wrap ((b.D.length : Int) - 8)).toNat)))).2)))) ?_
     refine rvc_nil ?_
     refine Awp.seq ?_
     refine Awp.consP C ?_
     refine rvP C (.pv (.lit (.int .i64 ((mark key (Sl.mk b.nil (b.D.take ((IntKind.i64.wrap ((b.D.length : Int) - 8)).toNat)))).2)))) ?_
     refine rvP C (.pv (.lit (.bool (((mark key (Sl.mk b.nil (b.D.take ((IntKind.i64.wrap ((b.D.length : Int) - 8)).toNat)))).2) != 0)))) ?_
     refine rvP C (.pv (.lit (.bool (((mark key (Sl.mk b.nil (b.D.take ((IntKind.i64.wrap ((b.D.length : Int) - 8)).toNat)))).2) != 0)))) ?_
     refine rvc_case 38 (((mark key (Sl.mk b.nil (b.D.take ((IntKind.i64.wrap ((b.D.length : Int) - 8)).toNat)))).2) != 0) rfl (fun h5 => ?_) (fun h5 => ?_)
     ·
      replace hR := of_true h5 hR
      refine rvS ?_
      refine rvS ?_
      refine rvS ?_
      refine rvS ?_
      refine rvS ?_
      refine rvS ?_
      refine rvP C (.pv (.lit (.bool true))) ?_
      refine rvc_nil ?_
      refine Awp.condT (b := true) rfl rfl ?_
      refine Awp.consP C ?_
      refine rvP C (sS (some true) eSeen []) ?_
      refine rvP C (.pv (.lit (.int .i64 100))) ?_
      refine rvc_nil ?_
      refine Awp.ret ?_
      subst hR
      exact ⟨.inl rfl, rfl⟩
     ·
      replace hR := of_false h5 hR
      refine rvO C (sS (some (mark key (Sl.mk b.nil (b.D.take ((IntKind.i64.wrap ((b.D.length : Int) - 8)).toNat)))).1.nil) (eI .u8) ((mark key (Sl.mk b.nil (b.D.take ((IntKind.i64.wrap ((b.D.length : Int) - 8)).toNat)))).1.D)) ?_
      refine rvO C (sS (some b.nil) (eI .u8) b.D) ?_
      refine rvO C (.pv (.lit (.int .i64 (IntKind.i64.wrap ((b.D.length : Int) - 8))))) ?_
      refine rvc_open rfl rfl rfl (rexec_sliceS C (e := (eI .u8)) (D := b.D) ((IntKind.i64.wrap ((b.D.length : Int) - 8)).toNat) b.D.length rfl rfl rfl rfl rfl rfl rfl rfl (by simp; omega) rfl (by omega) (by omega) (b.D.drop ((IntKind.i64.wrap ((b.D.length : Int) - 8)).toNat)) (by rw [List.take_of_length_le (by simp)]) ?_)
      refine rvc_open rfl rfl rfl (rexec_call hP C rfl rfl rfl (eqBytes_calls ((mark key (Sl.mk b.nil (b.D.take ((IntKind.i64.wrap ((b.D.length : Int) - 8)).toNat)))).1) (Sl.mk b.nil (b.D.drop ((IntKind.i64.wrap ((b.D.length : Int) - 8)).toNat)))) ?_)
      refine rvO C (.pv (.lit (.bool (!(eqBytes ((mark key (Sl.mk b.nil (b.D.take ((IntKind.i64.wrap ((b.D.length : Int) - 8)).toNat)))).1) (Sl.mk b.nil (b.D.drop ((IntKind.i64.wrap ((b.D.length : Int) - 8)).toNat)))))))) ?_
      refine rvP C (.pv (.lit (.bool (!(eqBytes ((mark key (Sl.mk b.nil (b.D.take ((IntKind.i64.wrap ((b.D.length : Int) - 8)).toNat)))).1) (Sl.mk b.nil (b.D.drop ((IntKind.i64.wrap ((b.D.length : Int) - 8)).toNat)))))))) ?_
      refine rvc_nil ?_
      refine Awp.cond (b := (!(eqBytes ((mark key (Sl.mk b.nil (b.D.take ((IntKind.i64.wrap ((b.D.length : Int) - 8)).toNat)))).1) (Sl.mk b.nil (b.D.drop ((IntKind.i64.wrap ((b.D.length : Int) - 8)).toNat)))))) rfl (fun h6 => ?_) (fun h6 => ?_)
      ·
       replace hR := of_true h6 hR
       refine Awp.consP C ?_
       refine rvP C (sS (some true) eSeen []) ?_
       refine rvP C (.pv (.lit (.int .i64 100))) ?_
       refine rvc_nil ?_
       refine Awp.ret ?_
       subst hR
       exact ⟨.inl rfl, rfl⟩
      ·
       replace hR := of_false h6 hR
       refine Awp.skip ?_
       refine Awp.cons C (fun _ => .quiet) (by kernel_rfl) ?_
       refine rvP C (sS (some b.nil) (eI .u8) b.D) ?_
       refine rvP C (.pv (.lit (.int .i64 (IntKind.i64.wrap ((b.D.length : Int) - 8))))) ?_
       refine rvc_un (rexec_sliceS C (e := (eI .u8)) (D := b.D) 0 ((IntKind.i64.wrap ((b.D.length : Int) - 8)).toNat) rfl rfl rfl rfl rfl rfl rfl rfl rfl (by simp; omega) (by omega) (by omega) (b.D.take ((IntKind.i64.wrap ((b.D.length : Int) - 8)).toNat)) (by simp) ?_)
       refine rvc_un (rexec_callO hP C rfl rfl rfl rfl (rdNew_calls (Sl.mk b.nil (b.D.take ((IntKind.i64.wrap ((b.D.length : Int) - 8)).toNat))) (by simp; omega)) ?_)
       refine rvP C (.ptr 49 0) ?_
       refine rvc_nil ?_
       refine Awp.consP C ?_
       refine rvP C (sS (some true) eSeen []) ?_
       refine rvc_nil ?_
       refine Awp.seq ?_
       refine Awp.cons C (fun _ => .writer) (by kernel_rfl) ?_
       refine rvP C (.ptr 49 0) ?_
       obtain ⟨q0, hq_q0⟩ : ∃ q_, q_ = (rdIn (rdNew (Sl.mk b.nil (b.D.take ((IntKind.i64.wrap ((b.D.length : Int) - 8)).toNat)))) 1 6) := ⟨_, rfl⟩
       have hc_q0 := (rdIn_calls (rdNew (Sl.mk b.nil (b.D.take ((IntKind.i64.wrap ((b.D.length : Int) - 8)).toNat)))) 1 6 (rdNew_ok _ (by simp; omega)))
       first | rw [← hq_q0] at hR hc_q0 | (unfold pRead at hR; rw [← hq_q0] at hR hc_q0)
       have hf0_q0 := rdIn_ok (rdNew (Sl.mk b.nil (b.D.take ((IntKind.i64.wrap ((b.D.length : Int) - 8)).toNat)))) 1 6 (rdNew_ok _ (by simp; omega))
       rw [← hq_q0] at hf0_q0
       have hf1_q0 := rdIn_hi (rdNew (Sl.mk b.nil (b.D.take ((IntKind.i64.wrap ((b.D.length : Int) - 8)).toNat)))) 1 6 (by decide)
       rw [← hq_q0] at hf1_q0
       refine rvc_un (rexec_callM hP C (b := 49) rfl rfl rfl hc_q0 rfl rfl ?_)
       refine rvP C (.pv (.lit (.int .i64 0))) ?_
       refine rvc_nil ?_
       refine Awp.block ?_
       refine Awp.forR (σ := ((List Seen)) × Reader) (q0.2.toNat) (fun i v => [(9, .ptr 49 0), (10, grow 900 eSeen v.1), (51, .pv (.lit (.int .i64 q0.2))), (52, .pv (.lit (.int .i64 (i : Int))))]) (fun i v => (growH 900 eSeen v.1 ++ ([(49, .cells [sS (some v.2.b.nil) (eI .u8) v.2.b.D, .pv (.lit (.int .i64 v.2.at_)), .pv (.lit (.int .i64 v.2.err)), .pv (.lit (.bool v.2.made))])]))) [49, 900] (fun i v => (pRead_l0 (q0.2.toNat - i) i v.1 v.2 = R) ∧ (okR v.2 ∧ KB v.1) ∧ (v.1.length ≤ i)) ([], q0.1) ?_ ?_ (fun i v h7 hR => ?_)
       · exact ⟨hR, ⟨hf0_q0, (fun _ h => nomatch h)⟩, (by first | omega | (simp <;> omega))⟩
       · exact ⟨fun b => b, WeakerR.ofL (Ks := [49, 900]) hI ⟨⟨rfl, rfl⟩, ⟨rfl, rfl⟩, ⟨rfl, rfl⟩, ⟨rfl, rfl⟩, trivial⟩ (okH_grow (fun hne => absurd rfl hne) rfl rfl (okH_cons rfl rfl rfl rfl (okH_nil))) rfl⟩
       obtain ⟨l, vc⟩ := v
       obtain ⟨hR, hV, hi_l⟩ := hR
       replace hi_l : l.length ≤ i := hi_l
       by_cases h8 : l = []
       ·
        refine Awp.wordsR [(9, .ptr 49 0), (10, sS (some l.isEmpty) eSeen l), (51, .pv (.lit (.int .i64 q0.2))), (52, .pv (.lit (.int .i64 (i : Int))))] [(49, .cells [sS (some vc.b.nil) (eI .u8) vc.b.D, .pv (.lit (.int .i64 vc.at_)), .pv (.lit (.int .i64 vc.err)), .pv (.lit (.bool vc.made))])] [49] (WeakerR.ofL (Ks := [49]) hI ⟨⟨rfl, rfl⟩, ⟨(by exact grow_at_nil (b := 900) (e := eSeen) (l := l) rfl h8), rfl⟩, ⟨rfl, rfl⟩, ⟨rfl, rfl⟩, trivial⟩ (okH_cons (look_nil h8 rfl) rfl rfl rfl (okH_nil)) rfl) ?_
        refine Awp.consP C ?_
        refine rvP C (.pv (.lit (.bool (decide ((i : Int) < q0.2))))) ?_
        refine rvc_nil ?_
        refine Awp.seq ?_
        refine Awp.cond (b := (decide ((i : Int) < q0.2))) rfl (fun h9 => ?_) (fun h9 => ?_)
        ·
         have h10 : i < q0.2.toNat := by have := of_decide_eq_true h9; omega
         obtain ⟨k, h11⟩ : ∃ k, q0.2.toNat - i = k + 1 := ⟨q0.2.toNat - i - 1, by omega⟩
         rw [h11] at hR
         refine Awp.skip ?_
         refine Awp.seq ?_
         refine Awp.block ?_
         refine Awp.region C (fun _ => .writer) (by kernel_rfl) ?_
         refine rvP C (sS (some l.isEmpty) eSeen l) ?_
         refine rvP C (.ptr 49 0) ?_
         refine rvc_un (rexec_callM hP C (b := 49) rfl rfl rfl (rdNum_calls vc hV.1) rfl rfl ?_)
         refine rvc_un (rexec_call hP C rfl rfl rfl (unword_calls ((rdNum vc).2)) ?_)
         refine rvP C (.ptr 49 0) ?_
         refine rvc_un (rexec_callM hP C (b := 49) rfl rfl rfl (rdIn_calls ((rdNum vc).1) 1 1099511627776 (rdNum_ok _ hV.1)) rfl rfl ?_)
         refine rvP C (.agg [.pv (.lit (.int .u8 ((unword ((rdNum vc).2)) 0))), .pv (.lit (.int .u8 ((unword ((rdNum vc).2)) 1))), .pv (.lit (.int .u8 ((unword ((rdNum vc).2)) 2))), .pv (.lit (.int .u8 ((unword ((rdNum vc).2)) 3))), .pv (.lit (.int .u8 ((unword ((rdNum vc).2)) 4))), .pv (.lit (.int .u8 ((unword ((rdNum vc).2)) 5))), .pv (.lit (.int .u8 ((unword ((rdNum vc).2)) 6))), .pv (.lit (.int .u8 ((unword ((rdNum vc).2)) 7))), .pv (.lit (.int .i64 ((rdIn ((rdNum vc).1) 1 1099511627776).2)))]) ?_
         refine rvc_un (rexec_buildSliceF C eSeen [(Seen.mk (unword ((rdNum vc).2)) ((rdIn ((rdNum vc).1) 1 1099511627776).2))] rfl rfl rfl rfl rfl rfl rfl (by decide) rfl ?_)
         refine rvc_un (rexec_appendG C rfl rfl rfl rfl rfl rfl rfl rfl (fun _ h => by cases h) rfl (en := eSeen) (l := l) (D := [(Seen.mk (unword ((rdNum vc).2)) ((rdIn ((rdNum vc).1) 1 1099511627776).2))]) rfl rfl h8 (by rw [h8]; rfl) (by simp) (by have := wrapI ((b.D.length : Int) - 8); have := eq_of_bne_false h1; have := ne_of_beq_false h2; have := of_decide_eq_false h3; have := of_decide_eq_false h4; have := eq_of_bne_false h5; have := of_decide_eq_true h9; first | omega | (simp <;> omega)) (by decide) (nn := (l ++ [(Seen.mk (unword ((rdNum vc).2)) ((rdIn ((rdNum vc).1) 1 1099511627776).2))]).length) (by simp) ?_)
         refine rvP C (.sl 62 0 ((l ++ [(Seen.mk (unword ((rdNum vc).2)) ((rdIn ((rdNum vc).1) 1 1099511627776).2))]).length) 9 false) ?_
         refine rvc_nil ?_
         refine Awp.regionP C ?_
         refine rvP C (.pv (.lit (.int .i64 (IntKind.i64.wrap ((i : Int) + 1))))) ?_
         refine rvP C (.pv (.lit (.int .i64 (IntKind.i64.wrap ((i : Int) + 1))))) ?_
         refine rvc_nil ?_
         refine ⟨h10, ((l ++ [(Seen.mk (unword ((rdNum vc).2)) ((rdIn ((rdNum vc).1) 1 1099511627776).2))]), (rdIn ((rdNum vc).1) 1 1099511627776).1), ?_, ?_⟩
         · exact ⟨(by rw [show q0.2.toNat - (i + 1) = k by omega]; exact hR), ⟨(rdIn_ok _ _ _ (rdNum_ok _ hV.1)), (KB_snoc hV.2 (unword_B _))⟩, (by first | omega | (simp <;> omega))⟩
         · exact ⟨fun b => bif b == 900 then 62 else (fun b => b) b, WeakerR.ofL (Ks := [49, 900]) hI ⟨⟨rfl, rfl⟩, ⟨grow_to rfl rfl app_ne rfl rfl, grow_within rfl⟩, ⟨rfl, rfl⟩, ⟨lit_cast (wrap_i64 (by omega) (by omega)), rfl⟩, trivial⟩ (okH_grow (fun _ => rfl) rfl rfl (okH_cons rfl rfl rfl rfl (okH_nil))) rfl⟩
        ·
         rw [show q0.2.toNat - i = 0 by have := of_decide_eq_false h9; omega] at hR
         refine Awp.exit ?_
         refine Awp.seq ?_
         refine Awp.cons C (fun _ => .writer) (by kernel_rfl) ?_
         refine rvP C (.ptr 49 0) ?_
         refine rvc_un (rexec_callM hP C (b := 49) rfl rfl rfl (rdEnd_calls vc) rfl rfl ?_)
         refine rvP C (.pv (.lit (.bool ((rdEnd vc) != 0)))) ?_
         refine rvP C (.pv (.lit (.bool ((rdEnd vc) != 0)))) ?_
         refine rvc_case 67 ((rdEnd vc) != 0) rfl (fun h12 => ?_) (fun h12 => ?_)
         ·
          replace hR := of_true h12 hR
          refine rvS ?_
          refine rvS ?_
          refine rvS ?_
          refine rvP C (.pv (.lit (.bool true))) ?_
          refine rvc_nil ?_
          refine Awp.condT (b := true) rfl rfl ?_
          refine Awp.consP C ?_
          refine rvP C (sS (some true) eSeen []) ?_
          refine rvP C (.pv (.lit (.int .i64 100))) ?_
          refine rvc_nil ?_
          refine Awp.ret ?_
          subst hR
          exact ⟨.inl rfl, rfl⟩
         ·
          replace hR := of_false h12 hR
          refine rvO C (sS (some l.isEmpty) eSeen l) ?_
          refine rvc_open rfl rfl rfl (rexec_call hP C rfl rfl rfl (pRight_calls (Sl.mk l.isEmpty l) hV.2 (by show l.length ≤ 1000000; have := wrapI ((b.D.length : Int) - 8); have := eq_of_bne_false h1; have := ne_of_beq_false h2; have := of_decide_eq_false h3; have := of_decide_eq_false h4; have := eq_of_bne_false h5; have := of_decide_eq_false h9; have := eq_of_bne_false h12; omega)) ?_)
          refine rvO C (.pv (.lit (.bool ((pRight (Sl.mk l.isEmpty l)) != 0)))) ?_
          refine rvP C (.pv (.lit (.bool ((pRight (Sl.mk l.isEmpty l)) != 0)))) ?_
          refine rvc_nil ?_
          refine Awp.cond (b := ((pRight (Sl.mk l.isEmpty l)) != 0)) rfl (fun h13 => ?_) (fun h13 => ?_)
          ·
           replace hR := of_true h13 hR
           refine Awp.consP C ?_
           refine rvP C (sS (some true) eSeen []) ?_
           refine rvP C (.pv (.lit (.int .i64 100))) ?_
           refine rvc_nil ?_
           refine Awp.ret ?_
           subst hR
           exact ⟨.inl rfl, rfl⟩
          ·
           replace hR := of_false h13 hR
           refine Awp.skip ?_
           refine Awp.consP C ?_
           refine rvP C (sS (some l.isEmpty) eSeen l) ?_
           refine rvP C (sS (some l.isEmpty) eSeen l) ?_
           refine rvP C (.pv (.lit (.int .i64 0))) ?_
           refine rvc_nil ?_
           refine Awp.ret ?_
           subst hR
           exact ⟨.inl rfl, rfl⟩
       ·
        refine Awp.wordsR [(9, .ptr 49 0), (10, .sl 900 0 l.length 9 false), (51, .pv (.lit (.int .i64 q0.2))), (52, .pv (.lit (.int .i64 (i : Int))))] [(900, .cells (encC eSeen l)), (49, .cells [sS (some vc.b.nil) (eI .u8) vc.b.D, .pv (.lit (.int .i64 vc.at_)), .pv (.lit (.int .i64 vc.err)), .pv (.lit (.bool vc.made))])] [49, 900] (WeakerR.ofL (Ks := [49, 900]) hI ⟨⟨rfl, rfl⟩, ⟨(by exact grow_at_cons (b := 900) (b' := 900) (e := eSeen) (l := l) rfl h8 rfl rfl rfl), rfl⟩, ⟨rfl, rfl⟩, ⟨rfl, rfl⟩, trivial⟩ (okH_list (look_cons h8 rfl) rfl rfl (okH_cons (look_cons h8 rfl) rfl rfl rfl (okH_nil))) rfl) ?_
        refine Awp.consP C ?_
        refine rvP C (.pv (.lit (.bool (decide ((i : Int) < q0.2))))) ?_
        refine rvc_nil ?_
        refine Awp.seq ?_
        refine Awp.cond (b := (decide ((i : Int) < q0.2))) rfl (fun h14 => ?_) (fun h14 => ?_)
        ·
         have h15 : i < q0.2.toNat := by have := of_decide_eq_true h14; omega
         obtain ⟨k, h16⟩ : ∃ k, q0.2.toNat - i = k + 1 := ⟨q0.2.toNat - i - 1, by omega⟩
         rw [h16] at hR
         refine Awp.skip ?_
         refine Awp.seq ?_
         refine Awp.block ?_
         refine Awp.region C (fun _ => .writer) (by kernel_rfl) ?_
         refine rvP C (.sl 900 0 l.length 9 false) ?_
         refine rvP C (.ptr 49 0) ?_
         refine rvc_un (rexec_callM hP C (b := 49) rfl rfl rfl (rdNum_calls vc hV.1) rfl rfl ?_)
         refine rvc_un (rexec_call hP C rfl rfl rfl (unword_calls ((rdNum vc).2)) ?_)
         refine rvP C (.ptr 49 0) ?_
         refine rvc_un (rexec_callM hP C (b := 49) rfl rfl rfl (rdIn_calls ((rdNum vc).1) 1 1099511627776 (rdNum_ok _ hV.1)) rfl rfl ?_)
         refine rvP C (.agg [.pv (.lit (.int .u8 ((unword ((rdNum vc).2)) 0))), .pv (.lit (.int .u8 ((unword ((rdNum vc).2)) 1))), .pv (.lit (.int .u8 ((unword ((rdNum vc).2)) 2))), .pv (.lit (.int .u8 ((unword ((rdNum vc).2)) 3))), .pv (.lit (.int .u8 ((unword ((rdNum vc).2)) 4))), .pv (.lit (.int .u8 ((unword ((rdNum vc).2)) 5))), .pv (.lit (.int .u8 ((unword ((rdNum vc).2)) 6))), .pv (.lit (.int .u8 ((unword ((rdNum vc).2)) 7))), .pv (.lit (.int .i64 ((rdIn ((rdNum vc).1) 1 1099511627776).2)))]) ?_
         refine rvc_un (rexec_buildSliceF C eSeen [(Seen.mk (unword ((rdNum vc).2)) ((rdIn ((rdNum vc).1) 1 1099511627776).2))] rfl rfl rfl rfl rfl rfl rfl (by decide) rfl ?_)
         refine rvc_un (rexec_append C rfl rfl rfl rfl rfl rfl rfl rfl (fun _ h => by cases h) rfl (en := eSeen) (D0 := l) (D := [(Seen.mk (unword ((rdNum vc).2)) ((rdIn ((rdNum vc).1) 1 1099511627776).2))]) rfl rfl rfl rfl (by have := wrapI ((b.D.length : Int) - 8); have := eq_of_bne_false h1; have := ne_of_beq_false h2; have := of_decide_eq_false h3; have := of_decide_eq_false h4; have := eq_of_bne_false h5; have := of_decide_eq_true h14; first | omega | (simp <;> omega)) (by decide) (nn := (l ++ [(Seen.mk (unword ((rdNum vc).2)) ((rdIn ((rdNum vc).1) 1 1099511627776).2))]).length) (by simp) ?_)
         refine rvP C (.sl 62 0 ((l ++ [(Seen.mk (unword ((rdNum vc).2)) ((rdIn ((rdNum vc).1) 1 1099511627776).2))]).length) 9 false) ?_
         refine rvc_nil ?_
         refine Awp.regionP C ?_
         refine rvP C (.pv (.lit (.int .i64 (IntKind.i64.wrap ((i : Int) + 1))))) ?_
         refine rvP C (.pv (.lit (.int .i64 (IntKind.i64.wrap ((i : Int) + 1))))) ?_
         refine rvc_nil ?_
         refine ⟨h15, ((l ++ [(Seen.mk (unword ((rdNum vc).2)) ((rdIn ((rdNum vc).1) 1 1099511627776).2))]), (rdIn ((rdNum vc).1) 1 1099511627776).1), ?_, ?_⟩
         · exact ⟨(by rw [show q0.2.toNat - (i + 1) = k by omega]; exact hR), ⟨(rdIn_ok _ _ _ (rdNum_ok _ hV.1)), (KB_snoc hV.2 (unword_B _))⟩, (by first | omega | (simp <;> omega))⟩
         · exact ⟨fun b => bif b == 900 then 62 else (fun b => b) b, WeakerR.ofL (Ks := [49, 900]) hI ⟨⟨rfl, rfl⟩, ⟨grow_to rfl rfl app_ne rfl rfl, grow_within rfl⟩, ⟨rfl, rfl⟩, ⟨lit_cast (wrap_i64 (by omega) (by omega)), rfl⟩, trivial⟩ (okH_grow (fun _ => rfl) rfl rfl (okH_cons rfl rfl rfl rfl (okH_nil))) rfl⟩
        ·
         rw [show q0.2.toNat - i = 0 by have := of_decide_eq_false h14; omega] at hR
         refine Awp.exit ?_
         refine Awp.seq ?_
         refine Awp.freezeW 900 (encL eSeen l) ?_ [(9, .ptr 49 0), (10, sS (some l.isEmpty) eSeen l)] [(49, .cells [sS (some vc.b.nil) (eI .u8) vc.b.D, .pv (.lit (.int .i64 vc.at_)), .pv (.lit (.int .i64 vc.err)), .pv (.lit (.bool vc.made))])] ?_ ?_ ?_
         · rfl
         · exact ⟨⟨_, rfl, .inl (.inl rfl)⟩, ⟨_, rfl, .inl (.inr ⟨_, _, _, rfl, by rw [ne_isEmpty h8]; rfl⟩)⟩, trivial⟩
         · exact ⟨⟨(by show (49 : Nat) ≠ 900; decide), .inl rfl⟩, trivial⟩
         refine Awp.cons C (fun _ => .writer) (by kernel_rfl) ?_
         refine rvP C (.ptr 49 0) ?_
         refine rvc_un (rexec_callM hP C (b := 49) rfl rfl rfl (rdEnd_calls vc) rfl rfl ?_)
         refine rvP C (.pv (.lit (.bool ((rdEnd vc) != 0)))) ?_
         refine rvP C (.pv (.lit (.bool ((rdEnd vc) != 0)))) ?_
         refine rvc_case 67 ((rdEnd vc) != 0) rfl (fun h17 => ?_) (fun h17 => ?_)
         ·
          replace hR := of_true h17 hR
          refine rvS ?_
          refine rvS ?_
          refine rvS ?_
          refine rvP C (.pv (.lit (.bool true))) ?_
          refine rvc_nil ?_
          refine Awp.condT (b := true) rfl rfl ?_
          refine Awp.consP C ?_
          refine rvP C (sS (some true) eSeen []) ?_
          refine rvP C (.pv (.lit (.int .i64 100))) ?_
          refine rvc_nil ?_
          refine Awp.ret ?_
          subst hR
          exact ⟨.inl rfl, rfl⟩
         ·
          replace hR := of_false h17 hR
          refine rvO C (sS (some l.isEmpty) eSeen l) ?_
          refine rvc_open rfl rfl rfl (rexec_call hP C rfl rfl rfl (pRight_calls (Sl.mk l.isEmpty l) hV.2 (by show l.length ≤ 1000000; have := wrapI ((b.D.length : Int) - 8); have := eq_of_bne_false h1; have := ne_of_beq_false h2; have := of_decide_eq_false h3; have := of_decide_eq_false h4; have := eq_of_bne_false h5; have := of_decide_eq_false h14; have := eq_of_bne_false h17; omega)) ?_)
          refine rvO C (.pv (.lit (.bool ((pRight (Sl.mk l.isEmpty l)) != 0)))) ?_
          refine rvP C (.pv (.lit (.bool ((pRight (Sl.mk l.isEmpty l)) != 0)))) ?_
          refine rvc_nil ?_
          refine Awp.cond (b := ((pRight (Sl.mk l.isEmpty l)) != 0)) rfl (fun h18 => ?_) (fun h18 => ?_)
          ·
           replace hR := of_true h18 hR
           refine Awp.consP C ?_
           refine rvP C (sS (some true) eSeen []) ?_
           refine rvP C (.pv (.lit (.int .i64 100))) ?_
           refine rvc_nil ?_
           refine Awp.ret ?_
           subst hR
           exact ⟨.inl rfl, rfl⟩
          ·
           replace hR := of_false h18 hR
           refine Awp.skip ?_
           refine Awp.consP C ?_
           refine rvP C (sS (some l.isEmpty) eSeen l) ?_
           refine rvP C (sS (some l.isEmpty) eSeen l) ?_
           refine rvP C (.pv (.lit (.int .i64 0))) ?_
           refine rvc_nil ?_
           refine Awp.ret ?_
           subst hR
           exact ⟨.inl rfl, rfl⟩
def rpRead_l1 (kk : Int → Seen → ((Sl Seen) × Int)) : Nat → Nat → Int → Seen → (Sl Seen) × Int
  | 0, _, w, vc1 => kk w vc1
  | k1 + 1, i1, w, vc1 => rpRead_l1 kk k1 (i1 + 1) (IntKind.u64.wrap (w.tdiv 256)) (Seen.mk (updA vc1.key (IntKind.i64.wrap (7 - (i1 : Int))).toNat (IntKind.u8.wrap (w.tmod 256))) vc1.ver)
def rpRead_l0 (secret : (Sl Int)) (b : (Sl Int)) : Nat → Nat → (List Seen) → Reader69 → (Sl Seen) × Int
  | 0, _, l, vc => (bif ((rrEnd vc) != 0) then ((Sl.mk true []), 100) else (bif (((rpMake secret (Sl.mk l.isEmpty l)).2) != 0) then ((Sl.mk true []), 100) else (bif (!((strOf ((rpMake secret (Sl.mk l.isEmpty l)).1.D)).toList == (strOf b.D).toList)) then ((Sl.mk true []), 100) else ((Sl.mk l.isEmpty l), 0))))
  | k + 1, i, l, vc => rpRead_l1 (fun w1 vc2 => rpRead_l0 secret b k (i + 1) (l ++ [vc2]) ((rrIn ((rrNum vc).1) 1 1099511627776).1)) 8 0 ((rrNum vc).2) (Seen.mk (ofL [(0 : Int), 0, 0, 0, 0, 0, 0, 0]) ((rrIn ((rrNum vc).1) 1 1099511627776).2))
def rpRead (secret : (Sl Int)) (b : (Sl Int)) : (Sl Seen) × Int :=
  (bif ((secret.D.length : Int) != 16) then ((Sl.mk true []), 1) else (bif ((b.D.length : Int) == 0) then ((Sl.mk true []), 0) else (bif (decide ((b.D.length : Int) > 120)) then ((Sl.mk true []), 100) else (bif (decide ((b.D.length : Int) < 8)) then ((Sl.mk true []), 100) else rpRead_l0 secret b (rrIn (Reader69.mk (Sl.mk b.nil (b.D.take ((IntKind.i64.wrap ((b.D.length : Int) - 8)).toNat))) 0 0) 1 6).2.toNat 0 [] (rrIn (Reader69.mk (Sl.mk b.nil (b.D.take ((IntKind.i64.wrap ((b.D.length : Int) - 8)).toNat))) 0 0) 1 6).1))))
theorem rpRead_calls (secret : (Sl Int)) (b : (Sl Int)) (hk : R8l secret.D) : PCalls Tryd.prog 21 [sS (some secret.nil) (eI .u8) secret.D, sS (some b.nil) (eI .u8) b.D] (.tup [sS (some (rpRead secret b).1.nil) eSeen ((rpRead secret b).1.D), .pv (.lit (.int .i64 ((rpRead secret b).2)))]) := by
 generalize hR : rpRead secret b = R
 refine PCalls.of_body tabOk Tryd.func21 rfl rfl rfl rfl rfl mixed fun E hP C hI => ?_
 refine Awp.consP C ?_
 refine rvP C (sS (some true) eSeen []) ?_
 refine rvP C (.pv (.lit (.int .i64 0))) ?_
 refine rvc_nil ?_
 refine Awp.seq ?_
 refine Awp.consP C ?_
 refine rvP C (sS (some secret.nil) (eI .u8) secret.D) ?_
 refine rvP C (.pv (.lit (.int .i64 (secret.D.length : Int)))) ?_
 refine rvP C (.pv (.lit (.bool ((secret.D.length : Int) != 16)))) ?_
 refine rvc_nil ?_
 refine Awp.cond (b := ((secret.D.length : Int) != 16)) rfl (fun h1 => ?_) (fun h1 => ?_)
 ·
  replace hR := of_true h1 hR
  refine Awp.consP C ?_
  refine rvP C (sS (some true) eSeen []) ?_
  refine rvP C (.pv (.lit (.int .i64 1))) ?_
  refine rvc_nil ?_
  refine Awp.ret ?_
  subst hR
  exact ⟨.inl rfl, rfl⟩
 ·
  replace hR := of_false h1 hR
  refine Awp.skip ?_
  refine Awp.seq ?_
  refine Awp.consP C ?_
  refine rvP C (sS (some b.nil) (eI .u8) b.D) ?_
  refine rvP C (.pv (.lit (.int .i64 (b.D.length : Int)))) ?_
  refine rvP C (.pv (.lit (.bool ((b.D.length : Int) == 0)))) ?_
  refine rvc_nil ?_
  refine Awp.cond (b := ((b.D.length : Int) == 0)) rfl (fun h2 => ?_) (fun h2 => ?_)
  ·
   replace hR := of_true h2 hR
   refine Awp.consP C ?_
   refine rvP C (sS (some true) eSeen []) ?_
   refine rvP C (.pv (.lit (.int .i64 0))) ?_
   refine rvc_nil ?_
   refine Awp.ret ?_
   subst hR
   exact ⟨.inl rfl, rfl⟩
  ·
   replace hR := of_false h2 hR
   refine Awp.skip ?_
   refine Awp.seq ?_
   refine Awp.consP C ?_
   refine rvP C (sS (some b.nil) (eI .u8) b.D) ?_
   refine rvP C (.pv (.lit (.int .i64 (b.D.length : Int)))) ?_
   refine rvP C (.pv (.lit (.bool (decide ((b.D.length : Int) > 120))))) ?_
   refine rvP C (.pv (.lit (.bool (decide ((b.D.length : Int) > 120))))) ?_
   refine rvc_case 23 (decide ((b.D.length : Int) > 120)) rfl (fun h3 => ?_) (fun h3 => ?_)
   ·
    replace hR := of_true h3 hR
    refine rvS ?_
    refine rvS ?_
    refine rvS ?_
    refine rvP C (.pv (.lit (.bool true))) ?_
    refine rvc_nil ?_
    refine Awp.condT (b := true) rfl rfl ?_
    refine Awp.consP C ?_
    refine rvP C (sS (some true) eSeen []) ?_
    refine rvP C (.pv (.lit (.int .i64 100))) ?_
    refine rvc_nil ?_
    refine Awp.ret ?_
    subst hR
    exact ⟨.inl rfl, rfl⟩
   ·
    replace hR := of_false h3 hR
    refine rvO C (sS (some b.nil) (eI .u8) b.D) ?_
    refine rvO C (.pv (.lit (.int .i64 (b.D.length : Int)))) ?_
    refine rvO C (.pv (.lit (.bool (decide ((b.D.length : Int) < 8))))) ?_
    refine rvP C (.pv (.lit (.bool (decide ((b.D.length : Int) < 8))))) ?_
    refine rvc_nil ?_
    refine Awp.cond (b := (decide ((b.D.length : Int) < 8))) rfl (fun h4 => ?_) (fun h4 => ?_)
    ·
     replace hR := of_true h4 hR
     refine Awp.consP C ?_
     refine rvP C (sS (some true) eSeen []) ?_
     refine rvP C (.pv (.lit (.int .i64 100))) ?_
     refine rvc_nil ?_
     refine Awp.ret ?_
     subst hR
     exact ⟨.inl rfl, rfl⟩
    ·
     replace hR := of_false h4 hR
     refine Awp.skip ?_
     refine Awp.consP C ?_
     refine rvP C (sS (some b.nil) (eI .u8) b.D) ?_
     refine rvP C (sS (some b.nil) (eI .u8) b.D) ?_
     refine rvP C (.pv (.lit (.int .i64 (b.D.length : Int)))) ?_
     refine rvP C (.pv (.lit (.int .i64 (IntKind.i64.wrap ((b.D.length : Int) - 8))))) ?_
     have ha_ := wrapI ((b.D.length : Int) - 8)
     have h8_ := of_decide_eq_false ‹decide ((b.D.length : Int) < 8) = false›
     have h120_ := of_decide_eq_false ‹decide ((b.D.length : Int) > 120) = false›
     refine rvc_un (rexec_sliceS C (e := (eI .u8)) (D := b.D) 0 ((IntKind.i64.wrap ((b.D.length : Int) - 8)).toNat) rfl rfl rfl rfl rfl rfl rfl rfl rfl (by simp; omega) (by omega) (by omega) (b.D.take ((IntKind.i64.wrap ((b.D.length : Int) - 8)).toNat)) (by simp) ?_)
     refine rvP C (.agg [sS (some b.nil) (eI .u8) (b.D.take ((IntKind.i64.wrap ((b.D.length : Int) - 8)).toNat)), .pv (.lit (.int .i64 0)), .pv (.lit (.int .i64 0))]) ?_
     refine rvc_un (rexec_prim C (δ := { v := .ptr 34 0, new := [(34, .cells [sS (some b.nil) (eI .u8) (b.D.take ((IntKind.i64.wrap ((b.D.length : Int) - 8)).toNat)), .pv (.lit (.int .i64 0)), .pv (.lit (.int .i64 0))])] }) rfl rfl rfl rfl trivial rfl ?_)
     refine rvP C (.ptr 34 0) ?_
     refine rvc_nil ?_
     refine Awp.cons C (fun _ => .writer) (by kernel_rfl) ?_
     refine rvP C (.ptr 34 0) ?_
     obtain ⟨q0, hq_q0⟩ : ∃ q_, q_ = (rrIn (Reader69.mk (Sl.mk b.nil (b.D.take ((IntKind.i64.wrap ((b.D.length : Int) - 8)).toNat))) 0 0) 1 6) := ⟨_, rfl⟩
     have hc_q0 := (rrIn_calls (Reader69.mk (Sl.mk b.nil (b.D.take ((IntKind.i64.wrap ((b.D.length : Int) - 8)).toNat))) 0 0) 1 6 ⟨⟨Int.le_refl _, Int.natCast_nonneg _⟩, (by simp; omega)⟩)
     first | rw [← hq_q0] at hR hc_q0 | (unfold rpRead at hR; rw [← hq_q0] at hR hc_q0)
     have hf0_q0 := rrIn_ok (Reader69.mk (Sl.mk b.nil (b.D.take ((IntKind.i64.wrap ((b.D.length : Int) - 8)).toNat))) 0 0) 1 6 ⟨⟨Int.le_refl _, Int.natCast_nonneg _⟩, (by simp; omega)⟩
     rw [← hq_q0] at hf0_q0
     have hf1_q0 := rrIn_hi (Reader69.mk (Sl.mk b.nil (b.D.take ((IntKind.i64.wrap ((b.D.length : Int) - 8)).toNat))) 0 0) 1 6 (by decide)
     rw [← hq_q0] at hf1_q0
     refine rvc_un (rexec_callM hP C (b := 34) rfl rfl rfl hc_q0 rfl rfl ?_)
     refine rvP C (.pv (.lit (.int .i64 q0.2))) ?_
     refine rvc_nil ?_
     refine Awp.consP C ?_
     refine rvP C (sS (some true) eSeen []) ?_
     refine rvc_nil ?_
     refine Awp.seq ?_
     refine Awp.consP C ?_
     refine rvP C (.pv (.lit (.int .i64 q0.2))) ?_
     refine rvP C (.pv (.lit (.int .i64 0))) ?_
     refine rvc_nil ?_
     refine Awp.block ?_
     refine Awp.forR (σ := ((List Seen)) × Reader69) (q0.2.toNat) (fun i v => [(0, sS (some secret.nil) (eI .u8) secret.D), (1, sS (some b.nil) (eI .u8) b.D), (6, .ptr 34 0), (8, grow 900 eSeen v.1), (37, .pv (.lit (.int .i64 q0.2))), (38, .pv (.lit (.int .i64 (i : Int))))]) (fun i v => (growH 900 eSeen v.1 ++ ([(34, .cells [sS (some v.2.b.nil) (eI .u8) v.2.b.D, .pv (.lit (.int .i64 v.2.at_)), .pv (.lit (.int .i64 v.2.e_))])]))) [34, 900] (fun i v => (rpRead_l0 secret b (q0.2.toNat - i) i v.1 v.2 = R) ∧ (okRR v.2 ∧ KB v.1) ∧ (v.1.length ≤ i * 1)) ([], q0.1) ?_ ?_ (fun i v h5 hR => ?_)
     · exact ⟨hR, ⟨hf0_q0, (fun _ h => nomatch h)⟩, (by first | omega | (simp <;> omega))⟩
     · exact ⟨fun b => b, WeakerR.ofL (Ks := [34, 900]) hI ⟨⟨rfl, rfl⟩, ⟨rfl, rfl⟩, ⟨rfl, rfl⟩, ⟨rfl, rfl⟩, ⟨rfl, rfl⟩, ⟨rfl, rfl⟩, trivial⟩ (okH_grow (fun hne => absurd rfl hne) rfl rfl (okH_cons rfl rfl rfl rfl (okH_nil))) rfl⟩
     obtain ⟨l, vc⟩ := v
     obtain ⟨hR, hV, hi_l⟩ := hR
     replace hi_l : l.length ≤ i * 1 := hi_l
     by_cases h6 : l = []
     ·
      refine Awp.wordsR [(0, sS (some secret.nil) (eI .u8) secret.D), (1, sS (some b.nil) (eI .u8) b.D), (6, .ptr 34 0), (8, sS (some l.isEmpty) eSeen l), (37, .pv (.lit (.int .i64 q0.2))), (38, .pv (.lit (.int .i64 (i : Int))))] [(34, .cells [sS (some vc.b.nil) (eI .u8) vc.b.D, .pv (.lit (.int .i64 vc.at_)), .pv (.lit (.int .i64 vc.e_))])] [34] (WeakerR.ofL (Ks := [34]) hI ⟨⟨rfl, rfl⟩, ⟨rfl, rfl⟩, ⟨rfl, rfl⟩, ⟨(by exact grow_at_nil (b := 900) (e := eSeen) (l := l) rfl h6), rfl⟩, ⟨rfl, rfl⟩, ⟨rfl, rfl⟩, trivial⟩ (okH_cons (look_nil h6 rfl) rfl rfl rfl (okH_nil)) rfl) ?_
      refine Awp.consP C ?_
      refine rvP C (.pv (.lit (.bool (decide ((i : Int) < q0.2))))) ?_
      refine rvc_nil ?_
      refine Awp.seq ?_
      refine Awp.cond (b := (decide ((i : Int) < q0.2))) rfl (fun h7 => ?_) (fun h7 => ?_)
      ·
       have h8 : i < q0.2.toNat := by have := of_decide_eq_true h7; omega
       obtain ⟨k, h9⟩ : ∃ k, q0.2.toNat - i = k + 1 := ⟨q0.2.toNat - i - 1, by omega⟩
       rw [h9] at hR
       refine Awp.skip ?_
       refine Awp.seq ?_
       refine Awp.block ?_
       refine Awp.cons C (fun _ => .writer) (by kernel_rfl) ?_
       refine rvP C (.ptr 34 0) ?_
       refine rvc_un (rexec_callM hP C (b := 34) rfl rfl rfl (rrNum_calls vc hV.1) rfl rfl ?_)
       refine rvP C (.pv (.lit (.int .u64 ((rrNum vc).2)))) ?_
       refine rvc_nil ?_
       refine Awp.cons C (fun _ => .writer) (by kernel_rfl) ?_
       refine rvP C (.ptr 34 0) ?_
       refine rvc_un (rexec_callM hP C (b := 34) rfl rfl rfl (rrIn_calls ((rrNum vc).1) 1 1099511627776 (rrNum_ok _ hV.1)) rfl rfl ?_)
       refine rvP C (.agg [.pv (.lit (.int .u8 0)), .pv (.lit (.int .u8 0)), .pv (.lit (.int .u8 0)), .pv (.lit (.int .u8 0)), .pv (.lit (.int .u8 0)), .pv (.lit (.int .u8 0)), .pv (.lit (.int .u8 0)), .pv (.lit (.int .u8 0)), .pv (.lit (.int .i64 ((rrIn ((rrNum vc).1) 1 1099511627776).2)))]) ?_
       refine rvc_un (rexec_prim C (δ := { v := .ptr 10 0, new := [(10, .cells [.pv (.lit (.int .u8 0)), .pv (.lit (.int .u8 0)), .pv (.lit (.int .u8 0)), .pv (.lit (.int .u8 0)), .pv (.lit (.int .u8 0)), .pv (.lit (.int .u8 0)), .pv (.lit (.int .u8 0)), .pv (.lit (.int .u8 0)), .pv (.lit (.int .i64 0))])] }) rfl rfl rfl rfl trivial rfl ?_)
       refine rvc_un (rexec_prim C (δ := { v := .undef, wr := [(10, some (.cells [.pv (.lit (.int .u8 0)), .pv (.lit (.int .u8 0)), .pv (.lit (.int .u8 0)), .pv (.lit (.int .u8 0)), .pv (.lit (.int .u8 0)), .pv (.lit (.int .u8 0)), .pv (.lit (.int .u8 0)), .pv (.lit (.int .u8 0)), .pv (.lit (.int .i64 ((rrIn ((rrNum vc).1) 1 1099511627776).2)))]))] }) rfl rfl rfl rfl trivial rfl ?_)
       refine rvc_nil ?_
       refine Awp.seq ?_
       refine Awp.consP C ?_
       refine rvP C (.pv (.lit (.int .i64 0))) ?_
       refine rvc_nil ?_
       refine Awp.block ?_
       refine Awp.forR (σ := Int × Seen) (8) (fun i1 v => [(0, sS (some secret.nil) (eI .u8) secret.D), (1, sS (some b.nil) (eI .u8) b.D), (6, .ptr 34 0), (8, sS (some l.isEmpty) eSeen l), (9, .pv (.lit (.int .u64 v.1))), (10, .ptr 10 0), (37, .pv (.lit (.int .i64 q0.2))), (38, .pv (.lit (.int .i64 (i : Int)))), (45, .pv (.lit (.int .i64 (i1 : Int))))]) (fun i1 v => [(34, .cells [sS (some (rrIn ((rrNum vc).1) 1 1099511627776).1.b.nil) (eI .u8) ((rrIn ((rrNum vc).1) 1 1099511627776).1.b.D), .pv (.lit (.int .i64 ((rrIn ((rrNum vc).1) 1 1099511627776).1.at_))), .pv (.lit (.int .i64 ((rrIn ((rrNum vc).1) 1 1099511627776).1.e_)))]), (10, .cells [.pv (.lit (.int .u8 (v.2.key 0))), .pv (.lit (.int .u8 (v.2.key 1))), .pv (.lit (.int .u8 (v.2.key 2))), .pv (.lit (.int .u8 (v.2.key 3))), .pv (.lit (.int .u8 (v.2.key 4))), .pv (.lit (.int .u8 (v.2.key 5))), .pv (.lit (.int .u8 (v.2.key 6))), .pv (.lit (.int .u8 (v.2.key 7))), .pv (.lit (.int .i64 v.2.ver))])]) [10, 34] (fun i1 v => (rpRead_l1 (fun w vc1 => rpRead_l0 secret b k (i + 1) (l ++ [vc1]) ((rrIn ((rrNum vc).1) 1 1099511627776).1)) (8 - i1) i1 v.1 v.2 = R) ∧ (KeyB v.2.key)) ((rrNum vc).2, (Seen.mk (ofL [(0 : Int), 0, 0, 0, 0, 0, 0, 0]) ((rrIn ((rrNum vc).1) 1 1099511627776).2))) ?_ ?_ (fun i1 v h10 hR => ?_)
       · exact ⟨hR, Z8_B⟩
       · exact ⟨fun b => b, WeakerR.ofL (Ks := [10, 34]) hI ⟨⟨rfl, rfl⟩, ⟨rfl, rfl⟩, ⟨rfl, rfl⟩, ⟨rfl, rfl⟩, ⟨rfl, rfl⟩, ⟨rfl, rfl⟩, ⟨rfl, rfl⟩, ⟨rfl, rfl⟩, ⟨rfl, rfl⟩, trivial⟩ (okH_cons rfl rfl rfl rfl (okH_cons rfl rfl rfl rfl (okH_nil))) rfl⟩
       obtain ⟨w, vc1⟩ := v
       obtain ⟨hR, hW⟩ := hR
       refine Awp.consP C ?_
       refine rvP C (.pv (.lit (.bool (decide ((i1 : Int) < 8))))) ?_
       refine rvc_nil ?_
       refine Awp.seq ?_
       refine Awp.cond (b := (decide ((i1 : Int) < 8))) rfl (fun h11 => ?_) (fun h11 => ?_)
       ·
        have h12 : i1 < 8 := by have := of_decide_eq_true h11; omega
        obtain ⟨k1, h13⟩ : ∃ k, 8 - i1 = k + 1 := ⟨8 - i1 - 1, by omega⟩
        rw [h13] at hR
        refine Awp.skip ?_
        refine Awp.seq ?_
        refine Awp.block ?_
        refine Awp.consP C ?_
        refine rvP C (.pv (.lit (.int .i64 (i1 : Int)))) ?_
        refine rvP C (.pv (.lit (.int .i64 (i1 : Int)))) ?_
        refine rvc_nil ?_
        refine Awp.consP C ?_
        refine rvP C (.pv (.lit (.int .i64 (i1 : Int)))) ?_
        refine rvP C (.pv (.lit (.int .i64 (IntKind.i64.wrap (7 - (i1 : Int)))))) ?_
        refine rvP C (.pv (.lit (.int .u64 w))) ?_
        refine rvc_un (rexec_prim C (δ := { v := .pv (.lit (.int .u64 (w.tmod 256))) }) rfl rfl rfl rfl (by first | decide | omega) rfl ?_)
        refine rvP C (.pv (.lit (.int .u8 (IntKind.u8.wrap (w.tmod 256))))) ?_
        refine rvP C (.ptr 10 0) ?_
        refine rvc_un (rexec_prim C (δ := { v := .ptr 10 (0 + (IntKind.i64.wrap (7 - (i1 : Int))).toNat * 1) }) rfl rfl rfl rfl ⟨(by have := wrapI (7 - (i1 : Int)); have := eq_of_bne_false h1; have := ne_of_beq_false h2; have := of_decide_eq_false h3; have := of_decide_eq_false h4; have := of_decide_eq_true h7; have := of_decide_eq_true h11; omega), (by have := wrapI (7 - (i1 : Int)); have := eq_of_bne_false h1; have := ne_of_beq_false h2; have := of_decide_eq_false h3; have := of_decide_eq_false h4; have := of_decide_eq_true h7; have := of_decide_eq_true h11; omega)⟩ rfl ?_)
        refine rvc_un (rexec_storeA C [] [.pv (.lit (.int .i64 vc1.ver))] (fun z => .lit (.int .u8 z)) vc1.key 8 (IntKind.i64.wrap (7 - (i1 : Int))).toNat (IntKind.u8.wrap (w.tmod 256)) [.pv (.lit (.int .u8 ((updA vc1.key (IntKind.i64.wrap (7 - (i1 : Int))).toNat (IntKind.u8.wrap (w.tmod 256))) 0))), .pv (.lit (.int .u8 ((updA vc1.key (IntKind.i64.wrap (7 - (i1 : Int))).toNat (IntKind.u8.wrap (w.tmod 256))) 1))), .pv (.lit (.int .u8 ((updA vc1.key (IntKind.i64.wrap (7 - (i1 : Int))).toNat (IntKind.u8.wrap (w.tmod 256))) 2))), .pv (.lit (.int .u8 ((updA vc1.key (IntKind.i64.wrap (7 - (i1 : Int))).toNat (IntKind.u8.wrap (w.tmod 256))) 3))), .pv (.lit (.int .u8 ((updA vc1.key (IntKind.i64.wrap (7 - (i1 : Int))).toNat (IntKind.u8.wrap (w.tmod 256))) 4))), .pv (.lit (.int .u8 ((updA vc1.key (IntKind.i64.wrap (7 - (i1 : Int))).toNat (IntKind.u8.wrap (w.tmod 256))) 5))), .pv (.lit (.int .u8 ((updA vc1.key (IntKind.i64.wrap (7 - (i1 : Int))).toNat (IntKind.u8.wrap (w.tmod 256))) 6))), .pv (.lit (.int .u8 ((updA vc1.key (IntKind.i64.wrap (7 - (i1 : Int))).toNat (IntKind.u8.wrap (w.tmod 256))) 7))), .pv (.lit (.int .i64 vc1.ver))] rfl rfl rfl rfl rfl rfl (by have := wrapI (7 - (i1 : Int)); have := eq_of_bne_false h1; have := ne_of_beq_false h2; have := of_decide_eq_false h3; have := of_decide_eq_false h4; have := of_decide_eq_true h7; have := of_decide_eq_true h11; omega) rfl ?_)
        refine rvc_nil ?_
        refine Awp.regionP C ?_
        refine rvP C (.pv (.lit (.int .u64 w))) ?_
        refine rvc_un (rexec_prim C (δ := { v := .pv (.lit (.int .u64 (IntKind.u64.wrap (w.tdiv 256)))) }) rfl rfl rfl rfl (by first | decide | omega) rfl ?_)
        refine rvP C (.pv (.lit (.int .u64 (IntKind.u64.wrap (w.tdiv 256))))) ?_
        refine rvc_nil ?_
        refine Awp.regionP C ?_
        refine rvP C (.pv (.lit (.int .i64 (IntKind.i64.wrap ((i1 : Int) + 1))))) ?_
        refine rvP C (.pv (.lit (.int .i64 (IntKind.i64.wrap ((i1 : Int) + 1))))) ?_
        refine rvc_nil ?_
        refine ⟨h12, ((IntKind.u64.wrap (w.tdiv 256)), (Seen.mk (updA vc1.key (IntKind.i64.wrap (7 - (i1 : Int))).toNat (IntKind.u8.wrap (w.tmod 256))) vc1.ver)), ?_, ?_⟩
        · exact ⟨(by rw [show 8 - (i1 + 1) = k1 by omega]; exact hR), (KB_upd hW)⟩
        · exact ⟨fun b => b, WeakerR.ofL (Ks := [10, 34]) hI ⟨⟨rfl, rfl⟩, ⟨rfl, rfl⟩, ⟨rfl, rfl⟩, ⟨rfl, rfl⟩, ⟨rfl, rfl⟩, ⟨rfl, rfl⟩, ⟨rfl, rfl⟩, ⟨rfl, rfl⟩, ⟨lit_cast (wrap_i64 (by omega) (by omega)), rfl⟩, trivial⟩ (okH_cons rfl rfl rfl rfl (okH_cons rfl rfl rfl rfl (okH_nil))) rfl⟩
       ·
        rw [show 8 - i1 = 0 by have := of_decide_eq_false h11; omega] at hR
        refine Awp.exit ?_
        refine Awp.regionP C ?_
        refine rvP C (sS (some l.isEmpty) eSeen l) ?_
        refine rvP C (.agg [.pv (.lit (.int .u8 (vc1.key 0))), .pv (.lit (.int .u8 (vc1.key 1))), .pv (.lit (.int .u8 (vc1.key 2))), .pv (.lit (.int .u8 (vc1.key 3))), .pv (.lit (.int .u8 (vc1.key 4))), .pv (.lit (.int .u8 (vc1.key 5))), .pv (.lit (.int .u8 (vc1.key 6))), .pv (.lit (.int .u8 (vc1.key 7))), .pv (.lit (.int .i64 vc1.ver))]) ?_
        refine rvc_un (rexec_buildSliceF C eSeen [vc1] rfl rfl rfl rfl rfl rfl rfl (by decide) rfl ?_)
        refine rvc_un (rexec_appendG C rfl rfl rfl rfl rfl rfl rfl rfl (fun _ h => by cases h) rfl (en := eSeen) (l := l) (D := [vc1]) rfl rfl h6 (by rw [h6]; rfl) (by simp) (by have := eq_of_bne_false h1; have := ne_of_beq_false h2; have := of_decide_eq_false h3; have := of_decide_eq_false h4; have := of_decide_eq_true h7; have := of_decide_eq_false h11; first | omega | (simp <;> omega)) (by decide) (nn := (l ++ [vc1]).length) (by simp) ?_)
        refine rvP C (.sl 61 0 ((l ++ [vc1]).length) 9 false) ?_
        refine rvc_nil ?_
        refine Awp.regionP C ?_
        refine rvP C (.pv (.lit (.int .i64 (IntKind.i64.wrap ((i : Int) + 1))))) ?_
        refine rvP C (.pv (.lit (.int .i64 (IntKind.i64.wrap ((i : Int) + 1))))) ?_
        refine rvc_nil ?_
        refine ⟨h8, ((l ++ [vc1]), (rrIn ((rrNum vc).1) 1 1099511627776).1), ?_, ?_⟩
        · exact ⟨(by rw [show q0.2.toNat - (i + 1) = k by omega]; exact hR), ⟨(rrIn_ok _ _ _ (rrNum_ok _ hV.1)), (KB_snoc2 hV.2 hW)⟩, (by first | omega | (simp <;> omega))⟩
        · exact ⟨fun b => bif b == 900 then 61 else (fun b => b) b, WeakerR.ofL (Ks := [34, 900]) hI ⟨⟨rfl, rfl⟩, ⟨rfl, rfl⟩, ⟨rfl, rfl⟩, ⟨grow_to rfl rfl app_ne rfl rfl, grow_within rfl⟩, ⟨rfl, rfl⟩, ⟨lit_cast (wrap_i64 (by omega) (by omega)), rfl⟩, trivial⟩ (okH_grow (fun _ => rfl) rfl rfl (okH_cons rfl rfl rfl rfl (okH_nil))) rfl⟩
      ·
       rw [show q0.2.toNat - i = 0 by have := of_decide_eq_false h7; omega] at hR
       refine Awp.exit ?_
       refine Awp.seq ?_
       refine Awp.cons C (fun _ => .writer) (by kernel_rfl) ?_
       refine rvP C (.ptr 34 0) ?_
       refine rvc_un (rexec_callM hP C (b := 34) rfl rfl rfl (rrEnd_calls vc) rfl rfl ?_)
       refine rvP C (.pv (.lit (.bool ((rrEnd vc) != 0)))) ?_
       refine rvc_nil ?_
       refine Awp.cond (b := ((rrEnd vc) != 0)) rfl (fun h14 => ?_) (fun h14 => ?_)
       ·
        replace hR := of_true h14 hR
        refine Awp.consP C ?_
        refine rvP C (sS (some true) eSeen []) ?_
        refine rvP C (.pv (.lit (.int .i64 100))) ?_
        refine rvc_nil ?_
        refine Awp.ret ?_
        subst hR
        exact ⟨.inl rfl, rfl⟩
       ·
        replace hR := of_false h14 hR
        refine Awp.skip ?_
        refine Awp.consP C ?_
        refine rvP C (sS (some secret.nil) (eI .u8) secret.D) ?_
        refine rvP C (sS (some l.isEmpty) eSeen l) ?_
        refine rvc_un (rexec_call hP C rfl rfl rfl (rpMake_calls secret (Sl.mk l.isEmpty l) hk hV.2 (by show l.length ≤ 1000; omega)) ?_)
        refine rvP C (.tup [sS (some (rpMake secret (Sl.mk l.isEmpty l)).1.nil) (eI .u8) ((rpMake secret (Sl.mk l.isEmpty l)).1.D), .pv (.lit (.int .i64 ((rpMake secret (Sl.mk l.isEmpty l)).2)))]) ?_
        refine rvP C (sS (some (rpMake secret (Sl.mk l.isEmpty l)).1.nil) (eI .u8) ((rpMake secret (Sl.mk l.isEmpty l)).1.D)) ?_
        refine rvP C (.pv (.lit (.int .i64 ((rpMake secret (Sl.mk l.isEmpty l)).2)))) ?_
        refine rvP C (sS (some (rpMake secret (Sl.mk l.isEmpty l)).1.nil) (eI .u8) ((rpMake secret (Sl.mk l.isEmpty l)).1.D)) ?_
        refine rvP C (.pv (.lit (.int .i64 ((rpMake secret (Sl.mk l.isEmpty l)).2)))) ?_
        refine rvc_nil ?_
        refine Awp.seq ?_
        refine Awp.consP C ?_
        refine rvP C (.pv (.lit (.int .i64 ((rpMake secret (Sl.mk l.isEmpty l)).2)))) ?_
        refine rvP C (.pv (.lit (.bool (((rpMake secret (Sl.mk l.isEmpty l)).2) != 0)))) ?_
        refine rvP C (.pv (.lit (.bool (((rpMake secret (Sl.mk l.isEmpty l)).2) != 0)))) ?_
        refine rvc_case 74 (((rpMake secret (Sl.mk l.isEmpty l)).2) != 0) rfl (fun h15 => ?_) (fun h15 => ?_)
        ·
         replace hR := of_true h15 hR
         refine rvS ?_
         refine rvS ?_
         refine rvS ?_
         refine rvS ?_
         refine rvS ?_
         refine rvP C (.pv (.lit (.bool true))) ?_
         refine rvc_nil ?_
         refine Awp.condT (b := true) rfl rfl ?_
         refine Awp.consP C ?_
         refine rvP C (sS (some true) eSeen []) ?_
         refine rvP C (.pv (.lit (.int .i64 100))) ?_
         refine rvc_nil ?_
         refine Awp.ret ?_
         subst hR
         exact ⟨.inl rfl, rfl⟩
        ·
         replace hR := of_false h15 hR
         refine rvO C (sS (some (rpMake secret (Sl.mk l.isEmpty l)).1.nil) (eI .u8) ((rpMake secret (Sl.mk l.isEmpty l)).1.D)) ?_
         refine rvc_open rfl rfl rfl (rexec_convS C rfl rfl rfl rfl rfl rfl rfl rfl ?_)
         refine rvO C (sS (some b.nil) (eI .u8) b.D) ?_
         refine rvc_open rfl rfl rfl (rexec_convS C rfl rfl rfl rfl rfl rfl rfl rfl ?_)
         refine rvO C (.pv (.lit (.bool (!((strOf ((rpMake secret (Sl.mk l.isEmpty l)).1.D)).toList == (strOf b.D).toList))))) ?_
         refine rvP C (.pv (.lit (.bool (!((strOf ((rpMake secret (Sl.mk l.isEmpty l)).1.D)).toList == (strOf b.D).toList))))) ?_
         refine rvc_nil ?_
         refine Awp.cond (b := (!((strOf ((rpMake secret (Sl.mk l.isEmpty l)).1.D)).toList == (strOf b.D).toList))) rfl (fun h16 => ?_) (fun h16 => ?_)
         ·
          replace hR := of_true h16 hR
          refine Awp.consP C ?_
          refine rvP C (sS (some true) eSeen []) ?_
          refine rvP C (.pv (.lit (.int .i64 100))) ?_
          refine rvc_nil ?_
          refine Awp.ret ?_
          subst hR
          exact ⟨.inl rfl, rfl⟩
         ·
          replace hR := of_false h16 hR
          refine Awp.skip ?_
          refine Awp.consP C ?_
          refine rvP C (sS (some l.isEmpty) eSeen l) ?_
          refine rvP C (sS (some l.isEmpty) eSeen l) ?_
          refine rvP C (.pv (.lit (.int .i64 0))) ?_
          refine rvc_nil ?_
          refine Awp.ret ?_
          subst hR
          exact ⟨.inl rfl, rfl⟩
     ·
      refine Awp.wordsR [(0, sS (some secret.nil) (eI .u8) secret.D), (1, sS (some b.nil) (eI .u8) b.D), (6, .ptr 34 0), (8, .sl 900 0 l.length 9 false), (37, .pv (.lit (.int .i64 q0.2))), (38, .pv (.lit (.int .i64 (i : Int))))] [(900, .cells (encC eSeen l)), (34, .cells [sS (some vc.b.nil) (eI .u8) vc.b.D, .pv (.lit (.int .i64 vc.at_)), .pv (.lit (.int .i64 vc.e_))])] [34, 900] (WeakerR.ofL (Ks := [34, 900]) hI ⟨⟨rfl, rfl⟩, ⟨rfl, rfl⟩, ⟨rfl, rfl⟩, ⟨(by exact grow_at_cons (b := 900) (b' := 900) (e := eSeen) (l := l) rfl h6 rfl rfl rfl), rfl⟩, ⟨rfl, rfl⟩, ⟨rfl, rfl⟩, trivial⟩ (okH_list (look_cons h6 rfl) rfl rfl (okH_cons (look_cons h6 rfl) rfl rfl rfl (okH_nil))) rfl) ?_
      refine Awp.consP C ?_
      refine rvP C (.pv (.lit (.bool (decide ((i : Int) < q0.2))))) ?_
      refine rvc_nil ?_
      refine Awp.seq ?_
      refine Awp.cond (b := (decide ((i : Int) < q0.2))) rfl (fun h17 => ?_) (fun h17 => ?_)
      ·
       have h18 : i < q0.2.toNat := by have := of_decide_eq_true h17; omega
       obtain ⟨k, h19⟩ : ∃ k, q0.2.toNat - i = k + 1 := ⟨q0.2.toNat - i - 1, by omega⟩
       rw [h19] at hR
       refine Awp.skip ?_
       refine Awp.seq ?_
       refine Awp.block ?_
       refine Awp.cons C (fun _ => .writer) (by kernel_rfl) ?_
       refine rvP C (.ptr 34 0) ?_
       refine rvc_un (rexec_callM hP C (b := 34) rfl rfl rfl (rrNum_calls vc hV.1) rfl rfl ?_)
       refine rvP C (.pv (.lit (.int .u64 ((rrNum vc).2)))) ?_
       refine rvc_nil ?_
       refine Awp.cons C (fun _ => .writer) (by kernel_rfl) ?_
       refine rvP C (.ptr 34 0) ?_
       refine rvc_un (rexec_callM hP C (b := 34) rfl rfl rfl (rrIn_calls ((rrNum vc).1) 1 1099511627776 (rrNum_ok _ hV.1)) rfl rfl ?_)
       refine rvP C (.agg [.pv (.lit (.int .u8 0)), .pv (.lit (.int .u8 0)), .pv (.lit (.int .u8 0)), .pv (.lit (.int .u8 0)), .pv (.lit (.int .u8 0)), .pv (.lit (.int .u8 0)), .pv (.lit (.int .u8 0)), .pv (.lit (.int .u8 0)), .pv (.lit (.int .i64 ((rrIn ((rrNum vc).1) 1 1099511627776).2)))]) ?_
       refine rvc_un (rexec_prim C (δ := { v := .ptr 10 0, new := [(10, .cells [.pv (.lit (.int .u8 0)), .pv (.lit (.int .u8 0)), .pv (.lit (.int .u8 0)), .pv (.lit (.int .u8 0)), .pv (.lit (.int .u8 0)), .pv (.lit (.int .u8 0)), .pv (.lit (.int .u8 0)), .pv (.lit (.int .u8 0)), .pv (.lit (.int .i64 0))])] }) rfl rfl rfl rfl trivial rfl ?_)
       refine rvc_un (rexec_prim C (δ := { v := .undef, wr := [(10, some (.cells [.pv (.lit (.int .u8 0)), .pv (.lit (.int .u8 0)), .pv (.lit (.int .u8 0)), .pv (.lit (.int .u8 0)), .pv (.lit (.int .u8 0)), .pv (.lit (.int .u8 0)), .pv (.lit (.int .u8 0)), .pv (.lit (.int .u8 0)), .pv (.lit (.int .i64 ((rrIn ((rrNum vc).1) 1 1099511627776).2)))]))] }) rfl rfl rfl rfl trivial rfl ?_)
       refine rvc_nil ?_
       refine Awp.seq ?_
       refine Awp.consP C ?_
       refine rvP C (.pv (.lit (.int .i64 0))) ?_
       refine rvc_nil ?_
       refine Awp.block ?_
       refine Awp.forR (σ := Int × Seen) (8) (fun i2 v => [(0, sS (some secret.nil) (eI .u8) secret.D), (1, sS (some b.nil) (eI .u8) b.D), (6, .ptr 34 0), (8, .sl 900 0 l.length 9 false), (9, .pv (.lit (.int .u64 v.1))), (10, .ptr 10 0), (37, .pv (.lit (.int .i64 q0.2))), (38, .pv (.lit (.int .i64 (i : Int)))), (45, .pv (.lit (.int .i64 (i2 : Int))))]) (fun i2 v => [(900, .cells (encC eSeen l)), (34, .cells [sS (some (rrIn ((rrNum vc).1) 1 1099511627776).1.b.nil) (eI .u8) ((rrIn ((rrNum vc).1) 1 1099511627776).1.b.D), .pv (.lit (.int .i64 ((rrIn ((rrNum vc).1) 1 1099511627776).1.at_))), .pv (.lit (.int .i64 ((rrIn ((rrNum vc).1) 1 1099511627776).1.e_)))]), (10, .cells [.pv (.lit (.int .u8 (v.2.key 0))), .pv (.lit (.int .u8 (v.2.key 1))), .pv (.lit (.int .u8 (v.2.key 2))), .pv (.lit (.int .u8 (v.2.key 3))), .pv (.lit (.int .u8 (v.2.key 4))), .pv (.lit (.int .u8 (v.2.key 5))), .pv (.lit (.int .u8 (v.2.key 6))), .pv (.lit (.int .u8 (v.2.key 7))), .pv (.lit (.int .i64 v.2.ver))])]) [10, 34, 900] (fun i2 v => (rpRead_l1 (fun w1 vc2 => rpRead_l0 secret b k (i + 1) (l ++ [vc2]) ((rrIn ((rrNum vc).1) 1 1099511627776).1)) (8 - i2) i2 v.1 v.2 = R) ∧ (KeyB v.2.key)) ((rrNum vc).2, (Seen.mk (ofL [(0 : Int), 0, 0, 0, 0, 0, 0, 0]) ((rrIn ((rrNum vc).1) 1 1099511627776).2))) ?_ ?_ (fun i2 v h20 hR => ?_)
       · exact ⟨hR, Z8_B⟩
       · exact ⟨fun b => b, WeakerR.ofL (Ks := [10, 34, 900]) hI ⟨⟨rfl, rfl⟩, ⟨rfl, rfl⟩, ⟨rfl, rfl⟩, ⟨rfl, rfl⟩, ⟨rfl, rfl⟩, ⟨rfl, rfl⟩, ⟨rfl, rfl⟩, ⟨rfl, rfl⟩, ⟨rfl, rfl⟩, trivial⟩ (okH_list rfl rfl rfl (okH_cons rfl rfl rfl rfl (okH_cons rfl rfl rfl rfl (okH_nil)))) rfl⟩
       obtain ⟨w1, vc2⟩ := v
       obtain ⟨hR, hW⟩ := hR
       refine Awp.consP C ?_
       refine rvP C (.pv (.lit (.bool (decide ((i2 : Int) < 8))))) ?_
       refine rvc_nil ?_
       refine Awp.seq ?_
       refine Awp.cond (b := (decide ((i2 : Int) < 8))) rfl (fun h21 => ?_) (fun h21 => ?_)
       ·
        have h22 : i2 < 8 := by have := of_decide_eq_true h21; omega
        obtain ⟨k2, h23⟩ : ∃ k, 8 - i2 = k + 1 := ⟨8 - i2 - 1, by omega⟩
        rw [h23] at hR
        refine Awp.skip ?_
        refine Awp.seq ?_
        refine Awp.block ?_
        refine Awp.consP C ?_
        refine rvP C (.pv (.lit (.int .i64 (i2 : Int)))) ?_
        refine rvP C (.pv (.lit (.int .i64 (i2 : Int)))) ?_
        refine rvc_nil ?_
        refine Awp.consP C ?_
        refine rvP C (.pv (.lit (.int .i64 (i2 : Int)))) ?_
        refine rvP C (.pv (.lit (.int .i64 (IntKind.i64.wrap (7 - (i2 : Int)))))) ?_
        refine rvP C (.pv (.lit (.int .u64 w1))) ?_
        refine rvc_un (rexec_prim C (δ := { v := .pv (.lit (.int .u64 (w1.tmod 256))) }) rfl rfl rfl rfl (by first | decide | omega) rfl ?_)
        refine rvP C (.pv (.lit (.int .u8 (IntKind.u8.wrap (w1.tmod 256))))) ?_
        refine rvP C (.ptr 10 0) ?_
        refine rvc_un (rexec_prim C (δ := { v := .ptr 10 (0 + (IntKind.i64.wrap (7 - (i2 : Int))).toNat * 1) }) rfl rfl rfl rfl ⟨(by have := wrapI (7 - (i2 : Int)); have := eq_of_bne_false h1; have := ne_of_beq_false h2; have := of_decide_eq_false h3; have := of_decide_eq_false h4; have := of_decide_eq_true h17; have := of_decide_eq_true h21; omega), (by have := wrapI (7 - (i2 : Int)); have := eq_of_bne_false h1; have := ne_of_beq_false h2; have := of_decide_eq_false h3; have := of_decide_eq_false h4; have := of_decide_eq_true h17; have := of_decide_eq_true h21; omega)⟩ rfl ?_)
        refine rvc_un (rexec_storeA C [] [.pv (.lit (.int .i64 vc2.ver))] (fun z => .lit (.int .u8 z)) vc2.key 8 (IntKind.i64.wrap (7 - (i2 : Int))).toNat (IntKind.u8.wrap (w1.tmod 256)) [.pv (.lit (.int .u8 ((updA vc2.key (IntKind.i64.wrap (7 - (i2 : Int))).toNat (IntKind.u8.wrap (w1.tmod 256))) 0))), .pv (.lit (.int .u8 ((updA vc2.key (IntKind.i64.wrap (7 - (i2 : Int))).toNat (IntKind.u8.wrap (w1.tmod 256))) 1))), .pv (.lit (.int .u8 ((updA vc2.key (IntKind.i64.wrap (7 - (i2 : Int))).toNat (IntKind.u8.wrap (w1.tmod 256))) 2))), .pv (.lit (.int .u8 ((updA vc2.key (IntKind.i64.wrap (7 - (i2 : Int))).toNat (IntKind.u8.wrap (w1.tmod 256))) 3))), .pv (.lit (.int .u8 ((updA vc2.key (IntKind.i64.wrap (7 - (i2 : Int))).toNat (IntKind.u8.wrap (w1.tmod 256))) 4))), .pv (.lit (.int .u8 ((updA vc2.key (IntKind.i64.wrap (7 - (i2 : Int))).toNat (IntKind.u8.wrap (w1.tmod 256))) 5))), .pv (.lit (.int .u8 ((updA vc2.key (IntKind.i64.wrap (7 - (i2 : Int))).toNat (IntKind.u8.wrap (w1.tmod 256))) 6))), .pv (.lit (.int .u8 ((updA vc2.key (IntKind.i64.wrap (7 - (i2 : Int))).toNat (IntKind.u8.wrap (w1.tmod 256))) 7))), .pv (.lit (.int .i64 vc2.ver))] rfl rfl rfl rfl rfl rfl (by have := wrapI (7 - (i2 : Int)); have := eq_of_bne_false h1; have := ne_of_beq_false h2; have := of_decide_eq_false h3; have := of_decide_eq_false h4; have := of_decide_eq_true h17; have := of_decide_eq_true h21; omega) rfl ?_)
        refine rvc_nil ?_
        refine Awp.regionP C ?_
        refine rvP C (.pv (.lit (.int .u64 w1))) ?_
        refine rvc_un (rexec_prim C (δ := { v := .pv (.lit (.int .u64 (IntKind.u64.wrap (w1.tdiv 256)))) }) rfl rfl rfl rfl (by first | decide | omega) rfl ?_)
        refine rvP C (.pv (.lit (.int .u64 (IntKind.u64.wrap (w1.tdiv 256))))) ?_
        refine rvc_nil ?_
        refine Awp.regionP C ?_
        refine rvP C (.pv (.lit (.int .i64 (IntKind.i64.wrap ((i2 : Int) + 1))))) ?_
        refine rvP C (.pv (.lit (.int .i64 (IntKind.i64.wrap ((i2 : Int) + 1))))) ?_
        refine rvc_nil ?_
        refine ⟨h22, ((IntKind.u64.wrap (w1.tdiv 256)), (Seen.mk (updA vc2.key (IntKind.i64.wrap (7 - (i2 : Int))).toNat (IntKind.u8.wrap (w1.tmod 256))) vc2.ver)), ?_, ?_⟩
        · exact ⟨(by rw [show 8 - (i2 + 1) = k2 by omega]; exact hR), (KB_upd hW)⟩
        · exact ⟨fun b => b, WeakerR.ofL (Ks := [10, 34, 900]) hI ⟨⟨rfl, rfl⟩, ⟨rfl, rfl⟩, ⟨rfl, rfl⟩, ⟨rfl, rfl⟩, ⟨rfl, rfl⟩, ⟨rfl, rfl⟩, ⟨rfl, rfl⟩, ⟨rfl, rfl⟩, ⟨lit_cast (wrap_i64 (by omega) (by omega)), rfl⟩, trivial⟩ (okH_list rfl rfl rfl (okH_cons rfl rfl rfl rfl (okH_cons rfl rfl rfl rfl (okH_nil)))) rfl⟩
       ·
        rw [show 8 - i2 = 0 by have := of_decide_eq_false h21; omega] at hR
        refine Awp.exit ?_
        refine Awp.regionP C ?_
        refine rvP C (.sl 900 0 l.length 9 false) ?_
        refine rvP C (.agg [.pv (.lit (.int .u8 (vc2.key 0))), .pv (.lit (.int .u8 (vc2.key 1))), .pv (.lit (.int .u8 (vc2.key 2))), .pv (.lit (.int .u8 (vc2.key 3))), .pv (.lit (.int .u8 (vc2.key 4))), .pv (.lit (.int .u8 (vc2.key 5))), .pv (.lit (.int .u8 (vc2.key 6))), .pv (.lit (.int .u8 (vc2.key 7))), .pv (.lit (.int .i64 vc2.ver))]) ?_
        refine rvc_un (rexec_buildSliceF C eSeen [vc2] rfl rfl rfl rfl rfl rfl rfl (by decide) rfl ?_)
        refine rvc_un (rexec_append C rfl rfl rfl rfl rfl rfl rfl rfl (fun _ h => by cases h) rfl (en := eSeen) (D0 := l) (D := [vc2]) rfl rfl rfl rfl (by have := eq_of_bne_false h1; have := ne_of_beq_false h2; have := of_decide_eq_false h3; have := of_decide_eq_false h4; have := of_decide_eq_true h17; have := of_decide_eq_false h21; first | omega | (simp <;> omega)) (by decide) (nn := (l ++ [vc2]).length) (by simp) ?_)
        refine rvP C (.sl 61 0 ((l ++ [vc2]).length) 9 false) ?_
        refine rvc_nil ?_
        refine Awp.regionP C ?_
        refine rvP C (.pv (.lit (.int .i64 (IntKind.i64.wrap ((i : Int) + 1))))) ?_
        refine rvP C (.pv (.lit (.int .i64 (IntKind.i64.wrap ((i : Int) + 1))))) ?_
        refine rvc_nil ?_
        refine ⟨h18, ((l ++ [vc2]), (rrIn ((rrNum vc).1) 1 1099511627776).1), ?_, ?_⟩
        · exact ⟨(by rw [show q0.2.toNat - (i + 1) = k by omega]; exact hR), ⟨(rrIn_ok _ _ _ (rrNum_ok _ hV.1)), (KB_snoc2 hV.2 hW)⟩, (by first | omega | (simp <;> omega))⟩
        · exact ⟨fun b => bif b == 900 then 61 else (fun b => b) b, WeakerR.ofL (Ks := [34, 900]) hI ⟨⟨rfl, rfl⟩, ⟨rfl, rfl⟩, ⟨rfl, rfl⟩, ⟨grow_to rfl rfl app_ne rfl rfl, grow_within rfl⟩, ⟨rfl, rfl⟩, ⟨lit_cast (wrap_i64 (by omega) (by omega)), rfl⟩, trivial⟩ (okH_grow (fun _ => rfl) rfl rfl (okH_cons rfl rfl rfl rfl (okH_nil))) rfl⟩
      ·
       rw [show q0.2.toNat - i = 0 by have := of_decide_eq_false h17; omega] at hR
       refine Awp.exit ?_
       refine Awp.seq ?_
       refine Awp.cons C (fun _ => .writer) (by kernel_rfl) ?_
       refine rvP C (.ptr 34 0) ?_
       refine rvc_un (rexec_callM hP C (b := 34) rfl rfl rfl (rrEnd_calls vc) rfl rfl ?_)
       refine rvP C (.pv (.lit (.bool ((rrEnd vc) != 0)))) ?_
       refine rvc_nil ?_
       refine Awp.cond (b := ((rrEnd vc) != 0)) rfl (fun h24 => ?_) (fun h24 => ?_)
       ·
        replace hR := of_true h24 hR
        refine Awp.consP C ?_
        refine rvP C (sS (some true) eSeen []) ?_
        refine rvP C (.pv (.lit (.int .i64 100))) ?_
        refine rvc_nil ?_
        refine Awp.ret ?_
        subst hR
        exact ⟨.inl rfl, rfl⟩
       ·
        replace hR := of_false h24 hR
        refine Awp.skip ?_
        refine Awp.freezeW 900 (encL eSeen l) ?_ [(0, sS (some secret.nil) (eI .u8) secret.D), (1, sS (some b.nil) (eI .u8) b.D), (8, sS (some l.isEmpty) eSeen l)] [(34, .cells [sS (some vc.b.nil) (eI .u8) vc.b.D, .pv (.lit (.int .i64 vc.at_)), .pv (.lit (.int .i64 vc.e_))])] ?_ ?_ ?_
        · rfl
        · exact ⟨⟨_, rfl, .inl (.inl rfl)⟩, ⟨_, rfl, .inl (.inl rfl)⟩, ⟨_, rfl, .inl (.inr ⟨_, _, _, rfl, by rw [ne_isEmpty h6]; rfl⟩)⟩, trivial⟩
        · exact ⟨⟨(by show (34 : Nat) ≠ 900; decide), .inl rfl⟩, trivial⟩
        refine Awp.consP C ?_
        refine rvP C (sS (some secret.nil) (eI .u8) secret.D) ?_
        refine rvP C (sS (some l.isEmpty) eSeen l) ?_
        refine rvc_un (rexec_call hP C rfl rfl rfl (rpMake_calls secret (Sl.mk l.isEmpty l) hk hV.2 (by show l.length ≤ 1000; omega)) ?_)
        refine rvP C (.tup [sS (some (rpMake secret (Sl.mk l.isEmpty l)).1.nil) (eI .u8) ((rpMake secret (Sl.mk l.isEmpty l)).1.D), .pv (.lit (.int .i64 ((rpMake secret (Sl.mk l.isEmpty l)).2)))]) ?_
        refine rvP C (sS (some (rpMake secret (Sl.mk l.isEmpty l)).1.nil) (eI .u8) ((rpMake secret (Sl.mk l.isEmpty l)).1.D)) ?_
        refine rvP C (.pv (.lit (.int .i64 ((rpMake secret (Sl.mk l.isEmpty l)).2)))) ?_
        refine rvP C (sS (some (rpMake secret (Sl.mk l.isEmpty l)).1.nil) (eI .u8) ((rpMake secret (Sl.mk l.isEmpty l)).1.D)) ?_
        refine rvP C (.pv (.lit (.int .i64 ((rpMake secret (Sl.mk l.isEmpty l)).2)))) ?_
        refine rvc_nil ?_
        refine Awp.seq ?_
        refine Awp.consP C ?_
        refine rvP C (.pv (.lit (.int .i64 ((rpMake secret (Sl.mk l.isEmpty l)).2)))) ?_
        refine rvP C (.pv (.lit (.bool (((rpMake secret (Sl.mk l.isEmpty l)).2) != 0)))) ?_
        refine rvP C (.pv (.lit (.bool (((rpMake secret (Sl.mk l.isEmpty l)).2) != 0)))) ?_
        refine rvc_case 74 (((rpMake secret (Sl.mk l.isEmpty l)).2) != 0) rfl (fun h25 => ?_) (fun h25 => ?_)
        ·
         replace hR := of_true h25 hR
         refine rvS ?_
         refine rvS ?_
         refine rvS ?_
         refine rvS ?_
         refine rvS ?_
         refine rvP C (.pv (.lit (.bool true))) ?_
         refine rvc_nil ?_
         refine Awp.condT (b := true) rfl rfl ?_
         refine Awp.consP C ?_
         refine rvP C (sS (some true) eSeen []) ?_
         refine rvP C (.pv (.lit (.int .i64 100))) ?_
         refine rvc_nil ?_
         refine Awp.ret ?_
         subst hR
         exact ⟨.inl rfl, rfl⟩
        ·
         replace hR := of_false h25 hR
         refine rvO C (sS (some (rpMake secret (Sl.mk l.isEmpty l)).1.nil) (eI .u8) ((rpMake secret (Sl.mk l.isEmpty l)).1.D)) ?_
         refine rvc_open rfl rfl rfl (rexec_convS C rfl rfl rfl rfl rfl rfl rfl rfl ?_)
         refine rvO C (sS (some b.nil) (eI .u8) b.D) ?_
         refine rvc_open rfl rfl rfl (rexec_convS C rfl rfl rfl rfl rfl rfl rfl rfl ?_)
         refine rvO C (.pv (.lit (.bool (!((strOf ((rpMake secret (Sl.mk l.isEmpty l)).1.D)).toList == (strOf b.D).toList))))) ?_
         refine rvP C (.pv (.lit (.bool (!((strOf ((rpMake secret (Sl.mk l.isEmpty l)).1.D)).toList == (strOf b.D).toList))))) ?_
         refine rvc_nil ?_
         refine Awp.cond (b := (!((strOf ((rpMake secret (Sl.mk l.isEmpty l)).1.D)).toList == (strOf b.D).toList))) rfl (fun h26 => ?_) (fun h26 => ?_)
         ·
          replace hR := of_true h26 hR
          refine Awp.consP C ?_
          refine rvP C (sS (some true) eSeen []) ?_
          refine rvP C (.pv (.lit (.int .i64 100))) ?_
          refine rvc_nil ?_
          refine Awp.ret ?_
          subst hR
          exact ⟨.inl rfl, rfl⟩
         ·
          replace hR := of_false h26 hR
          refine Awp.skip ?_
          refine Awp.consP C ?_
          refine rvP C (sS (some l.isEmpty) eSeen l) ?_
          refine rvP C (sS (some l.isEmpty) eSeen l) ?_
          refine rvP C (.pv (.lit (.int .i64 0))) ?_
          refine rvc_nil ?_
          refine Awp.ret ?_
          subst hR
          exact ⟨.inl rfl, rfl⟩
     -- !! two models: ('(bif ((rrEnd vc) != 0) then ((Sl.mk true []), 100) else (bif (((rpMake secret (Sl.mk l.isEmpty l)).2) != 0) then ((Sl.mk true []), 100) else (bif (!((strOf ((rpMake secret (Sl.mk l.isEmpty l)).1.D)).toList == (strOf b.D).toList)) then ((Sl.mk true []), 100) else ((Sl.mk l.isEmpty l), 0))))', 'rpRead_l1 (fun w vc1 => rpRead_l0 secret b k (i + 1) (l ++ [vc1]) ((rrIn ((rrNum vc).1) 1 1099511627776).1)) 8 0 ((rrNum vc).2) (Seen.mk (ofL [(0 : Int), 0, 0, 0, 0, 0, 0, 0]) ((rrIn ((rrNum vc).1) 1 1099511627776).2))') ||| ('(bif ((rrEnd vc) != 0) then ((Sl.mk true []), 100) else (bif (((rpMake secret (Sl.mk l.isEmpty l)).2) != 0) then ((Sl.mk true []), 100) else (bif (!((strOf ((rpMake secret (Sl.mk l.isEmpty l)).1.D)).toList == (strOf b.D).toList)) then ((Sl.mk true []), 100) else ((Sl.mk l.isEmpty l), 0))))', 'rpRead_l1 (fun w1 vc2 => rpRead_l0 secret b k (i + 1) (l ++ [vc2]) ((rrIn ((rrNum vc).1) 1 1099511627776).1)) 8 0 ((rrNum vc).2) (Seen.mk (ofL [(0 : Int), 0, 0, 0, 0, 0, 0, 0]) ((rrIn ((rrNum vc).1) 1 1099511627776).2))')
theorem u8_inj : ∀ {A B : List Int}, B8 A → B8 B → A.map u8 = B.map u8 → A = B
  | [], [], _, _, _ => rfl
  | [], _ :: _, _, _, h => by simp at h
  | _ :: _, [], _, _, h => by simp at h
  | a :: x, b :: y, hA, hB, h => by
    obtain ⟨h1, h2⟩ := hA.cons
    obtain ⟨h3, h4⟩ := hB.cons
    simp only [List.map_cons, List.cons.injEq] at h
    rw [(u8_eq h1 h3).1 h.1, u8_inj h2 h4 h.2]
theorem str_eq {A B : List Int} (hA : B8 A) (hB : B8 B) : ((strOf A).toList == (strOf B).toList) = decide (A = B) := by
  rw [ByteArray.toList_eq, ByteArray.toList_eq, strOf_L, strOf_L, Bool.eq_iff_iff, beq_iff_eq, decide_eq_true_eq]
  exact ⟨u8_inj hA hB, fun h => by rw [h]⟩
theorem rd_unword (w v : Int) : rd (Seen.mk (unword w) v) = rd (Seen.mk (unw w) v) := by
  show (kL (unword w), v) = (kL (unw w), v)
  rw [kL_unword]
theorem rpRead_l1_eq (kk : Int → Seen → Sl Seen × Int) : ∀ (k i : Nat) (w : Int) (s : Seen), k + i = 8 → 0 ≤ w → w < 18446744073709551616 →
    ∃ w' key', rpRead_l1 kk k i w s = kk w' (Seen.mk key' s.ver) ∧ ∀ t, t < 8 → key' t = if t + i ≤ 7 then (w / (256 ^ (7 - i - t) : Nat)) % 256 else s.key t
  | 0, i, w, s, h, _, _ => ⟨w, s.key, rfl, fun t ht => by rw [if_neg (by omega)]⟩
  | k + 1, i, w, s, h, h0, h1 => by
    have e1 : IntKind.i64.wrap (7 - (i : Int)) = ((7 - i : Nat) : Int) := by rw [wrapP (by omega)]; omega
    have e2 : IntKind.u8.wrap (w.tmod 256) = w % 256 := by rw [wrap_u8, Int.tmod_eq_emod_of_nonneg h0]; omega
    have e3 : IntKind.u64.wrap (w.tdiv 256) = w / 256 := by rw [wrapU, Int.tdiv_eq_ediv_of_nonneg h0]; omega
    unfold rpRead_l1
    rw [e1, e2, e3, Int.toNat_natCast]
    obtain ⟨w', key', p1, p2⟩ := rpRead_l1_eq kk k (i + 1) (w / 256) (Seen.mk (updA s.key (7 - i) (w % 256)) s.ver) (by omega) (by omega) (by omega)
    refine ⟨w', key', p1, fun t ht => ?_⟩
    rw [p2 t ht]
    by_cases h2 : t + (i + 1) ≤ 7
    · rw [if_pos h2, if_pos (by omega), show 7 - i - t = (7 - (i + 1) - t) + 1 by omega, Nat.pow_succ, Int.ediv_ediv_of_nonneg (by omega)]
      congr 2
      rw [Int.natCast_mul, Int.mul_comm]; rfl
    · rw [if_neg h2]
      show updA s.key (7 - i) (w % 256) t = _
      unfold updA
      by_cases h3 : t + i ≤ 7
      · have : t = 7 - i := by omega
        rw [if_pos h3, show (t == 7 - i) = true by simpa using this, cond_true, show 7 - i - t = 0 by omega]
        simp
      · rw [if_neg h3, show (t == 7 - i) = false by simpa using (by omega : ¬ t = 7 - i), cond_false]
theorem rpRead_l1_key (kk : Int → Seen → Sl Seen × Int) (w v : Int) (h0 : 0 ≤ w) (h1 : w < 18446744073709551616) : ∃ w' key', rpRead_l1 kk 8 0 w (Seen.mk (ofL [(0 : Int), 0, 0, 0, 0, 0, 0, 0]) v) = kk w' (Seen.mk key' v) ∧ kL key' = kL (unw w) := by
  obtain ⟨w', key', p1, p2⟩ := rpRead_l1_eq kk 8 0 w (Seen.mk (ofL [(0 : Int), 0, 0, 0, 0, 0, 0, 0]) v) rfl h0 h1
  refine ⟨w', key', p1, tbF_congr 8 0 fun t _ ht => ?_⟩
  rw [p2 t (by omega), if_pos (by omega)]
  unfold unw
  rw [wrap_u8]
  rcases (by omega : t = 0 ∨ t = 1 ∨ t = 2 ∨ t = 3 ∨ t = 4 ∨ t = 5 ∨ t = 6 ∨ t = 7) with rfl | rfl | rfl | rfl | rfl | rfl | rfl | rfl
  · rfl
  · rfl
  · rfl
  · rfl
  · rfl
  · rfl
  · rfl
  · rfl
/-- The seal of bytes. -/
def sealL (key : Sl Int) (D : List Int) : List Int := tbF (digF key (Sl.mk false D)) 8 0
theorem markR_D (key : Sl Int) (D : List Int) : (markR key (Sl.mk false D)).1.D = sealL key D := by
  have h := fun i hi => sh_byte (fun t => digF_R8 key (Sl.mk false D) t) i hi
  show [_, _, _, _, _, _, _, _] = [_, _, _, _, _, _, _, _]
  simp only [List.cons.injEq, and_true]
  exact ⟨h 0 (by decide), h 1 (by decide), h 2 (by decide), h 3 (by decide), h 4 (by decide), h 5 (by decide), h 6 (by decide), h 7 (by decide)⟩
theorem mark_D (key b : Sl Int) : (mark key b).1.D = sealL key b.D := markR_D key b.D
theorem sealL_len (key : Sl Int) (D : List Int) : (sealL key D).length = 8 := rfl
theorem sealL_B8 (key : Sl Int) (D : List Int) : B8 (sealL key D) := fun x hx => by
  obtain ⟨i, _, _, rfl⟩ := mem_tbF hx
  exact digF_R8 key (Sl.mk false D) i
/-- The pass of what was seen. -/
def passL (key : Sl Int) (l : List Seen) : List Int := encB l ++ sealL key (encB l)
def mkSpec (key : Sl Int) (l : Sl Seen) : Sl Int × Int :=
  bif (pRight l) != 0 then (Sl.mk true [], pRight l) else bif decide (key.D.length = 16) then (bif l.D.isEmpty then (Sl.mk true [], 0) else (Sl.mk false (passL key l.D), 0)) else (Sl.mk true [], 1)
theorem isEmpty_len {α : Type} (l : List α) : ((l.length : Int) == 0) = l.isEmpty := by
  cases l with
  | nil => rfl
  | cons x xs => simp; omega
theorem pMake_eq (key : Sl Int) (l : Sl Seen) : pMake key l = mkSpec key l := by
  unfold pMake mkSpec
  rw [isEmpty_len]
  have h2 : (markR key (Sl.mk false (bodyO l))).2 = if key.D.length = 16 then 0 else 1 := rfl
  rw [h2, markR_D, bodyO_eq]
  cases (pRight l != 0)
  · by_cases h : key.D.length = 16
    · rw [if_pos h, decide_eq_true h]
      cases l.D.isEmpty <;> rfl
    · rw [if_neg h, decide_eq_false h]; rfl
  · rfl
theorem rsN_step (d : Nat → Int) (i : Nat) : rsN d (i + 1) = IntKind.u64.wrap (IntKind.u64.wrap (256 * rsN d i) + IntKind.u64.wrap (d i)) := rfl
theorem rpMake_l1_eq (x : Seen) (kk : Int → Sl Int × Int) : ∀ (k i : Nat), k + i = 8 → rpMake_l1 x kk k i (rsN (cut8 x.key) i) = kk (rsN (cut8 x.key) 8)
  | 0, i, h => by
    have : i = 8 := by omega
    subst this; rfl
  | k + 1, i, h => by
    unfold rpMake_l1
    have e : x.key i = cut8 x.key i := by unfold cut8; rw [if_pos (by omega)]
    rw [e, ← rsN_step]
    exact rpMake_l1_eq x kk k (i + 1) (by omega)
theorem rpMake_l0_eq (secret : Sl Int) : ∀ (xs : List Seen) (i : Nat) (b : List Int), KB xs → rpMake_l0 secret xs i b = (Sl.mk false ((b ++ encS xs) ++ (tbF ((rOf secret (Sl.mk false (b ++ encS xs))).1) 8 0)), 0)
  | [], i, b, _ => by
    unfold rpMake_l0 encS
    rw [List.append_nil]; rfl
  | x :: xs, i, b, hx => by
    obtain ⟨h1, h2⟩ := hx.cons
    unfold rpMake_l0
    have e := rpMake_l1_eq x (fun w => rpMake_l0 secret xs (i + 1) (rPutO (Sl.mk false b) (Sl.mk false [w, (IntKind.u64.wrap x.ver)]))) 8 0 rfl
    have ew : rsN (cut8 x.key) 8 = word x.key := by rw [word_cut]; exact (rs_eq (cut8_R8 h1) 8).1
    have e0 : rsN (cut8 x.key) 0 = 0 := rfl
    rw [ew, e0] at e
    rw [e, rPutO_eq _ _ (rng2 (word_ok _) (wrapU64 _)), rpMake_l0_eq secret xs (i + 1) _ h2]
    have ev : (Sl.mk false b).D ++ vbs (Sl.mk false [word x.key, IntKind.u64.wrap x.ver]).D ++ encS xs = b ++ encS (x :: xs) := by
      show b ++ (vb (word x.key).toNat ++ (vb (IntKind.u64.wrap x.ver).toNat ++ [])) ++ encS xs = b ++ (vb (word x.key).toNat ++ (vb (IntKind.u64.wrap x.ver).toNat ++ encS xs))
      simp
    rw [ev]
theorem rpMake_eq {key : Sl Int} {l : Sl Seen} (hl : KB l.D) (h6 : l.D.length ≤ 1000000) : rpMake key l = mkSpec key l := by
  have hb : (Sl.mk true ([] : List Int)).D ++ vbs (Sl.mk false [IntKind.u64.wrap (l.D.length : Int)]).D ++ encS l.D = encB l.D := by
    show [] ++ (vb (IntKind.u64.wrap (l.D.length : Int)).toNat ++ []) ++ encS l.D = _
    simp [encB]
  have hp : encB l.D ++ tbF ((rOf key (Sl.mk false (encB l.D))).1) 8 0 = passL key l.D := by
    unfold passL sealL rOf; rfl
  have e16 : ((key.D.length : Int) != 16) = !decide (key.D.length = 16) := by
    rw [Bool.eq_iff_iff]; simp; omega
  unfold rpMake mkSpec
  rw [rpRight_eq hl h6, isEmpty_len, rpMake_l0_eq _ _ _ _ hl, rPutO_eq _ _ (rng1 (wrapU64 _)), hb, hp, e16]
  generalize passL key l.D = P
  cases (pRight l != 0)
  · cases decide (key.D.length = 16)
    · rfl
    · rfl
  · rfl
def badR : Sl Seen × Int := (Sl.mk true [], 100)
/-- What a pass's reader hands back. -/
def pfin (L : List Seen) : Sl Seen × Int := bif (pRight (Sl.mk L.isEmpty L)) != 0 then badR else (Sl.mk L.isEmpty L, 0)
theorem pRead_l0_err : ∀ (k i : Nat) (l : List Seen) (vc : Reader), rdErr vc ≠ 0 → pRead_l0 k i l vc = badR
  | 0, i, l, vc, h => by
    unfold pRead_l0
    rw [rdEnd_err h]; rfl
  | k + 1, i, l, vc, h => by
    unfold pRead_l0
    have e : (rdErr vc != 0) = true := by simpa using h
    rw [rdNum_err vc e]
    exact pRead_l0_err k (i + 1) _ _ (rdIn_err _ _ h)
theorem pRead_l0_at {D : List Int} (hD : B8 D) (hl : D.length ≤ 1000000) : ∀ (k i : Nat) (l : List Seen) (vc : Reader) (rest : List Int), RdAt vc D rest →
    (∀ xs, decS k rest = some (xs, []) → ∃ ys : List Seen, ys.map rd = xs.map rd ∧ KB ys ∧ pRead_l0 k i l vc = pfin (l ++ ys)) ∧ ((∀ xs, decS k rest ≠ some (xs, [])) → pRead_l0 k i l vc = badR)
  | 0, i, l, vc, rest, h => by
    have he := rdEnd_at h
    unfold pRead_l0 decS
    rw [he]
    cases rest with
    | nil =>
      refine ⟨fun xs hx => ⟨[], ?_, (fun _ h => nomatch h), ?_⟩, fun hno => absurd rfl (hno [])⟩
      · injection hx with hx; injection hx with hx _; rw [← hx]
      · rw [List.append_nil]; rfl
    | cons y ys =>
      exact ⟨fun xs hx => (by injection hx with hx; injection hx with _ hx; cases hx), fun _ => rfl⟩
  | k + 1, i, l, vc, rest, h => by
    have h1 := rdNum_at h hD hl
    have hsub : ∀ x ∈ rest, 0 ≤ x ∧ x < 256 := fun x hx => hD x (h.suf.subset hx)
    unfold pRead_l0 decS
    cases e1 : vd 0 rest with
    | none =>
      rw [e1] at h1
      exact ⟨fun xs hx => (by cases hx), fun _ => pRead_l0_err k (i + 1) _ _ (rdIn_err _ _ h1)⟩
    | some q =>
      obtain ⟨w, r1⟩ := q
      rw [e1] at h1
      dsimp only at h1 ⊢
      have h2 := rdIn_at 1 1099511627776 h1.1 hD hl
      cases e2 : rin 1 1099511627776 r1 with
      | none =>
        rw [e2] at h2
        exact ⟨fun xs hx => (by cases hx), fun _ => pRead_l0_err k (i + 1) _ _ h2⟩
      | some q =>
        obtain ⟨v, r2⟩ := q
        rw [e2] at h2
        dsimp only at h2 ⊢
        rw [h1.2, h2.2]
        obtain ⟨ih1, ih2⟩ := pRead_l0_at hD hl k (i + 1) (l ++ [Seen.mk (unword (w : Int)) (v : Int)]) _ r2 h2.1
        cases e3 : decS k r2 with
        | none =>
          rw [e3] at ih2
          exact ⟨fun xs hx => (by cases hx), fun _ => ih2 fun xs hx => (by cases hx)⟩
        | some q =>
          obtain ⟨zs, r3⟩ := q
          rw [e3] at ih1 ih2
          dsimp only
          refine ⟨fun xs hx => ?_, fun hno => ih2 fun xs hx => ?_⟩
          · injection hx with hx; injection hx with hx hr
            subst hr
            obtain ⟨ys, p1, p2, p3⟩ := ih1 zs rfl
            refine ⟨Seen.mk (unword (w : Int)) (v : Int) :: ys, ?_, ?_, ?_⟩
            · rw [← hx, List.map_cons, List.map_cons, p1, rd_unword]
            · intro x hx'
              rcases List.mem_cons.1 hx' with rfl | hx'
              · exact unword_B _
              · exact p2 x hx'
            · rw [p3, List.append_assoc]; rfl
          · injection hx with hx; injection hx with _ hr
            subst hr
            exact hno _ rfl
/-- What bytes without their seal say. -/
def parse (D : List Int) : Option (List Seen) := match rin 1 6 D with
  | none => none
  | some (n, r) => match decS n r with
    | some (xs, []) => some xs
    | _ => none
theorem rdNew_at (b : Sl Int) : RdAt (rdNew b) b.D b.D := ⟨rfl, rfl, rfl, List.suffix_refl _, by show (0 : Int) = _; omega⟩
theorem pRead_parse (b : Sl Int) (hB : B8 b.D) (hl : b.D.length ≤ 1000000) :
    (∀ xs, parse b.D = some xs → ∃ ys : List Seen, ys.map rd = xs.map rd ∧ KB ys ∧ pRead_l0 (rdIn (rdNew b) 1 6).2.toNat 0 [] (rdIn (rdNew b) 1 6).1 = pfin ys) ∧ (parse b.D = none → pRead_l0 (rdIn (rdNew b) 1 6).2.toNat 0 [] (rdIn (rdNew b) 1 6).1 = badR) := by
  have h1 := rdIn_at 1 6 (rdNew_at b) hB hl
  unfold parse
  cases e1 : rin 1 6 b.D with
  | none =>
    rw [e1] at h1
    exact ⟨fun xs hx => (by cases hx), fun _ => pRead_l0_err _ _ _ _ h1⟩
  | some q =>
    obtain ⟨n, r⟩ := q
    rw [e1] at h1
    dsimp only at h1 ⊢
    rw [h1.2, Int.toNat_natCast]
    obtain ⟨i1, i2⟩ := pRead_l0_at hB hl n 0 [] _ r h1.1
    cases e2 : decS n r with
    | none =>
      rw [e2] at i2
      exact ⟨fun xs hx => (by cases hx), fun _ => i2 fun xs hx => (by cases hx)⟩
    | some q =>
      obtain ⟨zs, r3⟩ := q
      rw [e2] at i1 i2
      cases r3 with
      | nil =>
        refine ⟨fun xs hx => ?_, fun hx => (by cases hx)⟩
        injection hx with hx
        subst hx
        exact i1 zs rfl
      | cons y ys => exact ⟨fun xs hx => (by cases hx), fun _ => i2 fun xs hx => (by injection hx with hx; injection hx with _ hx; cases hx)⟩
theorem rrNum_err {r : Reader69} (h : r.e_ ≠ 0) : rrNum r = (r, 0) := by
  have e : (r.e_ != 0) = true := by simpa using h
  unfold rrNum
  rw [e]; rfl
def rfin (secret b : Sl Int) (L : List Seen) : Sl Seen × Int := bif (((rpMake secret (Sl.mk L.isEmpty L)).2) != 0) then badR else (bif (!((strOf ((rpMake secret (Sl.mk L.isEmpty L)).1.D)).toList == (strOf b.D).toList)) then badR else ((Sl.mk L.isEmpty L), 0))
theorem rpRead_l1_any (kk : Int → Seen → Sl Seen × Int) : ∀ (k i : Nat) (w : Int) (s : Seen), ∃ w' s', rpRead_l1 kk k i w s = kk w' s'
  | 0, _, w, s => ⟨w, s, rfl⟩
  | k + 1, i, w, s => by
    unfold rpRead_l1
    exact rpRead_l1_any kk k (i + 1) _ _
theorem rpRead_l0_err (secret b : Sl Int) : ∀ (k i : Nat) (l : List Seen) (vc : Reader69), vc.e_ ≠ 0 → rpRead_l0 secret b k i l vc = badR
  | 0, i, l, vc, h => by
    unfold rpRead_l0
    rw [rrEnd_err h]; rfl
  | k + 1, i, l, vc, h => by
    unfold rpRead_l0
    rw [rrNum_err h]
    dsimp only
    obtain ⟨w', s', p1⟩ := rpRead_l1_any (fun _ vc2 => rpRead_l0 secret b k (i + 1) (l ++ [vc2]) ((rrIn vc 1 1099511627776).1)) 8 0 0 (Seen.mk (ofL [(0 : Int), 0, 0, 0, 0, 0, 0, 0]) ((rrIn vc 1 1099511627776).2))
    rw [p1]
    exact rpRead_l0_err secret b k (i + 1) _ _ (rrIn_err _ _ h)
theorem rpRead_l0_at (secret b : Sl Int) {D : List Int} (hD : B8 D) (hl : D.length ≤ 1000000) : ∀ (k i : Nat) (l : List Seen) (vc : Reader69) (rest : List Int), RrAt vc D rest →
    (∀ xs, decS k rest = some (xs, []) → ∃ ys : List Seen, ys.map rd = xs.map rd ∧ KB ys ∧ rpRead_l0 secret b k i l vc = rfin secret b (l ++ ys)) ∧ ((∀ xs, decS k rest ≠ some (xs, [])) → rpRead_l0 secret b k i l vc = badR)
  | 0, i, l, vc, rest, h => by
    have he := rrEnd_at h
    unfold rpRead_l0 decS
    rw [he]
    cases rest with
    | nil =>
      refine ⟨fun xs hx => ⟨[], ?_, (fun _ h => nomatch h), ?_⟩, fun hno => absurd rfl (hno [])⟩
      · injection hx with hx; injection hx with hx _; rw [← hx]
      · rw [List.append_nil]
        unfold rfin
        generalize (rpMake secret (Sl.mk l.isEmpty l)) = M
        rfl
    | cons y ys =>
      exact ⟨fun xs hx => (by injection hx with hx; injection hx with _ hx; cases hx), fun _ => rfl⟩
  | k + 1, i, l, vc, rest, h => by
    have h1 := rrNum_at h hD hl
    have hsub : ∀ x ∈ rest, 0 ≤ x ∧ x < 256 := fun x hx => hD x (h.suf.subset hx)
    have herr : ∀ (vc' : Reader69), vc'.e_ ≠ 0 → ∀ w v : Int, rpRead_l1 (fun _ vc2 => rpRead_l0 secret b k (i + 1) (l ++ [vc2]) vc') 8 0 w (Seen.mk (ofL [(0 : Int), 0, 0, 0, 0, 0, 0, 0]) v) = badR := fun vc' he w v => by
      obtain ⟨w', s', p1⟩ := rpRead_l1_any (fun _ vc2 => rpRead_l0 secret b k (i + 1) (l ++ [vc2]) vc') 8 0 w (Seen.mk (ofL [(0 : Int), 0, 0, 0, 0, 0, 0, 0]) v)
      rw [p1]
      exact rpRead_l0_err secret b k (i + 1) _ _ he
    unfold rpRead_l0 decS
    cases e1 : vd 0 rest with
    | none =>
      rw [e1] at h1
      exact ⟨fun xs hx => (by cases hx), fun _ => herr _ (rrIn_err _ _ h1) _ _⟩
    | some q =>
      obtain ⟨w, r1⟩ := q
      rw [e1] at h1
      dsimp only at h1 ⊢
      have hw := vd_lt hsub e1
      have h2 := rrIn_at 1 1099511627776 h1.1 hD hl
      rw [h1.2]
      cases e2 : rin 1 1099511627776 r1 with
      | none =>
        rw [e2] at h2
        exact ⟨fun xs hx => (by cases hx), fun _ => herr _ h2 _ _⟩
      | some q =>
        obtain ⟨v, r2⟩ := q
        rw [e2] at h2
        dsimp only at h2 ⊢
        rw [h2.2]
        obtain ⟨w', key', p1, p2⟩ := rpRead_l1_key (fun _ vc2 => rpRead_l0 secret b k (i + 1) (l ++ [vc2]) ((rrIn ((rrNum vc).1) 1 1099511627776).1)) (w : Int) (v : Int) (by omega) (by omega)
        rw [p1]
        obtain ⟨ih1, ih2⟩ := rpRead_l0_at secret b hD hl k (i + 1) (l ++ [Seen.mk key' (v : Int)]) _ r2 h2.1
        cases e3 : decS k r2 with
        | none =>
          rw [e3] at ih2
          exact ⟨fun xs hx => (by cases hx), fun _ => ih2 fun xs hx => (by cases hx)⟩
        | some q =>
          obtain ⟨zs, r3⟩ := q
          rw [e3] at ih1 ih2
          dsimp only
          refine ⟨fun xs hx => ?_, fun hno => ih2 fun xs hx => ?_⟩
          · injection hx with hx; injection hx with hx hr
            subst hr
            obtain ⟨ys, q1, q2, q3⟩ := ih1 zs rfl
            refine ⟨Seen.mk key' (v : Int) :: ys, ?_, ?_, ?_⟩
            · rw [← hx, List.map_cons, List.map_cons, q1]
              congr 1
              show (kL key', (v : Int)) = (kL (unw (w : Int)), (v : Int))
              rw [p2]
            · intro x hx'
              rcases List.mem_cons.1 hx' with rfl | hx'
              · exact KeyB_congr p2.symm (unw_B _)
              · exact q2 x hx'
            · rw [q3, List.append_assoc]; rfl
          · injection hx with hx; injection hx with _ hr
            subst hr
            exact hno _ rfl
theorem encS_rd : ∀ {a b : List Seen}, a.map rd = b.map rd → encS a = encS b
  | [], [], _ => rfl
  | [], _ :: _, h => by simp at h
  | _ :: _, [], h => by simp at h
  | x :: xs, y :: ys, h => by
    simp only [List.map_cons, List.cons.injEq] at h
    have h1 : kL x.key = kL y.key := congrArg Prod.fst h.1
    have h2 : x.ver = y.ver := congrArg Prod.snd h.1
    unfold encS
    rw [word_congr h1, h2, encS_rd h.2]
theorem encB_rd {a b : List Seen} (h : a.map rd = b.map rd) : encB a = encB b := by
  unfold encB
  rw [encS_rd h, len_rd h]
theorem parse_enc {D : List Int} {xs : List Seen} (hD : B8 D) (h : parse D = some xs) : D = encB xs ∧ (1 ≤ xs.length ∧ xs.length ≤ 6) ∧ KB xs := by
  unfold parse at h
  cases e1 : rin 1 6 D with
  | none => rw [e1] at h; cases h
  | some q =>
    obtain ⟨n, r⟩ := q
    rw [e1] at h
    dsimp only at h
    obtain ⟨g1, _, g3, g4⟩ := rin_some e1
    obtain ⟨f1, _, _⟩ := vd_vb 0 D n r hD g1
    cases e2 : decS n r with
    | none => rw [e2] at h; cases h
    | some q =>
      obtain ⟨zs, r3⟩ := q
      rw [e2] at h
      cases r3 with
      | cons y ys => cases h
      | nil =>
        injection h with h
        subst h
        obtain ⟨i1, i2, i3, _, _⟩ := enc_decS n r zs [] (fun x hx => hD x (by rw [f1]; simp [hx])) e2
        refine ⟨?_, by omega, i3⟩
        unfold encB
        have e : (IntKind.u64.wrap (zs.length : Int)).toNat = n := by rw [wrapU]; omega
        rw [e]
        rw [List.append_nil] at i1
        rw [← i1]; exact f1
theorem parse_encB {l : List Seen} (h1 : 1 ≤ l.length) (h6 : l.length ≤ 6) (hv : ∀ x ∈ l, 1 ≤ x.ver ∧ x.ver ≤ 1099511627776) : parse (encB l) = some (l.map back) := by
  have e : (IntKind.u64.wrap (l.length : Int)).toNat = l.length := by rw [wrapU]; omega
  have e1 : vd 0 (encB l) = some (l.length, encS l) := by
    unfold encB
    rw [e]
    exact vb_vd _ 0 _ (by omega) (fun q => absurd q (Nat.lt_irrefl 0))
  have e2 : rin 1 6 (encB l) = some (l.length, encS l) := by
    unfold rin
    rw [e1]
    dsimp only
    rw [if_pos (by omega)]
  have e3 := decS_enc l [] hv
  rw [List.append_nil] at e3
  unfold parse
  rw [e2]
  dsimp only
  rw [e3]
theorem back_rd : ∀ {l : List Seen}, KB l → (l.map back).map rd = l.map rd
  | [], _ => rfl
  | x :: xs, h => by
    obtain ⟨h1, h2⟩ := h.cons
    rw [List.map_cons, List.map_cons, List.map_cons, back_rd h2]
    congr 1
    show (kL (unw (word x.key)), x.ver) = (kL x.key, x.ver)
    rw [unw_word h1]
/-- Bytes, cut ahead of their seal. -/
def cutB (b : Sl Int) : Sl Int := Sl.mk b.nil (b.D.take (b.D.length - 8))
def cutT (b : Sl Int) : List Int := b.D.drop (b.D.length - 8)
theorem cut_eq (b : Sl Int) : b.D = (cutB b).D ++ cutT b := (List.take_append_drop _ _).symm
theorem cutB_B8 {b : Sl Int} (h : B8 b.D) : B8 (cutB b).D := fun x hx => h x (List.mem_of_mem_take hx)
theorem cutT_B8 {b : Sl Int} (h : B8 b.D) : B8 (cutT b) := fun x hx => h x (List.mem_of_mem_drop hx)
theorem wrap8c {n : Nat} (h : n ≤ 1000000) (h8 : 8 ≤ n) : (IntKind.i64.wrap ((n : Int) - 8)).toNat = n - 8 := by
  rw [wrapP (by omega)]; omega
/-- May the bytes be looked at? -/
def lookR (key b : Sl Int) : Option (Sl Seen × Int) := if key.D.length ≠ 16 then some (Sl.mk true [], 1) else if b.D = [] then some (Sl.mk true [], 0) else if 120 < b.D.length ∨ b.D.length < 8 then some badR else none
theorem look_chain {key b : Sl Int} (S : Sl Seen × Int) : (bif ((key.D.length : Int) != 16) then (Sl.mk true [], 1) else (bif ((b.D.length : Int) == 0) then (Sl.mk true [], 0) else (bif (decide ((b.D.length : Int) > 120)) then badR else (bif (decide ((b.D.length : Int) < 8)) then badR else S)))) = match lookR key b with
    | some r => r
    | none => S := by
  have e16 : ((key.D.length : Int) != 16) = !decide (key.D.length = 16) := by
    rw [Bool.eq_iff_iff]; simp; omega
  rw [e16, isEmpty_len]
  by_cases h : key.D.length = 16
  · by_cases hb : b.D = []
    · have e : lookR key b = some (Sl.mk true [], 0) := by unfold lookR; rw [if_neg (fun q => q h), if_pos hb]
      rw [e, decide_eq_true h, hb]; rfl
    · by_cases hn : 120 < b.D.length ∨ b.D.length < 8
      · have e : lookR key b = some badR := by unfold lookR; rw [if_neg (fun q => q h), if_neg hb, if_pos hn]
        rw [e, decide_eq_true h, show b.D.isEmpty = false by simpa using hb]
        by_cases h1 : 120 < b.D.length
        · rw [decide_eq_true (show (b.D.length : Int) > 120 by omega)]; rfl
        · rw [decide_eq_false (show ¬ (b.D.length : Int) > 120 by omega), decide_eq_true (show (b.D.length : Int) < 8 by omega)]; rfl
      · have e : lookR key b = none := by unfold lookR; rw [if_neg (fun q => q h), if_neg hb, if_neg hn]
        rw [e, decide_eq_true h, show b.D.isEmpty = false by simpa using hb, decide_eq_false (show ¬ (b.D.length : Int) > 120 by omega), decide_eq_false (show ¬ (b.D.length : Int) < 8 by omega)]; rfl
  · have e : lookR key b = some (Sl.mk true [], 1) := by unfold lookR; rw [if_pos h]
    rw [e, decide_eq_false h]; rfl
theorem lookR_none {key b : Sl Int} (h : lookR key b = none) : key.D.length = 16 ∧ b.D ≠ [] ∧ b.D.length ≤ 120 ∧ 8 ≤ b.D.length := by
  unfold lookR at h
  split at h
  · cases h
  · split at h
    · cases h
    · split at h
      · cases h
      · rename_i h1 h2 h3
        refine ⟨Classical.byContradiction h1, h2, ?_, ?_⟩ <;> omega
theorem pRead_eq {key b : Sl Int} (hB : B8 b.D) : pRead key b = match lookR key b with
    | some r => r
    | none => if sealL key (cutB b).D = cutT b then pRead_l0 (rdIn (rdNew (cutB b)) 1 6).2.toNat 0 [] (rdIn (rdNew (cutB b)) 1 6).1 else badR := by
  unfold pRead
  refine (look_chain _).trans ?_
  cases e : lookR key b with
  | some r => rfl
  | none =>
    obtain ⟨k16, hne, h120, h8⟩ := lookR_none e
    dsimp only
    rw [wrap8c (by omega) (by omega)]
    have e1 : (mark key (Sl.mk b.nil (b.D.take (b.D.length - 8)))).2 = if key.D.length = 16 then 0 else 1 := rfl
    have e2 : eqBytes (mark key (Sl.mk b.nil (b.D.take (b.D.length - 8)))).1 (Sl.mk b.nil (b.D.drop (b.D.length - 8))) = decide (sealL key (cutB b).D = cutT b) := by
      unfold eqBytes
      rw [mark_D]
      exact str_eq (sealL_B8 _ _) (cutT_B8 hB)
    rw [e1, if_pos k16, e2]
    show (bif !decide (sealL key (cutB b).D = cutT b) then badR else pRead_l0 (rdIn (rdNew (cutB b)) 1 6).2.toNat 0 [] (rdIn (rdNew (cutB b)) 1 6).1) = _
    generalize pRead_l0 (rdIn (rdNew (cutB b)) 1 6).2.toNat 0 [] (rdIn (rdNew (cutB b)) 1 6).1 = X
    by_cases hs : sealL key (cutB b).D = cutT b
    · rw [decide_eq_true hs, if_pos hs]; rfl
    · rw [decide_eq_false hs, if_neg hs]; rfl
theorem rpRead_eq {key b : Sl Int} : rpRead key b = match lookR key b with
    | some r => r
    | none => rpRead_l0 key b (rrIn (Reader69.mk (cutB b) 0 0) 1 6).2.toNat 0 [] (rrIn (Reader69.mk (cutB b) 0 0) 1 6).1 := by
  unfold rpRead
  refine (look_chain _).trans ?_
  cases e : lookR key b with
  | some r => rfl
  | none =>
    obtain ⟨k16, hne, h120, h8⟩ := lookR_none e
    dsimp only
    rw [wrap8c (by omega) (by omega)]; rfl
theorem rrNew_at (b : Sl Int) : RrAt (Reader69.mk b 0 0) b.D b.D := ⟨rfl, rfl, List.suffix_refl _, by show (0 : Int) = _; omega⟩
theorem rpRead_parse (key c b : Sl Int) (hB : B8 b.D) (hl : b.D.length ≤ 1000000) :
    (∀ xs, parse b.D = some xs → ∃ ys : List Seen, ys.map rd = xs.map rd ∧ KB ys ∧ rpRead_l0 key c (rrIn (Reader69.mk b 0 0) 1 6).2.toNat 0 [] (rrIn (Reader69.mk b 0 0) 1 6).1 = rfin key c ys) ∧ (parse b.D = none → rpRead_l0 key c (rrIn (Reader69.mk b 0 0) 1 6).2.toNat 0 [] (rrIn (Reader69.mk b 0 0) 1 6).1 = badR) := by
  have h1 := rrIn_at 1 6 (rrNew_at b) hB hl
  unfold parse
  cases e1 : rin 1 6 b.D with
  | none =>
    rw [e1] at h1
    exact ⟨fun xs hx => (by cases hx), fun _ => rpRead_l0_err _ _ _ _ _ _ h1⟩
  | some q =>
    obtain ⟨n, r⟩ := q
    rw [e1] at h1
    dsimp only at h1 ⊢
    rw [h1.2, Int.toNat_natCast]
    obtain ⟨i1, i2⟩ := rpRead_l0_at key c hB hl n 0 [] _ r h1.1
    cases e2 : decS n r with
    | none =>
      rw [e2] at i2
      exact ⟨fun xs hx => (by cases hx), fun _ => i2 fun xs hx => (by cases hx)⟩
    | some q =>
      obtain ⟨zs, r3⟩ := q
      rw [e2] at i1 i2
      cases r3 with
      | nil =>
        refine ⟨fun xs hx => ?_, fun hx => (by cases hx)⟩
        injection hx with hx
        subst hx
        exact i1 zs rfl
      | cons y ys => exact ⟨fun xs hx => (by cases hx), fun _ => i2 fun xs hx => (by injection hx with hx; injection hx with _ hx; cases hx)⟩
theorem passL_B8 (key : Sl Int) (l : List Seen) : B8 (passL key l) := fun x hx => by
  rcases List.mem_append.1 hx with hx | hx
  · exact encB_B8 l x hx
  · exact sealL_B8 _ _ x hx
/-- Both say the same. -/
theorem read_same {key b : Sl Int} (hB : B8 b.D) : (pRead key b).2 = (rpRead key b).2 ∧ (pRead key b).1.D.map rd = (rpRead key b).1.D.map rd := by
  rw [pRead_eq hB, rpRead_eq]
  cases e : lookR key b with
  | some r => exact ⟨rfl, rfl⟩
  | none =>
    obtain ⟨k16, hne, h120, h8⟩ := lookR_none e
    have hcl : (cutB b).D.length ≤ 1000000 := by
      show (b.D.take _).length ≤ _
      rw [List.length_take]; omega
    have hp := pRead_parse (cutB b) (cutB_B8 hB) hcl
    have hr := rpRead_parse key b (cutB b) (cutB_B8 hB) hcl
    dsimp only
    cases ep : parse (cutB b).D with
    | none =>
      rw [hp.2 ep, hr.2 ep]
      split <;> exact ⟨rfl, rfl⟩
    | some xs =>
      obtain ⟨ys, p1, p2, p3⟩ := hp.1 xs ep
      obtain ⟨zs, r1, r2, r3⟩ := hr.1 xs ep
      obtain ⟨c1, c2, c3⟩ := parse_enc (cutB_B8 hB) ep
      rw [p3, r3]
      have hyl : ys.length ≤ 1000000 := by rw [len_rd p1]; omega
      have hzl : zs.length ≤ 1000000 := by rw [len_rd r1]; omega
      have hpz : pRight (Sl.mk ys.isEmpty ys) = pRight (Sl.mk zs.isEmpty zs) := pRight_rd p2 r2 hyl (p1.trans r1.symm)
      unfold pfin rfin
      rw [rpMake_eq r2 hzl]
      unfold mkSpec
      rw [hpz]
      cases hq : (pRight (Sl.mk zs.isEmpty zs) != 0)
      · have hz1 : (Sl.mk zs.isEmpty zs).D.isEmpty = false := by
          show zs.isEmpty = false
          cases zs with
          | nil => have := len_rd r1; simp at this; omega
          | cons z zs => rfl
        have henc : passL key zs = (cutB b).D ++ sealL key (cutB b).D := by
          unfold passL
          rw [encB_rd r1, ← c1]
        rw [decide_eq_true k16, hz1]
        show (if sealL key (cutB b).D = cutT b then (Sl.mk ys.isEmpty ys, (0 : Int)) else badR).2 = (bif !((strOf (passL key zs)).toList == (strOf b.D).toList) then badR else (Sl.mk false zs, 0)).2 ∧ ((if sealL key (cutB b).D = cutT b then (Sl.mk ys.isEmpty ys, (0 : Int)) else badR).1.D.map rd) = ((bif !((strOf (passL key zs)).toList == (strOf b.D).toList) then badR else (Sl.mk false zs, 0)).1.D.map rd)
        rw [str_eq (passL_B8 _ _) hB, henc]
        by_cases hs : sealL key (cutB b).D = cutT b
        · rw [if_pos hs, decide_eq_true (by rw [hs]; exact (cut_eq b).symm)]
          exact ⟨rfl, p1.trans r1.symm⟩
        · rw [if_neg hs, decide_eq_false (fun q => hs (List.append_cancel_left (q.trans (cut_eq b))))]
          exact ⟨rfl, rfl⟩
      · split
        · refine ⟨?_, ?_⟩
          · show (100 : Int) = (bif ((Sl.mk true [], pRight (Sl.mk zs.isEmpty zs)) : Sl Int × Int).2 != 0 then badR else _).2
            show (100 : Int) = (bif (pRight (Sl.mk zs.isEmpty zs) != 0) then badR else _).2
            rw [hq]; rfl
          · show ([] : List Seen).map rd = (bif (pRight (Sl.mk zs.isEmpty zs) != 0) then badR else _).1.D.map rd
            rw [hq]; rfl
        · refine ⟨?_, ?_⟩
          · show (100 : Int) = (bif (pRight (Sl.mk zs.isEmpty zs) != 0) then badR else _).2
            rw [hq]; rfl
          · show ([] : List Seen).map rd = (bif (pRight (Sl.mk zs.isEmpty zs) != 0) then badR else _).1.D.map rd
            rw [hq]; rfl
theorem pfin_len {ys : List Seen} (hk : KB ys) (hl : ys.length ≤ 1000000) : (pfin ys).1.D.length ≤ 6 := by
  unfold pfin
  cases e : (pRight (Sl.mk ys.isEmpty ys) != 0)
  · have e0 : pRight (Sl.mk ys.isEmpty ys) = 0 := by simpa using e
    exact ((pRight_zero (l := Sl.mk ys.isEmpty ys) hk hl).1 e0).1
  · exact Nat.zero_le _
theorem pRead_len {key b : Sl Int} (hB : B8 b.D) : (pRead key b).1.D.length ≤ 6 := by
  rw [pRead_eq hB]
  cases e : lookR key b with
  | some r =>
    unfold lookR at e
    dsimp only
    split at e
    · injection e with e; rw [← e]; exact Nat.zero_le _
    · split at e
      · injection e with e; rw [← e]; exact Nat.zero_le _
      · split at e
        · injection e with e; rw [← e]; exact Nat.zero_le _
        · cases e
  | none =>
    obtain ⟨k16, hne, h120, h8⟩ := lookR_none e
    have hcl : (cutB b).D.length ≤ 1000000 := by
      show (b.D.take _).length ≤ _
      rw [List.length_take]; omega
    have hp := pRead_parse (cutB b) (cutB_B8 hB) hcl
    dsimp only
    split
    · cases ep : parse (cutB b).D with
      | none => rw [hp.2 ep]; exact Nat.zero_le _
      | some xs =>
        obtain ⟨ys, p1, p2, p3⟩ := hp.1 xs ep
        obtain ⟨c1, c2, c3⟩ := parse_enc (cutB_B8 hB) ep
        rw [p3]
        exact pfin_len p2 (by rw [len_rd p1]; omega)
    · exact Nat.zero_le _
theorem make_B8 (key : Sl Int) (l : Sl Seen) : B8 (pMake key l).1.D := by
  rw [pMake_eq]
  unfold mkSpec
  cases (pRight l != 0)
  · cases decide (key.D.length = 16)
    · exact fun x (h : x ∈ ([] : List Int)) => nomatch h
    · cases l.D.isEmpty
      · exact passL_B8 key l.D
      · exact fun x (h : x ∈ ([] : List Int)) => nomatch h
  · exact fun x (h : x ∈ ([] : List Int)) => nomatch h
theorem vb_len_le : ∀ (k n : Nat), n < 128 ^ (k + 1) → (vb n).length ≤ k + 1
  | 0, n, h => by rw [vb_lt (by simpa using h)]; exact Nat.le_refl _
  | k + 1, n, h => by
    rcases Nat.lt_or_ge n 128 with h1 | h1
    · rw [vb_lt h1]; show 1 ≤ _; omega
    · rw [vb_ge h1]
      have : n / 128 < 128 ^ (k + 1) := Nat.div_lt_of_lt_mul (by rw [Nat.pow_succ, Nat.mul_comm] at h; exact h)
      have := vb_len_le k (n / 128) this
      show (vb (n / 128)).length + 1 ≤ _
      omega
theorem encS_len16 : ∀ {l : List Seen}, (∀ x ∈ l, 1 ≤ x.ver ∧ x.ver ≤ 1099511627776) → (encS l).length ≤ 16 * l.length
  | [], _ => Nat.le_refl _
  | x :: xs, h => by
    have hx := h x (by simp)
    have h1 := vb_len (n := (word x.key).toNat) (by have := (word_ok x.key); omega)
    have e : IntKind.u64.wrap x.ver = x.ver := by rw [wrapU]; omega
    have hp : (128 : Nat) ^ (5 + 1) = 4398046511104 := by decide
    have h2 := vb_len_le 5 x.ver.toNat (by omega)
    have := encS_len16 (l := xs) fun y hy => h y (by simp [hy])
    unfold encS
    rw [e, List.length_append, List.length_append, List.length_cons]; omega
theorem encB_len6 {l : List Seen} (h6 : l.length ≤ 6) (hv : ∀ x ∈ l, 1 ≤ x.ver ∧ x.ver ≤ 1099511627776) : (encB l).length ≤ 97 := by
  have := encS_len16 hv
  have e : (IntKind.u64.wrap (l.length : Int)).toNat = l.length := by rw [wrapU]; omega
  unfold encB
  rw [e, vb_lt (by omega)]
  show (encS l).length + 1 ≤ _
  omega
theorem passL_cut (key : Sl Int) (l : List Seen) : (cutB (Sl.mk false (passL key l))).D = encB l ∧ cutT (Sl.mk false (passL key l)) = sealL key (encB l) := by
  have hl : (passL key l).length - 8 = (encB l).length := by
    unfold passL
    rw [List.length_append, sealL_len]; omega
  constructor
  · show (passL key l).take ((passL key l).length - 8) = _
    rw [hl]; exact List.take_left
  · show (passL key l).drop ((passL key l).length - 8) = _
    rw [hl]; exact List.drop_left
theorem pass_back {key : Sl Int} {l : Sl Seen} (hk : key.D.length = 16) (hl : KB l.D) (hl1 : l.D.length ≤ 1000000) (h0 : pRight l = 0) :
    (pMake key l).2 = 0 ∧ (pRead key (pMake key l).1).2 = 0 ∧ (pRead key (pMake key l).1).1.D.map rd = l.D.map rd ∧ (pMake key l).1.D.length ≤ 120 ∧ (pMake key l).1.D.isEmpty = l.D.isEmpty ∧ B8 (pMake key l).1.D := by
  obtain ⟨h6, hr⟩ := (pRight_zero hl hl1).1 h0
  rw [pMake_eq]
  unfold mkSpec
  rw [show (pRight l != 0) = false by simpa using h0, decide_eq_true hk, cond_false, cond_true]
  cases he : l.D.isEmpty
  · rw [cond_false]
    dsimp only
    have hv : ∀ x ∈ l.D, 1 ≤ x.ver ∧ x.ver ≤ 1099511627776 := fun x hx => by
      have := ver_ok (rt_mem hr x hx)
      omega
    have h1 : 1 ≤ l.D.length := by
      cases hD : l.D with
      | nil => rw [hD] at he; simp at he
      | cons x xs => simp
    have hlen := encB_len6 h6 hv
    have hpl : (passL key l.D).length = (encB l.D).length + 8 := by
      unfold passL
      rw [List.length_append, sealL_len]
    have hB : B8 (Sl.mk false (passL key l.D)).D := passL_B8 key l.D
    obtain ⟨c1, c2⟩ := passL_cut key l.D
    have hlook : lookR key (Sl.mk false (passL key l.D)) = none := by
      unfold lookR
      rw [if_neg (fun q => q hk), if_neg, if_neg]
      · show ¬ (120 < (passL key l.D).length ∨ (passL key l.D).length < 8)
        omega
      · intro q
        have : (passL key l.D).length = 0 := by
          have := congrArg List.length q
          exact this
        omega
    have hcl : (cutB (Sl.mk false (passL key l.D))).D.length ≤ 1000000 := by rw [c1]; omega
    have hp := pRead_parse (cutB (Sl.mk false (passL key l.D))) (cutB_B8 hB) hcl
    have hparse : parse (cutB (Sl.mk false (passL key l.D))).D = some (l.D.map back) := by
      rw [c1]; exact parse_encB h1 h6 hv
    obtain ⟨ys, p1, p2, p3⟩ := hp.1 _ hparse
    have hyr : ys.map rd = l.D.map rd := p1.trans (back_rd hl)
    have hread : pRead key (Sl.mk false (passL key l.D)) = pfin ys := by
      rw [pRead_eq hB, hlook]
      dsimp only
      rw [if_pos (by rw [c1, c2]), p3]
    have hpy : pRight (Sl.mk ys.isEmpty ys) = 0 := by
      rw [← h0]
      exact pRight_rd (X := Sl.mk ys.isEmpty ys) (Y := l) p2 hl (by show ys.length ≤ _; rw [len_rd hyr]; exact hl1) hyr
    have hfin : pfin ys = (Sl.mk ys.isEmpty ys, 0) := by
      unfold pfin
      rw [hpy]; rfl
    rw [hread, hfin]
    refine ⟨rfl, rfl, hyr, by omega, ?_, hB⟩
    cases hP : passL key l.D with
    | nil => rw [hP] at hpl; simp at hpl
    | cons a tl => rfl
  · rw [cond_true]
    have hD : l.D = [] := by simpa using he
    have hlook : lookR key (Sl.mk true []) = some (Sl.mk true [], 0) := by
      unfold lookR
      rw [if_neg (fun q => q hk), if_pos rfl]
    have hread : pRead key (Sl.mk true []) = (Sl.mk true [], 0) := by
      rw [pRead_eq (b := Sl.mk true []) (fun x (h : x ∈ ([] : List Int)) => nomatch h), hlook]
    dsimp only
    rw [hread, hD]
    exact ⟨rfl, rfl, rfl, Nat.zero_le _, rfl, fun x (h : x ∈ ([] : List Int)) => nomatch h⟩
def awake  : Bool :=
  (bif ((pSee (Sl.mk true []) (nameK [(97 : Int)]) 3).2 == 0) then (bif ((pSee (pSee (Sl.mk true []) (nameK [(97 : Int)]) 3).1 (nameK [(98 : Int)]) 1).2 == 0) then (bif ((pSee (pSee (pSee (Sl.mk true []) (nameK [(97 : Int)]) 3).1 (nameK [(98 : Int)]) 1).1 (nameK [(97 : Int)]) 2).2 == 0) then (bif (((pMake (Sl.mk false [48, 49, 50, 51, 52, 53, 54, 55, 56, 57, 97, 98, 99, 100, 101, 102]) (pSee (pSee (pSee (Sl.mk true []) (nameK [(97 : Int)]) 3).1 (nameK [(98 : Int)]) 1).1 (nameK [(97 : Int)]) 2).1).2) == 0) then (bif (((pRead (Sl.mk false [48, 49, 50, 51, 52, 53, 54, 55, 56, 57, 97, 98, 99, 100, 101, 102]) ((pMake (Sl.mk false [48, 49, 50, 51, 52, 53, 54, 55, 56, 57, 97, 98, 99, 100, 101, 102]) (pSee (pSee (pSee (Sl.mk true []) (nameK [(97 : Int)]) 3).1 (nameK [(98 : Int)]) 1).1 (nameK [(97 : Int)]) 2).1).1)).2) == 0) then (bif (((pRead (Sl.mk false [48, 49, 50, 51, 52, 53, 54, 55, 56, 57, 97, 98, 99, 100, 101, 102]) (Sl.mk false (List.replicate 7 0))).2) == 100) then (bif (eqSeen (pSee (pSee (pSee (Sl.mk true []) (nameK [(97 : Int)]) 3).1 (nameK [(98 : Int)]) 1).1 (nameK [(97 : Int)]) 2).1 (Sl.mk false [(Seen.mk (nameK [(97 : Int)]) 3), (Seen.mk (nameK [(98 : Int)]) 1)])) then (eqSeen ((pRead (Sl.mk false [48, 49, 50, 51, 52, 53, 54, 55, 56, 57, 97, 98, 99, 100, 101, 102]) ((pMake (Sl.mk false [48, 49, 50, 51, 52, 53, 54, 55, 56, 57, 97, 98, 99, 100, 101, 102]) (pSee (pSee (pSee (Sl.mk true []) (nameK [(97 : Int)]) 3).1 (nameK [(98 : Int)]) 1).1 (nameK [(97 : Int)]) 2).1).1)).1) (pSee (pSee (pSee (Sl.mk true []) (nameK [(97 : Int)]) 3).1 (nameK [(98 : Int)]) 1).1 (nameK [(97 : Int)]) 2).1) else false) else false) else false) else false) else false) else false) else false)
theorem awake_calls   : PCalls Tryd.prog 13 [] (.pv (.lit (.bool (awake )))) := by
 generalize hR : awake  = R
 refine PCalls.of_body tabOk Tryd.func13 rfl rfl rfl rfl rfl mixed fun E hP C hI => ?_
 refine Awp.consP C ?_
 refine rvP C (.pv (.lit (.bool false))) ?_
 refine rvc_nil ?_
 refine Awp.cons C (fun o => match o.dst with | some 13 => .writes [12] | _ => .writer) (by kernel_rfl) ?_
 refine rvc_un (rexec_prim C (δ := { v := .sl 12 0 ([48, 49, 50, 51, 52, 53, 54, 55, 56, 57, 97, 98, 99, 100, 101, 102].length) 1 true, new := [(12, .cells (encC (eI .u8) [48, 49, 50, 51, 52, 53, 54, 55, 56, 57, 97, 98, 99, 100, 101, 102]))] }) rfl rfl rfl rfl trivial rfl ?_)
 refine rvc_un (rexec_convOwn C rfl [48, 49, 50, 51, 52, 53, 54, 55, 56, 57, 97, 98, 99, 100, 101, 102] rfl rfl rfl rfl rfl rfl rfl ?_)
 refine rvP C (sS (some false) (eI .u8) [48, 49, 50, 51, 52, 53, 54, 55, 56, 57, 97, 98, 99, 100, 101, 102]) ?_
 refine rvc_nil ?_
 refine Awp.consP C ?_
 refine rvc_un (rexec_call hP C rfl rfl rfl (nameK_calls [(97 : Int)] (rng8 97 (by decide))) ?_)
 obtain ⟨s1, hq_s1⟩ : ∃ q_, q_ = (pSee (Sl.mk true []) (nameK [(97 : Int)]) 3) := ⟨_, rfl⟩
 have hc_s1 := (pSee_calls (Sl.mk true []) (nameK [(97 : Int)]) 3 KB_nil (name1_B 97 (by decide)) (fun _ => rfl) (Nat.zero_le _))
 first | rw [← hq_s1] at hR hc_s1 | (unfold awake at hR; rw [← hq_s1] at hR hc_s1)
 have hf0_s1 := pSee_ok (l := (Sl.mk true [])) (k := (nameK [(97 : Int)])) (v := 3) KB_nil (name1_B 97 (by decide)) (fun _ => rfl) (Nat.zero_le _)
 rw [← hq_s1] at hf0_s1
 refine rvc_un (rexec_call hP C rfl rfl rfl hc_s1 ?_)
 refine rvP C (.tup [sS (some s1.1.nil) eSeen s1.1.D, .pv (.lit (.int .i64 s1.2))]) ?_
 refine rvP C (sS (some s1.1.nil) eSeen s1.1.D) ?_
 refine rvP C (.pv (.lit (.int .i64 s1.2))) ?_
 refine rvP C (sS (some s1.1.nil) eSeen s1.1.D) ?_
 refine rvP C (.pv (.lit (.int .i64 s1.2))) ?_
 refine rvc_nil ?_
 refine Awp.consP C ?_
 refine rvP C (sS (some s1.1.nil) eSeen s1.1.D) ?_
 refine rvc_un (rexec_call hP C rfl rfl rfl (nameK_calls [(98 : Int)] (rng8 98 (by decide))) ?_)
 obtain ⟨s2, hq_s2⟩ : ∃ q_, q_ = (pSee s1.1 (nameK [(98 : Int)]) 1) := ⟨_, rfl⟩
 have hc_s2 := (pSee_calls s1.1 (nameK [(98 : Int)]) 1 hf0_s1.1 (name1_B 98 (by decide)) hf0_s1.2.1 hf0_s1.2.2)
 first | rw [← hq_s2] at hR hc_s2 | (unfold awake at hR; rw [← hq_s2] at hR hc_s2)
 have hf0_s2 := pSee_ok (l := s1.1) (k := (nameK [(98 : Int)])) (v := 1) hf0_s1.1 (name1_B 98 (by decide)) hf0_s1.2.1 hf0_s1.2.2
 rw [← hq_s2] at hf0_s2
 refine rvc_un (rexec_call hP C rfl rfl rfl hc_s2 ?_)
 refine rvP C (.tup [sS (some s2.1.nil) eSeen s2.1.D, .pv (.lit (.int .i64 s2.2))]) ?_
 refine rvP C (sS (some s2.1.nil) eSeen s2.1.D) ?_
 refine rvP C (.pv (.lit (.int .i64 s2.2))) ?_
 refine rvP C (sS (some s2.1.nil) eSeen s2.1.D) ?_
 refine rvP C (.pv (.lit (.int .i64 s2.2))) ?_
 refine rvc_nil ?_
 refine Awp.consP C ?_
 refine rvP C (sS (some s2.1.nil) eSeen s2.1.D) ?_
 refine rvc_un (rexec_call hP C rfl rfl rfl (nameK_calls [(97 : Int)] (rng8 97 (by decide))) ?_)
 obtain ⟨s3, hq_s3⟩ : ∃ q_, q_ = (pSee s2.1 (nameK [(97 : Int)]) 2) := ⟨_, rfl⟩
 have hc_s3 := (pSee_calls s2.1 (nameK [(97 : Int)]) 2 hf0_s2.1 (name1_B 97 (by decide)) hf0_s2.2.1 hf0_s2.2.2)
 first | rw [← hq_s3] at hR hc_s3 | (unfold awake at hR; rw [← hq_s3] at hR hc_s3)
 have hf0_s3 := pSee_ok (l := s2.1) (k := (nameK [(97 : Int)])) (v := 2) hf0_s2.1 (name1_B 97 (by decide)) hf0_s2.2.1 hf0_s2.2.2
 rw [← hq_s3] at hf0_s3
 refine rvc_un (rexec_call hP C rfl rfl rfl hc_s3 ?_)
 refine rvP C (.tup [sS (some s3.1.nil) eSeen s3.1.D, .pv (.lit (.int .i64 s3.2))]) ?_
 refine rvP C (sS (some s3.1.nil) eSeen s3.1.D) ?_
 refine rvP C (.pv (.lit (.int .i64 s3.2))) ?_
 refine rvP C (sS (some s3.1.nil) eSeen s3.1.D) ?_
 refine rvP C (.pv (.lit (.int .i64 s3.2))) ?_
 refine rvc_nil ?_
 refine Awp.consP C ?_
 refine rvP C (sS (some false) (eI .u8) [48, 49, 50, 51, 52, 53, 54, 55, 56, 57, 97, 98, 99, 100, 101, 102]) ?_
 refine rvP C (sS (some s3.1.nil) eSeen s3.1.D) ?_
 refine rvc_un (rexec_call hP C rfl rfl rfl (pMake_calls (Sl.mk false [48, 49, 50, 51, 52, 53, 54, 55, 56, 57, 97, 98, 99, 100, 101, 102]) s3.1 hf0_s3.1 hf0_s3.2.2) ?_)
 refine rvP C (.tup [sS (some (pMake (Sl.mk false [48, 49, 50, 51, 52, 53, 54, 55, 56, 57, 97, 98, 99, 100, 101, 102]) s3.1).1.nil) (eI .u8) ((pMake (Sl.mk false [48, 49, 50, 51, 52, 53, 54, 55, 56, 57, 97, 98, 99, 100, 101, 102]) s3.1).1.D), .pv (.lit (.int .i64 ((pMake (Sl.mk false [48, 49, 50, 51, 52, 53, 54, 55, 56, 57, 97, 98, 99, 100, 101, 102]) s3.1).2)))]) ?_
 refine rvP C (sS (some (pMake (Sl.mk false [48, 49, 50, 51, 52, 53, 54, 55, 56, 57, 97, 98, 99, 100, 101, 102]) s3.1).1.nil) (eI .u8) ((pMake (Sl.mk false [48, 49, 50, 51, 52, 53, 54, 55, 56, 57, 97, 98, 99, 100, 101, 102]) s3.1).1.D)) ?_
 refine rvP C (.pv (.lit (.int .i64 ((pMake (Sl.mk false [48, 49, 50, 51, 52, 53, 54, 55, 56, 57, 97, 98, 99, 100, 101, 102]) s3.1).2)))) ?_
 refine rvP C (sS (some (pMake (Sl.mk false [48, 49, 50, 51, 52, 53, 54, 55, 56, 57, 97, 98, 99, 100, 101, 102]) s3.1).1.nil) (eI .u8) ((pMake (Sl.mk false [48, 49, 50, 51, 52, 53, 54, 55, 56, 57, 97, 98, 99, 100, 101, 102]) s3.1).1.D)) ?_
 refine rvP C (.pv (.lit (.int .i64 ((pMake (Sl.mk false [48, 49, 50, 51, 52, 53, 54, 55, 56, 57, 97, 98, 99, 100, 101, 102]) s3.1).2)))) ?_
 refine rvc_nil ?_
 refine Awp.consP C ?_
 refine rvP C (sS (some false) (eI .u8) [48, 49, 50, 51, 52, 53, 54, 55, 56, 57, 97, 98, 99, 100, 101, 102]) ?_
 refine rvP C (sS (some (pMake (Sl.mk false [48, 49, 50, 51, 52, 53, 54, 55, 56, 57, 97, 98, 99, 100, 101, 102]) s3.1).1.nil) (eI .u8) ((pMake (Sl.mk false [48, 49, 50, 51, 52, 53, 54, 55, 56, 57, 97, 98, 99, 100, 101, 102]) s3.1).1.D)) ?_
 refine rvc_un (rexec_call hP C rfl rfl rfl (pRead_calls (Sl.mk false [48, 49, 50, 51, 52, 53, 54, 55, 56, 57, 97, 98, 99, 100, 101, 102]) ((pMake (Sl.mk false [48, 49, 50, 51, 52, 53, 54, 55, 56, 57, 97, 98, 99, 100, 101, 102]) s3.1).1)) ?_)
 refine rvP C (.tup [sS (some (pRead (Sl.mk false [48, 49, 50, 51, 52, 53, 54, 55, 56, 57, 97, 98, 99, 100, 101, 102]) ((pMake (Sl.mk false [48, 49, 50, 51, 52, 53, 54, 55, 56, 57, 97, 98, 99, 100, 101, 102]) s3.1).1)).1.nil) eSeen ((pRead (Sl.mk false [48, 49, 50, 51, 52, 53, 54, 55, 56, 57, 97, 98, 99, 100, 101, 102]) ((pMake (Sl.mk false [48, 49, 50, 51, 52, 53, 54, 55, 56, 57, 97, 98, 99, 100, 101, 102]) s3.1).1)).1.D), .pv (.lit (.int .i64 ((pRead (Sl.mk false [48, 49, 50, 51, 52, 53, 54, 55, 56, 57, 97, 98, 99, 100, 101, 102]) ((pMake (Sl.mk false [48, 49, 50, 51, 52, 53, 54, 55, 56, 57, 97, 98, 99, 100, 101, 102]) s3.1).1)).2)))]) ?_
 refine rvP C (sS (some (pRead (Sl.mk false [48, 49, 50, 51, 52, 53, 54, 55, 56, 57, 97, 98, 99, 100, 101, 102]) ((pMake (Sl.mk false [48, 49, 50, 51, 52, 53, 54, 55, 56, 57, 97, 98, 99, 100, 101, 102]) s3.1).1)).1.nil) eSeen ((pRead (Sl.mk false [48, 49, 50, 51, 52, 53, 54, 55, 56, 57, 97, 98, 99, 100, 101, 102]) ((pMake (Sl.mk false [48, 49, 50, 51, 52, 53, 54, 55, 56, 57, 97, 98, 99, 100, 101, 102]) s3.1).1)).1.D)) ?_
 refine rvP C (.pv (.lit (.int .i64 ((pRead (Sl.mk false [48, 49, 50, 51, 52, 53, 54, 55, 56, 57, 97, 98, 99, 100, 101, 102]) ((pMake (Sl.mk false [48, 49, 50, 51, 52, 53, 54, 55, 56, 57, 97, 98, 99, 100, 101, 102]) s3.1).1)).2)))) ?_
 refine rvP C (sS (some (pRead (Sl.mk false [48, 49, 50, 51, 52, 53, 54, 55, 56, 57, 97, 98, 99, 100, 101, 102]) ((pMake (Sl.mk false [48, 49, 50, 51, 52, 53, 54, 55, 56, 57, 97, 98, 99, 100, 101, 102]) s3.1).1)).1.nil) eSeen ((pRead (Sl.mk false [48, 49, 50, 51, 52, 53, 54, 55, 56, 57, 97, 98, 99, 100, 101, 102]) ((pMake (Sl.mk false [48, 49, 50, 51, 52, 53, 54, 55, 56, 57, 97, 98, 99, 100, 101, 102]) s3.1).1)).1.D)) ?_
 refine rvP C (.pv (.lit (.int .i64 ((pRead (Sl.mk false [48, 49, 50, 51, 52, 53, 54, 55, 56, 57, 97, 98, 99, 100, 101, 102]) ((pMake (Sl.mk false [48, 49, 50, 51, 52, 53, 54, 55, 56, 57, 97, 98, 99, 100, 101, 102]) s3.1).1)).2)))) ?_
 refine rvc_nil ?_
 refine Awp.consP C ?_
 refine rvP C (sS (some false) (eI .u8) [48, 49, 50, 51, 52, 53, 54, 55, 56, 57, 97, 98, 99, 100, 101, 102]) ?_
 refine rvc_un (rexec_makeSliceF C (encL (eI .u8) (List.replicate 7 0)) (List.replicate 7 0).length rfl rfl rfl rfl rfl (by decide) rfl rfl ?_)
 refine rvc_un (rexec_call hP C rfl rfl rfl (pRead_calls (Sl.mk false [48, 49, 50, 51, 52, 53, 54, 55, 56, 57, 97, 98, 99, 100, 101, 102]) (Sl.mk false (List.replicate 7 0))) ?_)
 refine rvP C (.tup [sS (some (pRead (Sl.mk false [48, 49, 50, 51, 52, 53, 54, 55, 56, 57, 97, 98, 99, 100, 101, 102]) (Sl.mk false (List.replicate 7 0))).1.nil) eSeen ((pRead (Sl.mk false [48, 49, 50, 51, 52, 53, 54, 55, 56, 57, 97, 98, 99, 100, 101, 102]) (Sl.mk false (List.replicate 7 0))).1.D), .pv (.lit (.int .i64 ((pRead (Sl.mk false [48, 49, 50, 51, 52, 53, 54, 55, 56, 57, 97, 98, 99, 100, 101, 102]) (Sl.mk false (List.replicate 7 0))).2)))]) ?_
 refine rvP C (sS (some (pRead (Sl.mk false [48, 49, 50, 51, 52, 53, 54, 55, 56, 57, 97, 98, 99, 100, 101, 102]) (Sl.mk false (List.replicate 7 0))).1.nil) eSeen ((pRead (Sl.mk false [48, 49, 50, 51, 52, 53, 54, 55, 56, 57, 97, 98, 99, 100, 101, 102]) (Sl.mk false (List.replicate 7 0))).1.D)) ?_
 refine rvP C (.pv (.lit (.int .i64 ((pRead (Sl.mk false [48, 49, 50, 51, 52, 53, 54, 55, 56, 57, 97, 98, 99, 100, 101, 102]) (Sl.mk false (List.replicate 7 0))).2)))) ?_
 refine rvP C (sS (some (pRead (Sl.mk false [48, 49, 50, 51, 52, 53, 54, 55, 56, 57, 97, 98, 99, 100, 101, 102]) (Sl.mk false (List.replicate 7 0))).1.nil) eSeen ((pRead (Sl.mk false [48, 49, 50, 51, 52, 53, 54, 55, 56, 57, 97, 98, 99, 100, 101, 102]) (Sl.mk false (List.replicate 7 0))).1.D)) ?_
 refine rvP C (.pv (.lit (.int .i64 ((pRead (Sl.mk false [48, 49, 50, 51, 52, 53, 54, 55, 56, 57, 97, 98, 99, 100, 101, 102]) (Sl.mk false (List.replicate 7 0))).2)))) ?_
 refine rvc_nil ?_
 refine Awp.consP C ?_
 refine rvP C (.pv (.lit (.int .i64 s1.2))) ?_
 refine rvP C (.pv (.lit (.bool (s1.2 == 0)))) ?_
 refine rvP C (.pv (.lit (.bool (s1.2 == 0)))) ?_
 refine rvc_case 51 (s1.2 == 0) rfl (fun h1 => ?_) (fun h1 => ?_)
 ·
  replace hR := of_true h1 hR
  refine rvO C (.pv (.lit (.int .i64 s2.2))) ?_
  refine rvO C (.pv (.lit (.bool (s2.2 == 0)))) ?_
  refine rvP C (.pv (.lit (.bool (s2.2 == 0)))) ?_
  refine rvP C (.pv (.lit (.bool (s2.2 == 0)))) ?_
  refine rvc_case 55 (s2.2 == 0) rfl (fun h2 => ?_) (fun h2 => ?_)
  ·
   replace hR := of_true h2 hR
   refine rvO C (.pv (.lit (.int .i64 s3.2))) ?_
   refine rvO C (.pv (.lit (.bool (s3.2 == 0)))) ?_
   refine rvP C (.pv (.lit (.bool (s3.2 == 0)))) ?_
   refine rvP C (.pv (.lit (.bool (s3.2 == 0)))) ?_
   refine rvc_case 59 (s3.2 == 0) rfl (fun h3 => ?_) (fun h3 => ?_)
   ·
    replace hR := of_true h3 hR
    refine rvO C (.pv (.lit (.int .i64 ((pMake (Sl.mk false [48, 49, 50, 51, 52, 53, 54, 55, 56, 57, 97, 98, 99, 100, 101, 102]) s3.1).2)))) ?_
    refine rvO C (.pv (.lit (.bool (((pMake (Sl.mk false [48, 49, 50, 51, 52, 53, 54, 55, 56, 57, 97, 98, 99, 100, 101, 102]) s3.1).2) == 0)))) ?_
    refine rvP C (.pv (.lit (.bool (((pMake (Sl.mk false [48, 49, 50, 51, 52, 53, 54, 55, 56, 57, 97, 98, 99, 100, 101, 102]) s3.1).2) == 0)))) ?_
    refine rvP C (.pv (.lit (.bool (((pMake (Sl.mk false [48, 49, 50, 51, 52, 53, 54, 55, 56, 57, 97, 98, 99, 100, 101, 102]) s3.1).2) == 0)))) ?_
    refine rvc_case 63 (((pMake (Sl.mk false [48, 49, 50, 51, 52, 53, 54, 55, 56, 57, 97, 98, 99, 100, 101, 102]) s3.1).2) == 0) rfl (fun h4 => ?_) (fun h4 => ?_)
    ·
     replace hR := of_true h4 hR
     refine rvO C (.pv (.lit (.int .i64 ((pRead (Sl.mk false [48, 49, 50, 51, 52, 53, 54, 55, 56, 57, 97, 98, 99, 100, 101, 102]) ((pMake (Sl.mk false [48, 49, 50, 51, 52, 53, 54, 55, 56, 57, 97, 98, 99, 100, 101, 102]) s3.1).1)).2)))) ?_
     refine rvO C (.pv (.lit (.bool (((pRead (Sl.mk false [48, 49, 50, 51, 52, 53, 54, 55, 56, 57, 97, 98, 99, 100, 101, 102]) ((pMake (Sl.mk false [48, 49, 50, 51, 52, 53, 54, 55, 56, 57, 97, 98, 99, 100, 101, 102]) s3.1).1)).2) == 0)))) ?_
     refine rvP C (.pv (.lit (.bool (((pRead (Sl.mk false [48, 49, 50, 51, 52, 53, 54, 55, 56, 57, 97, 98, 99, 100, 101, 102]) ((pMake (Sl.mk false [48, 49, 50, 51, 52, 53, 54, 55, 56, 57, 97, 98, 99, 100, 101, 102]) s3.1).1)).2) == 0)))) ?_
     refine rvP C (.pv (.lit (.bool (((pRead (Sl.mk false [48, 49, 50, 51, 52, 53, 54, 55, 56, 57, 97, 98, 99, 100, 101, 102]) ((pMake (Sl.mk false [48, 49, 50, 51, 52, 53, 54, 55, 56, 57, 97, 98, 99, 100, 101, 102]) s3.1).1)).2) == 0)))) ?_
     refine rvc_case 67 (((pRead (Sl.mk false [48, 49, 50, 51, 52, 53, 54, 55, 56, 57, 97, 98, 99, 100, 101, 102]) ((pMake (Sl.mk false [48, 49, 50, 51, 52, 53, 54, 55, 56, 57, 97, 98, 99, 100, 101, 102]) s3.1).1)).2) == 0) rfl (fun h5 => ?_) (fun h5 => ?_)
     ·
      replace hR := of_true h5 hR
      refine rvO C (.pv (.lit (.int .i64 ((pRead (Sl.mk false [48, 49, 50, 51, 52, 53, 54, 55, 56, 57, 97, 98, 99, 100, 101, 102]) (Sl.mk false (List.replicate 7 0))).2)))) ?_
      refine rvO C (.pv (.lit (.bool (((pRead (Sl.mk false [48, 49, 50, 51, 52, 53, 54, 55, 56, 57, 97, 98, 99, 100, 101, 102]) (Sl.mk false (List.replicate 7 0))).2) == 100)))) ?_
      refine rvP C (.pv (.lit (.bool (((pRead (Sl.mk false [48, 49, 50, 51, 52, 53, 54, 55, 56, 57, 97, 98, 99, 100, 101, 102]) (Sl.mk false (List.replicate 7 0))).2) == 100)))) ?_
      refine rvP C (.pv (.lit (.bool (((pRead (Sl.mk false [48, 49, 50, 51, 52, 53, 54, 55, 56, 57, 97, 98, 99, 100, 101, 102]) (Sl.mk false (List.replicate 7 0))).2) == 100)))) ?_
      refine rvc_case 71 (((pRead (Sl.mk false [48, 49, 50, 51, 52, 53, 54, 55, 56, 57, 97, 98, 99, 100, 101, 102]) (Sl.mk false (List.replicate 7 0))).2) == 100) rfl (fun h6 => ?_) (fun h6 => ?_)
      ·
       replace hR := of_true h6 hR
       refine rvO C (sS (some s3.1.nil) eSeen s3.1.D) ?_
       refine rvc_open rfl rfl rfl (rexec_call hP C rfl rfl rfl (nameK_calls [(97 : Int)] (rng8 97 (by decide))) ?_)
       refine rvO C (.agg [.pv (.lit (.int .u8 ((nameK [(97 : Int)]) 0))), .pv (.lit (.int .u8 ((nameK [(97 : Int)]) 1))), .pv (.lit (.int .u8 ((nameK [(97 : Int)]) 2))), .pv (.lit (.int .u8 ((nameK [(97 : Int)]) 3))), .pv (.lit (.int .u8 ((nameK [(97 : Int)]) 4))), .pv (.lit (.int .u8 ((nameK [(97 : Int)]) 5))), .pv (.lit (.int .u8 ((nameK [(97 : Int)]) 6))), .pv (.lit (.int .u8 ((nameK [(97 : Int)]) 7))), .pv (.lit (.int .i64 3))]) ?_
       refine rvc_open rfl rfl rfl (rexec_call hP C rfl rfl rfl (nameK_calls [(98 : Int)] (rng8 98 (by decide))) ?_)
       refine rvO C (.agg [.pv (.lit (.int .u8 ((nameK [(98 : Int)]) 0))), .pv (.lit (.int .u8 ((nameK [(98 : Int)]) 1))), .pv (.lit (.int .u8 ((nameK [(98 : Int)]) 2))), .pv (.lit (.int .u8 ((nameK [(98 : Int)]) 3))), .pv (.lit (.int .u8 ((nameK [(98 : Int)]) 4))), .pv (.lit (.int .u8 ((nameK [(98 : Int)]) 5))), .pv (.lit (.int .u8 ((nameK [(98 : Int)]) 6))), .pv (.lit (.int .u8 ((nameK [(98 : Int)]) 7))), .pv (.lit (.int .i64 1))]) ?_
       refine rvc_open rfl rfl rfl (rexec_buildSliceF C eSeen [(Seen.mk (nameK [(97 : Int)]) 3), (Seen.mk (nameK [(98 : Int)]) 1)] rfl rfl rfl rfl rfl rfl rfl (by decide) rfl ?_)
       refine rvc_open rfl rfl rfl (rexec_call hP C rfl rfl rfl (eqSeen_calls s3.1 (Sl.mk false [(Seen.mk (nameK [(97 : Int)]) 3), (Seen.mk (nameK [(98 : Int)]) 1)]) (Nat.le_trans hf0_s3.2.2 (by decide))) ?_)
       refine rvP C (.pv (.lit (.bool (eqSeen s3.1 (Sl.mk false [(Seen.mk (nameK [(97 : Int)]) 3), (Seen.mk (nameK [(98 : Int)]) 1)]))))) ?_
       refine rvP C (.pv (.lit (.bool (eqSeen s3.1 (Sl.mk false [(Seen.mk (nameK [(97 : Int)]) 3), (Seen.mk (nameK [(98 : Int)]) 1)]))))) ?_
       refine rvc_case 80 (eqSeen s3.1 (Sl.mk false [(Seen.mk (nameK [(97 : Int)]) 3), (Seen.mk (nameK [(98 : Int)]) 1)])) rfl (fun h7 => ?_) (fun h7 => ?_)
       ·
        replace hR := of_true h7 hR
        refine rvO C (sS (some (pRead (Sl.mk false [48, 49, 50, 51, 52, 53, 54, 55, 56, 57, 97, 98, 99, 100, 101, 102]) ((pMake (Sl.mk false [48, 49, 50, 51, 52, 53, 54, 55, 56, 57, 97, 98, 99, 100, 101, 102]) s3.1).1)).1.nil) eSeen ((pRead (Sl.mk false [48, 49, 50, 51, 52, 53, 54, 55, 56, 57, 97, 98, 99, 100, 101, 102]) ((pMake (Sl.mk false [48, 49, 50, 51, 52, 53, 54, 55, 56, 57, 97, 98, 99, 100, 101, 102]) s3.1).1)).1.D)) ?_
        refine rvO C (sS (some s3.1.nil) eSeen s3.1.D) ?_
        refine rvc_open rfl rfl rfl (rexec_call hP C rfl rfl rfl (eqSeen_calls ((pRead (Sl.mk false [48, 49, 50, 51, 52, 53, 54, 55, 56, 57, 97, 98, 99, 100, 101, 102]) ((pMake (Sl.mk false [48, 49, 50, 51, 52, 53, 54, 55, 56, 57, 97, 98, 99, 100, 101, 102]) s3.1).1)).1) s3.1 (Nat.le_trans (pRead_len (make_B8 _ _)) (by decide))) ?_)
        refine rvP C (.pv (.lit (.bool (eqSeen ((pRead (Sl.mk false [48, 49, 50, 51, 52, 53, 54, 55, 56, 57, 97, 98, 99, 100, 101, 102]) ((pMake (Sl.mk false [48, 49, 50, 51, 52, 53, 54, 55, 56, 57, 97, 98, 99, 100, 101, 102]) s3.1).1)).1) s3.1)))) ?_
        refine rvP C (.pv (.lit (.bool (eqSeen ((pRead (Sl.mk false [48, 49, 50, 51, 52, 53, 54, 55, 56, 57, 97, 98, 99, 100, 101, 102]) ((pMake (Sl.mk false [48, 49, 50, 51, 52, 53, 54, 55, 56, 57, 97, 98, 99, 100, 101, 102]) s3.1).1)).1) s3.1)))) ?_
        refine rvc_nil ?_
        refine Awp.ret ?_
        subst hR
        exact ⟨.inl rfl, rfl⟩
       ·
        replace hR := of_false h7 hR
        refine rvS ?_
        refine rvS ?_
        refine rvS ?_
        refine rvP C (.pv (.lit (.bool false))) ?_
        refine rvP C (.pv (.lit (.bool false))) ?_
        refine rvc_nil ?_
        refine Awp.ret ?_
        subst hR
        exact ⟨.inl rfl, rfl⟩
      ·
       replace hR := of_false h6 hR
       refine rvS ?_
       refine rvS ?_
       refine rvS ?_
       refine rvS ?_
       refine rvS ?_
       refine rvS ?_
       refine rvS ?_
       refine rvP C (.pv (.lit (.bool false))) ?_
       refine rvP C (.pv (.lit (.bool false))) ?_
       refine rvS ?_
       refine rvS ?_
       refine rvS ?_
       refine rvP C (.pv (.lit (.bool false))) ?_
       refine rvP C (.pv (.lit (.bool false))) ?_
       refine rvc_nil ?_
       refine Awp.ret ?_
       subst hR
       exact ⟨.inl rfl, rfl⟩
     ·
      replace hR := of_false h5 hR
      refine rvS ?_
      refine rvS ?_
      refine rvP C (.pv (.lit (.bool false))) ?_
      refine rvP C (.pv (.lit (.bool false))) ?_
      refine rvS ?_
      refine rvS ?_
      refine rvS ?_
      refine rvS ?_
      refine rvS ?_
      refine rvS ?_
      refine rvS ?_
      refine rvP C (.pv (.lit (.bool false))) ?_
      refine rvP C (.pv (.lit (.bool false))) ?_
      refine rvS ?_
      refine rvS ?_
      refine rvS ?_
      refine rvP C (.pv (.lit (.bool false))) ?_
      refine rvP C (.pv (.lit (.bool false))) ?_
      refine rvc_nil ?_
      refine Awp.ret ?_
      subst hR
      exact ⟨.inl rfl, rfl⟩
    ·
     replace hR := of_false h4 hR
     refine rvS ?_
     refine rvS ?_
     refine rvP C (.pv (.lit (.bool false))) ?_
     refine rvP C (.pv (.lit (.bool false))) ?_
     refine rvS ?_
     refine rvS ?_
     refine rvP C (.pv (.lit (.bool false))) ?_
     refine rvP C (.pv (.lit (.bool false))) ?_
     refine rvS ?_
     refine rvS ?_
     refine rvS ?_
     refine rvS ?_
     refine rvS ?_
     refine rvS ?_
     refine rvS ?_
     refine rvP C (.pv (.lit (.bool false))) ?_
     refine rvP C (.pv (.lit (.bool false))) ?_
     refine rvS ?_
     refine rvS ?_
     refine rvS ?_
     refine rvP C (.pv (.lit (.bool false))) ?_
     refine rvP C (.pv (.lit (.bool false))) ?_
     refine rvc_nil ?_
     refine Awp.ret ?_
     subst hR
     exact ⟨.inl rfl, rfl⟩
   ·
    replace hR := of_false h3 hR
    refine rvS ?_
    refine rvS ?_
    refine rvP C (.pv (.lit (.bool false))) ?_
    refine rvP C (.pv (.lit (.bool false))) ?_
    refine rvS ?_
    refine rvS ?_
    refine rvP C (.pv (.lit (.bool false))) ?_
    refine rvP C (.pv (.lit (.bool false))) ?_
    refine rvS ?_
    refine rvS ?_
    refine rvP C (.pv (.lit (.bool false))) ?_
    refine rvP C (.pv (.lit (.bool false))) ?_
    refine rvS ?_
    refine rvS ?_
    refine rvS ?_
    refine rvS ?_
    refine rvS ?_
    refine rvS ?_
    refine rvS ?_
    refine rvP C (.pv (.lit (.bool false))) ?_
    refine rvP C (.pv (.lit (.bool false))) ?_
    refine rvS ?_
    refine rvS ?_
    refine rvS ?_
    refine rvP C (.pv (.lit (.bool false))) ?_
    refine rvP C (.pv (.lit (.bool false))) ?_
    refine rvc_nil ?_
    refine Awp.ret ?_
    subst hR
    exact ⟨.inl rfl, rfl⟩
  ·
   replace hR := of_false h2 hR
   refine rvS ?_
   refine rvS ?_
   refine rvP C (.pv (.lit (.bool false))) ?_
   refine rvP C (.pv (.lit (.bool false))) ?_
   refine rvS ?_
   refine rvS ?_
   refine rvP C (.pv (.lit (.bool false))) ?_
   refine rvP C (.pv (.lit (.bool false))) ?_
   refine rvS ?_
   refine rvS ?_
   refine rvP C (.pv (.lit (.bool false))) ?_
   refine rvP C (.pv (.lit (.bool false))) ?_
   refine rvS ?_
   refine rvS ?_
   refine rvP C (.pv (.lit (.bool false))) ?_
   refine rvP C (.pv (.lit (.bool false))) ?_
   refine rvS ?_
   refine rvS ?_
   refine rvS ?_
   refine rvS ?_
   refine rvS ?_
   refine rvS ?_
   refine rvS ?_
   refine rvP C (.pv (.lit (.bool false))) ?_
   refine rvP C (.pv (.lit (.bool false))) ?_
   refine rvS ?_
   refine rvS ?_
   refine rvS ?_
   refine rvP C (.pv (.lit (.bool false))) ?_
   refine rvP C (.pv (.lit (.bool false))) ?_
   refine rvc_nil ?_
   refine Awp.ret ?_
   subst hR
   exact ⟨.inl rfl, rfl⟩
 ·
  replace hR := of_false h1 hR
  refine rvS ?_
  refine rvS ?_
  refine rvP C (.pv (.lit (.bool false))) ?_
  refine rvP C (.pv (.lit (.bool false))) ?_
  refine rvS ?_
  refine rvS ?_
  refine rvP C (.pv (.lit (.bool false))) ?_
  refine rvP C (.pv (.lit (.bool false))) ?_
  refine rvS ?_
  refine rvS ?_
  refine rvP C (.pv (.lit (.bool false))) ?_
  refine rvP C (.pv (.lit (.bool false))) ?_
  refine rvS ?_
  refine rvS ?_
  refine rvP C (.pv (.lit (.bool false))) ?_
  refine rvP C (.pv (.lit (.bool false))) ?_
  refine rvS ?_
  refine rvS ?_
  refine rvP C (.pv (.lit (.bool false))) ?_
  refine rvP C (.pv (.lit (.bool false))) ?_
  refine rvS ?_
  refine rvS ?_
  refine rvS ?_
  refine rvS ?_
  refine rvS ?_
  refine rvS ?_
  refine rvS ?_
  refine rvP C (.pv (.lit (.bool false))) ?_
  refine rvP C (.pv (.lit (.bool false))) ?_
  refine rvS ?_
  refine rvS ?_
  refine rvS ?_
  refine rvP C (.pv (.lit (.bool false))) ?_
  refine rvP C (.pv (.lit (.bool false))) ?_
  refine rvc_nil ?_
  refine Awp.ret ?_
  subst hR
  exact ⟨.inl rfl, rfl⟩
theorem eqSeen_l0_eq (s2 : Sl Seen) : ∀ (xs : List Seen) (i : Nat), xs.length + i = s2.D.length → eqSeen_l0 s2 xs i = decide (xs.map rd = (s2.D.drop i).map rd)
  | [], i, h => by
    have : s2.D.drop i = [] := List.drop_of_length_le (by simp at h; omega)
    rw [this]; rfl
  | x :: xs, i, h => by
    have hi : i < s2.D.length := by simp at h; omega
    have ih := eqSeen_l0_eq s2 xs (i + 1) (by simp at h; omega)
    rw [List.drop_eq_getElem_cons hi]
    unfold eqSeen_l0
    rw [ih, Int.toNat_natCast, getElem!_pos s2.D i hi]
    have e : ((((x.key 0) == (s2.D[i].key 0)) && (((x.key 1) == (s2.D[i].key 1)) && (((x.key 2) == (s2.D[i].key 2)) && (((x.key 3) == (s2.D[i].key 3)) && (((x.key 4) == (s2.D[i].key 4)) && (((x.key 5) == (s2.D[i].key 5)) && (((x.key 6) == (s2.D[i].key 6)) && (((x.key 7) == (s2.D[i].key 7)) && true)))))))) && ((x.ver == s2.D[i].ver) && true)) = decide (rd x = rd s2.D[i]) := by
      rw [eq8]
      unfold rd
      rw [Bool.eq_iff_iff]
      simp
    rw [e]
    by_cases h1 : rd x = rd s2.D[i]
    · rw [decide_eq_true h1]
      show decide _ = _
      rw [decide_eq_decide, List.map_cons, List.map_cons, h1]
      simp only [List.cons.injEq, true_and]
    · rw [decide_eq_false h1]
      show false = _
      exact (decide_eq_false fun q => h1 (List.cons.inj q).1).symm
theorem eqSeen_eq (s1 s2 : Sl Seen) : eqSeen s1 s2 = decide (s1.D.map rd = s2.D.map rd) := by
  unfold eqSeen
  by_cases h : s1.D.length = s2.D.length
  · rw [show ((s1.D.length : Int) != (s2.D.length : Int)) = false by simp; omega, cond_false, eqSeen_l0_eq s2 s1.D 0 (by omega), List.drop_zero]
  · rw [show ((s1.D.length : Int) != (s2.D.length : Int)) = true by simp; omega, cond_true]
    exact (decide_eq_false fun q => h (len_rd q)).symm
def ex1 : Sl Seen × Int := pSee (Sl.mk true []) (nameK [(97 : Int)]) 3
def ex2 : Sl Seen × Int := pSee ex1.1 (nameK [(98 : Int)]) 1
def ex3 : Sl Seen × Int := pSee ex2.1 (nameK [(97 : Int)]) 2
theorem ex1_e : ex1.2 = 0 := by kernel_rfl
theorem ex2_e : ex2.2 = 0 := by kernel_rfl
theorem ex3_e : ex3.2 = 0 := by kernel_rfl
theorem ex3_r : pRight ex3.1 = 0 := by kernel_rfl
theorem ex3_rd : ex3.1.D.map rd = (Sl.mk false [(Seen.mk (nameK [(97 : Int)]) 3), (Seen.mk (nameK [(98 : Int)]) 1)]).D.map rd := by kernel_rfl
def exK : Sl Int := Sl.mk false [48, 49, 50, 51, 52, 53, 54, 55, 56, 57, 97, 98, 99, 100, 101, 102]
theorem ex_bad : (pRead exK (Sl.mk false (List.replicate 7 0))).2 = 100 := by
  rw [pRead_eq (b := Sl.mk false (List.replicate 7 0)) (fun x hx => by rw [List.eq_of_mem_replicate hx]; decide)]; rfl
theorem ex3_ok : KB ex3.1.D ∧ ex3.1.D.length ≤ 1000000 := by
  have h1 := pSee_ok (l := Sl.mk true []) (v := 3) KB_nil (name1_B 97 (by decide)) (fun _ => rfl) (Nat.zero_le _)
  have h2 := pSee_ok (v := 1) h1.1 (name1_B 98 (by decide)) h1.2.1 h1.2.2
  have h3 := pSee_ok (v := 2) h2.1 (name1_B 97 (by decide)) h2.2.1 h2.2.2
  exact ⟨h3.1, Nat.le_trans h3.2.2 (by decide)⟩
theorem awake_true : awake = true := by
  obtain ⟨k1, k2⟩ := ex3_ok
  obtain ⟨b1, b2, b3, _, _, _⟩ := pass_back (key := exK) rfl k1 k2 ex3_r
  have e : awake = bif (ex1.2 == 0) then (bif (ex2.2 == 0) then (bif (ex3.2 == 0) then (bif ((pMake exK ex3.1).2 == 0) then (bif ((pRead exK (pMake exK ex3.1).1).2 == 0) then (bif ((pRead exK (Sl.mk false (List.replicate 7 0))).2 == 100) then (bif eqSeen ex3.1 (Sl.mk false [(Seen.mk (nameK [(97 : Int)]) 3), (Seen.mk (nameK [(98 : Int)]) 1)]) then eqSeen (pRead exK (pMake exK ex3.1).1).1 ex3.1 else false) else false) else false) else false) else false) else false) else false := rfl
  rw [e, ex1_e, ex2_e, ex3_e, b1, b2, ex_bad, eqSeen_eq, eqSeen_eq, decide_eq_true ex3_rd, decide_eq_true b3]; rfl
theorem cloneB_D {b : Sl Int} (h : b.nil = true → b.D = []) : (cloneBytes b).D = b.D := by
  unfold cloneBytes
  cases e : b.nil
  · rfl
  · exact (h e).symm
theorem cloneB_B8 {b : Sl Int} (h : B8 b.D) : B8 (cloneBytes b).D := by
  unfold cloneBytes
  cases b.nil
  · exact h
  · exact fun x (q : x ∈ ([] : List Int)) => nomatch q
def lawReads (key : (Sl Int)) (b : (Sl Int)) : Bool :=
  (bif (decide ((key.D.length : Int) > 1000)) then (awake ) else (bif (decide ((b.D.length : Int) > 1000)) then (awake ) else (bif (eqSeen ((pRead key (cloneBytes b)).1) ((rpRead key b).1)) then (bif (((pRead key (cloneBytes b)).2) == ((rpRead key b).2)) then (bif (eqBytes (cloneBytes b) b) then (awake ) else false) else false) else false)))
theorem lawReads_calls (key : (Sl Int)) (b : (Sl Int)) (hk : R8l key.D) (hB : B8 b.D) (hl1 : b.D.length ≤ 9223372036854775807) : PCalls Tryd.prog 5 [sS (some key.nil) (eI .u8) key.D, sS (some b.nil) (eI .u8) b.D] (.pv (.lit (.bool (lawReads key b)))) := by
 generalize hR : lawReads key b = R
 refine PCalls.of_body tabOk Tryd.func5 rfl rfl rfl rfl rfl mixed fun E hP C hI => ?_
 refine Awp.consP C ?_
 refine rvP C (.pv (.lit (.bool false))) ?_
 refine rvc_nil ?_
 refine Awp.seq ?_
 refine Awp.consP C ?_
 refine rvP C (sS (some key.nil) (eI .u8) key.D) ?_
 refine rvP C (.pv (.lit (.int .i64 (key.D.length : Int)))) ?_
 refine rvP C (.pv (.lit (.bool (decide ((key.D.length : Int) > 1000))))) ?_
 refine rvP C (.pv (.lit (.bool (decide ((key.D.length : Int) > 1000))))) ?_
 refine rvc_case 13 (decide ((key.D.length : Int) > 1000)) rfl (fun h1 => ?_) (fun h1 => ?_)
 ·
  replace hR := of_true h1 hR
  refine rvS ?_
  refine rvS ?_
  refine rvS ?_
  refine rvP C (.pv (.lit (.bool true))) ?_
  refine rvc_nil ?_
  refine Awp.condT (b := true) rfl rfl ?_
  refine Awp.consP C ?_
  refine rvc_un (rexec_call hP C rfl rfl rfl (awake_calls ) ?_)
  refine rvP C (.pv (.lit (.bool (awake )))) ?_
  refine rvc_nil ?_
  refine Awp.ret ?_
  subst hR
  exact ⟨.inl rfl, rfl⟩
 ·
  replace hR := of_false h1 hR
  refine rvO C (sS (some b.nil) (eI .u8) b.D) ?_
  refine rvO C (.pv (.lit (.int .i64 (b.D.length : Int)))) ?_
  refine rvO C (.pv (.lit (.bool (decide ((b.D.length : Int) > 1000))))) ?_
  refine rvP C (.pv (.lit (.bool (decide ((b.D.length : Int) > 1000))))) ?_
  refine rvc_nil ?_
  refine Awp.cond (b := (decide ((b.D.length : Int) > 1000))) rfl (fun h2 => ?_) (fun h2 => ?_)
  ·
   replace hR := of_true h2 hR
   refine Awp.consP C ?_
   refine rvc_un (rexec_call hP C rfl rfl rfl (awake_calls ) ?_)
   refine rvP C (.pv (.lit (.bool (awake )))) ?_
   refine rvc_nil ?_
   refine Awp.ret ?_
   subst hR
   exact ⟨.inl rfl, rfl⟩
  ·
   replace hR := of_false h2 hR
   refine Awp.skip ?_
   refine Awp.consP C ?_
   refine rvP C (sS (some b.nil) (eI .u8) b.D) ?_
   refine rvc_un (rexec_call hP C rfl rfl rfl (cloneBytes_calls b (by show b.D.length ≤ 1000000; have := of_decide_eq_false h1; have := of_decide_eq_false h2; omega)) ?_)
   refine rvP C (sS (some (cloneBytes b).nil) (eI .u8) ((cloneBytes b).D)) ?_
   refine rvc_nil ?_
   refine Awp.consP C ?_
   refine rvP C (sS (some key.nil) (eI .u8) key.D) ?_
   refine rvP C (sS (some (cloneBytes b).nil) (eI .u8) ((cloneBytes b).D)) ?_
   refine rvc_un (rexec_call hP C rfl rfl rfl (pRead_calls key (cloneBytes b)) ?_)
   refine rvP C (.tup [sS (some (pRead key (cloneBytes b)).1.nil) eSeen ((pRead key (cloneBytes b)).1.D), .pv (.lit (.int .i64 ((pRead key (cloneBytes b)).2)))]) ?_
   refine rvP C (sS (some (pRead key (cloneBytes b)).1.nil) eSeen ((pRead key (cloneBytes b)).1.D)) ?_
   refine rvP C (.pv (.lit (.int .i64 ((pRead key (cloneBytes b)).2)))) ?_
   refine rvP C (sS (some (pRead key (cloneBytes b)).1.nil) eSeen ((pRead key (cloneBytes b)).1.D)) ?_
   refine rvP C (.pv (.lit (.int .i64 ((pRead key (cloneBytes b)).2)))) ?_
   refine rvc_nil ?_
   refine Awp.consP C ?_
   refine rvP C (sS (some key.nil) (eI .u8) key.D) ?_
   refine rvP C (sS (some b.nil) (eI .u8) b.D) ?_
   refine rvc_un (rexec_call hP C rfl rfl rfl (rpRead_calls key b hk) ?_)
   refine rvP C (.tup [sS (some (rpRead key b).1.nil) eSeen ((rpRead key b).1.D), .pv (.lit (.int .i64 ((rpRead key b).2)))]) ?_
   refine rvP C (sS (some (rpRead key b).1.nil) eSeen ((rpRead key b).1.D)) ?_
   refine rvP C (.pv (.lit (.int .i64 ((rpRead key b).2)))) ?_
   refine rvP C (sS (some (rpRead key b).1.nil) eSeen ((rpRead key b).1.D)) ?_
   refine rvP C (.pv (.lit (.int .i64 ((rpRead key b).2)))) ?_
   refine rvc_nil ?_
   refine Awp.consP C ?_
   refine rvP C (sS (some (pRead key (cloneBytes b)).1.nil) eSeen ((pRead key (cloneBytes b)).1.D)) ?_
   refine rvP C (sS (some (rpRead key b).1.nil) eSeen ((rpRead key b).1.D)) ?_
   refine rvc_un (rexec_call hP C rfl rfl rfl (eqSeen_calls ((pRead key (cloneBytes b)).1) ((rpRead key b).1) (Nat.le_trans (pRead_len (cloneB_B8 hB)) (by decide))) ?_)
   refine rvP C (.pv (.lit (.bool (eqSeen ((pRead key (cloneBytes b)).1) ((rpRead key b).1))))) ?_
   refine rvc_case 36 (eqSeen ((pRead key (cloneBytes b)).1) ((rpRead key b).1)) rfl (fun h3 => ?_) (fun h3 => ?_)
   ·
    replace hR := of_true h3 hR
    refine rvO C (.pv (.lit (.int .i64 ((pRead key (cloneBytes b)).2)))) ?_
    refine rvO C (.pv (.lit (.int .i64 ((rpRead key b).2)))) ?_
    refine rvO C (.pv (.lit (.bool (((pRead key (cloneBytes b)).2) == ((rpRead key b).2))))) ?_
    refine rvP C (.pv (.lit (.bool (((pRead key (cloneBytes b)).2) == ((rpRead key b).2))))) ?_
    refine rvP C (.pv (.lit (.bool (((pRead key (cloneBytes b)).2) == ((rpRead key b).2))))) ?_
    refine rvc_case 41 (((pRead key (cloneBytes b)).2) == ((rpRead key b).2)) rfl (fun h4 => ?_) (fun h4 => ?_)
    ·
     replace hR := of_true h4 hR
     refine rvO C (sS (some (cloneBytes b).nil) (eI .u8) ((cloneBytes b).D)) ?_
     refine rvO C (sS (some b.nil) (eI .u8) b.D) ?_
     refine rvc_open rfl rfl rfl (rexec_call hP C rfl rfl rfl (eqBytes_calls (cloneBytes b) b) ?_)
     refine rvP C (.pv (.lit (.bool (eqBytes (cloneBytes b) b)))) ?_
     refine rvP C (.pv (.lit (.bool (eqBytes (cloneBytes b) b)))) ?_
     refine rvc_case 46 (eqBytes (cloneBytes b) b) rfl (fun h5 => ?_) (fun h5 => ?_)
     ·
      replace hR := of_true h5 hR
      refine rvc_open rfl rfl rfl (rexec_call hP C rfl rfl rfl (awake_calls ) ?_)
      refine rvP C (.pv (.lit (.bool (awake )))) ?_
      refine rvP C (.pv (.lit (.bool (awake )))) ?_
      refine rvc_nil ?_
      refine Awp.ret ?_
      subst hR
      exact ⟨.inl rfl, rfl⟩
     ·
      replace hR := of_false h5 hR
      refine rvS ?_
      refine rvP C (.pv (.lit (.bool false))) ?_
      refine rvP C (.pv (.lit (.bool false))) ?_
      refine rvc_nil ?_
      refine Awp.ret ?_
      subst hR
      exact ⟨.inl rfl, rfl⟩
    ·
     replace hR := of_false h4 hR
     refine rvS ?_
     refine rvS ?_
     refine rvS ?_
     refine rvP C (.pv (.lit (.bool false))) ?_
     refine rvP C (.pv (.lit (.bool false))) ?_
     refine rvS ?_
     refine rvP C (.pv (.lit (.bool false))) ?_
     refine rvP C (.pv (.lit (.bool false))) ?_
     refine rvc_nil ?_
     refine Awp.ret ?_
     subst hR
     exact ⟨.inl rfl, rfl⟩
   ·
    replace hR := of_false h3 hR
    refine rvS ?_
    refine rvS ?_
    refine rvS ?_
    refine rvP C (.pv (.lit (.bool false))) ?_
    refine rvP C (.pv (.lit (.bool false))) ?_
    refine rvS ?_
    refine rvS ?_
    refine rvS ?_
    refine rvP C (.pv (.lit (.bool false))) ?_
    refine rvP C (.pv (.lit (.bool false))) ?_
    refine rvS ?_
    refine rvP C (.pv (.lit (.bool false))) ?_
    refine rvP C (.pv (.lit (.bool false))) ?_
    refine rvc_nil ?_
    refine Awp.ret ?_
    subst hR
    exact ⟨.inl rfl, rfl⟩
set_option maxRecDepth 100000 in
theorem flat5 {m : Nat} {ps : List PV} (h : FlatA Tryd.prog (m + 1) 5 ps) : ∃ n, ps = [.lit (.int .u8 n)] ∧ (Lit.int .u8 n).wf = true := by
  unfold FlatA at h
  rw [Tryd.underlying5] at h
  exact h
def WT27 (s : Sl Int) : Prop := s.D.length ≤ maxLen ∧ (s.nil = true → s.D = []) ∧ ∀ x ∈ s.D, (Lit.int .u8 x).wf = true
set_option maxRecDepth 100000 in
theorem flat27 {m : Nat} {ps : List PV} (h : FlatA Tryd.prog (m + 2) 27 ps) : ∃ s : Sl Int, ps = [.sl (some s.nil) s.D.length (encL (eI .u8) s.D)] ∧ WT27 s := by
  unfold FlatA at h
  rw [Tryd.underlying27] at h
  obtain ⟨b, D, rfl, h1, h2, h3⟩ := h
  obtain ⟨D2, e1, e2, e3⟩ := enc_list (e := (eI .u8)) (W := fun x => (Lit.int .u8 x).wf = true) D fun y hy => flat5 (h3 y hy)
  rw [e2, ← e1]
  exact ⟨⟨b, D2⟩, rfl, (by show D2.length ≤ _; rw [e1]; exact h1), (fun hb => by have := h2 hb; rw [this] at e1; exact List.eq_nil_of_length_eq_zero e1), e3⟩
theorem wf8 {n : Int} (h : (Lit.int .u8 n).wf = true) : 0 ≤ n ∧ n < 256 := by
  have h' : (decide (IntKind.u8.min ≤ n) && decide (n ≤ IntKind.u8.max)) = true := h
  simp only [Bool.and_eq_true, decide_eq_true_eq] at h'
  have e1 : IntKind.u8.min = 0 := rfl
  have e2 : IntKind.u8.max = 255 := rfl
  omega
theorem WT27.b8 {b : Sl Int} (h : WT27 b) : B8 b.D := fun x hx => wf8 (h.2.2 x hx)
theorem WT27.r8 {b : Sl Int} (h : WT27 b) : R8l b.D := R8l_of h.b8
theorem big_le {n : Nat} (h : n ≤ maxLen) : n ≤ 9223372036854775807 := Nat.le_trans h (by decide)
theorem pRead_D {key c b : Sl Int} (hB : B8 b.D) (h : c.D = b.D) : pRead key c = pRead key b := by
  have e1 : lookR key c = lookR key b := by unfold lookR; rw [h]
  have e2 : (cutB c).D = (cutB b).D := by unfold cutB; rw [h]
  have e3 : cutT c = cutT b := by unfold cutT; rw [h]
  have e4 : rdNew (cutB c) = rdNew (cutB b) := by unfold rdNew; rw [e2]
  rw [pRead_eq (by rw [h]; exact hB), pRead_eq hB, e1, e2, e3, e4]
theorem lawReads_true {key b : Sl Int} (w : WT27 b) : lawReads key b = true := by
  unfold lawReads
  rw [awake_true]
  cases decide ((key.D.length : Int) > 1000)
  · cases decide ((b.D.length : Int) > 1000)
    · have hc := cloneB_D w.2.1
      obtain ⟨h1, h2⟩ := read_same (key := key) w.b8
      rw [← pRead_D w.b8 hc] at h1 h2
      rw [cond_false, cond_false, eqSeen_eq, decide_eq_true h2, h1, beq_self_eq_true]
      unfold eqBytes
      rw [hc, beq_self_eq_true]; rfl
    · rfl
  · rfl
theorem passReads_calls (key : Sl Int) (w0 : WT27 key) (b : Sl Int) (w : WT27 b) : PCalls Tryd.prog 5 [sS (some key.nil) (eI .u8) key.D, sS (some b.nil) (eI .u8) b.D] (.pv (.lit (.bool true))) := by
  have h := lawReads_calls key b w0.r8 w.b8 (big_le w.1)
  rw [lawReads_true w] at h
  exact h
theorem own : ownKnob Tryd.prog.godebug = none := by kernel_rfl
theorem laidOut : laidOutB Tryd.prog = true := by kernel_rfl
end Go.Proofs.YthnghkkbnhjlgaaDoor
