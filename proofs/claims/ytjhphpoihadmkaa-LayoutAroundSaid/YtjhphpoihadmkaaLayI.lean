/- slices.Insert over a row of one's own: its contract. No conditions. -/
import Derived.Test.YtjhphpoihadmkaaLay1
import Derived.Test.YtjhphpoihadmkaaAm29
namespace Go.Proofs.Ytjhphpoihadmkaa
open Go.Am

theorem insertM_calls (D : List Member) (i : Nat) (v : Sl Member) (hi : i ≤ D.length) (hv : 0 < v.D.length) (hl1 : D.length ≤ 1000000) (hl2 : v.D.length ≤ 1000000) : XCalls Try.prog 51 [.sl 0 0 D.length 3 false, .pv (.lit (.int .i64 (i : Int))), sS (some v.nil) eMember v.D] (.cells (encC eMember D)) (sS (some false) eMember (insertL D i v.D)) := by
  have hm0 : ((v.D.length : Int) == 0) = false := by simp; intro h; rw [h] at hv; simp at hv
  have hrep : D.take i ++ List.replicate (D.length + v.D.length - i) (Member.mk 0 0 false) = D.take i ++ List.replicate v.D.length (Member.mk 0 0 false) ++ List.replicate (D.length - i) (Member.mk 0 0 false) := by
    rw [List.append_assoc, List.replicate_append_replicate]; congr 2; omega
  refine XCalls.of_body tabOk Try.func51 rfl rfl rfl rfl rfl (encC_within _ _) mixed fun E hP C hI => ?_
  refine Awp.capOf 0 0 D.length 3 false (encC eMember D) rfl rfl (by rw [encC_len]; rfl) fun c hc0 => ?_
  refine Awp.cons C (fun _ => .pure) (by kernel_rfl) ?_ -- region 0 false
  refine rvc_prim C rfl rfl rfl rfl (trivial) rfl ?_ -- t6 assign
  refine rvc_nil ?_
  refine Awp.cons C (fun _ => .pure) (by kernel_rfl) ?_ -- region 1 false
  refine rvc_prim C rfl rfl rfl rfl (trivial) rfl ?_ -- t10 move
  refine rvc_prim C rfl rfl rfl rfl (trivial) rfl ?_ -- t11 move
  refine rvc_un (rexec_sliceLoC C rfl rfl rfl rfl rfl rfl hi ?_)
  refine rvc_nil ?_
  refine Awp.cons C (fun _ => .pure) (by kernel_rfl) ?_ -- region 2 false
  refine rvc_prim C rfl rfl rfl rfl (trivial) rfl ?_ -- t13 move
  refine rvc_prim C rfl rfl rfl rfl (trivial) rfl ?_ -- t14 call
  refine rvc_prim C rfl rfl rfl rfl (trivial) rfl ?_ -- t7 assign
  refine rvc_nil ?_
  refine Awp.seq ?_
  refine Awp.cons C (fun _ => .pure) (by kernel_rfl) ?_ -- region 3 false
  refine rvc_prim C rfl rfl rfl rfl (trivial) rfl ?_ -- t15 move
  refine rvc_prim C rfl rfl rfl rfl (trivial) rfl ?_ -- t16 binOp
  refine rvc_nil ?_
  refine Awp.condF rfl (hm0) ?_
  refine Awp.skip ?_
  refine Awp.cons C (fun _ => .pure) (by kernel_rfl) ?_ -- region 5 false
  refine rvc_prim C rfl rfl rfl rfl (trivial) rfl ?_ -- t18 move
  refine rvc_un (rexec_lenC C rfl rfl rfl rfl rfl rfl ?_)
  refine rvc_prim C rfl rfl rfl rfl (trivial) rfl ?_ -- t8 assign
  refine rvc_nil ?_
  refine Awp.seq ?_
  refine Awp.cons C (fun _ => .pure) (by kernel_rfl) ?_ -- region 6 false
  refine rvc_prim C rfl rfl rfl rfl (trivial) rfl ?_ -- t20 move
  refine rvc_prim C rfl rfl rfl rfl (trivial) rfl ?_ -- t21 move
  refine rvc_prim C rfl rfl rfl rfl (trivial) rfl ?_ -- t22 binOp
  refine rvc_nil ?_
  refine Awp.cond rfl (fun hc => ?_) (fun hc => ?_)
  ·
    refine Awp.dropCap 0 0 0 D.length 3 c rfl ?_
    have hin : i = D.length := by have := beq_iff_eq.1 hc; omega
    refine Awp.cons C (fun _ => .pure) (by kernel_rfl) ?_ -- region 7 false
    refine rvc_prim C rfl rfl rfl rfl (trivial) rfl ?_ -- t23 move
    refine rvc_prim C rfl rfl rfl rfl (trivial) rfl ?_ -- t24 move
    refine rvc_un (rexec_append C rfl rfl rfl rfl rfl rfl rfl rfl (fun _ h => by cases h) rfl (en := eMember) (D0 := D) (D := v.D) rfl rfl rfl rfl (by show (2 * (D.length + v.D.length) + 192) * 24 ≤ _; omega) (by decide) (nn := (D ++ v.D).length) (by simp) ?_)
    refine rvc_prim C rfl rfl rfl rfl (trivial) rfl ?_ -- t6 assign
    refine rvc_nil ?_
    refine Awp.freezeW 25 (encL eMember (insertL D i v.D)) ?_ [(6, sS (some false) eMember (insertL D i v.D))] [] ?_ ?_ ?_
    · rw [show insertL D i v.D = D ++ v.D by subst hin; simp [insertL]]; rfl
    · exact ⟨⟨_, rfl, .inl (.inr ⟨_, _, _, rfl, by simp only [sS]; congr 2; rw [insertL_len (D := D) (M := v.D) hi]; simp⟩)⟩, trivial⟩
    · exact trivial
    refine Awp.ret ?_
    exact ⟨.inl rfl, rfl⟩
  ·
    have hne : i ≠ D.length := by have := ne_of_beq_false hc; omega
    refine Awp.skip ?_
    refine Awp.seq ?_
    refine Awp.cons C (fun _ => .pure) (by kernel_rfl) ?_ -- region 8 false
    refine rvc_prim C rfl rfl rfl rfl (trivial) rfl ?_ -- t26 move
    refine rvc_prim C rfl rfl rfl rfl (trivial) rfl ?_ -- t27 move
    refine rvc_un (rexec_primv C { v := .pv (.lit (.int .i64 ((D.length + v.D.length : Nat) : Int))) } rfl rfl rfl rfl trivial (delta_int (by rw [wrapI _ (by omega)]; omega)) rfl ?_)
    refine rvc_prim C rfl rfl rfl rfl (trivial) rfl ?_ -- t29 move
    refine rvc_un (rexec_capC C rfl rfl rfl rfl rfl rfl ?_)
    refine rvc_prim C rfl rfl rfl rfl (trivial) rfl ?_ -- t31 binOp
    refine rvc_nil ?_
    refine Awp.cond rfl (fun hc => ?_) (fun hc => ?_)
    ·
      have hgt : c < D.length + v.D.length := by have := of_decide_eq_true hc; omega
      refine Awp.cons C (fun _ => .pure) (by kernel_rfl) ?_ -- region 9 false
      refine rvc_prim C rfl rfl rfl rfl (trivial) rfl ?_ -- t32 move
      refine rvc_prim C rfl rfl rfl rfl (trivial) rfl ?_ -- t33 move
      refine rvc_un (rexec_sliceHiC C i rfl rfl rfl rfl rfl rfl (by omega) ?_)
      refine rvc_prim C rfl rfl rfl rfl (trivial) rfl ?_ -- t35 move
      refine rvc_prim C rfl rfl rfl rfl (trivial) rfl ?_ -- t36 move
      refine rvc_un (rexec_primv C { v := .pv (.lit (.int .i64 ((D.length + v.D.length : Nat) : Int))) } rfl rfl rfl rfl trivial (delta_int (by rw [wrapI _ (by omega)]; omega)) rfl ?_)
      refine rvc_prim C rfl rfl rfl rfl (trivial) rfl ?_ -- t38 move
      refine rvc_un (rexec_primv C { v := .pv (.lit (.int .i64 ((D.length + v.D.length - i : Nat) : Int))) } rfl rfl rfl rfl trivial (delta_int (by rw [wrapI _ (by omega)]; omega)) rfl ?_)
      refine rvc_un (rexec_appendZ C rfl rfl rfl rfl rfl rfl rfl rfl rfl (Member.mk 0 0 false) D i (D.length + v.D.length - i) rfl rfl rfl hi (by omega) (by omega) (by show (2 * (i + (D.length + v.D.length - i)) + 192) * 24 ≤ _; omega) (by decide) (by decide) rfl rfl ?_)
      refine rvc_prim C rfl rfl rfl rfl (trivial) rfl ?_ -- t9 assign
      refine rvc_nil ?_
      refine Awp.cons C (fun _ => .pure) (by kernel_rfl) ?_ -- region 10 false
      refine rvc_prim C rfl rfl rfl rfl (trivial) rfl ?_ -- t41 move
      refine rvc_prim C rfl rfl rfl rfl (trivial) rfl ?_ -- t42 move
      refine rvc_un (rexec_sliceOwn C (l := i) rfl rfl rfl rfl rfl rfl (by omega) ?_)
      refine rvc_prim C rfl rfl rfl rfl (trivial) rfl ?_ -- t44 move
      refine rvc_un (rexec_copyS C rfl rfl rfl rfl rfl rfl (e := eMember) v.D (encC eMember (D.take i ++ v.D ++ List.replicate (D.length - i) (Member.mk 0 0 false))) rfl rfl rfl (by omega) (by rw [encC_len]; simp [eMember]; omega) (by rw [hrep]; exact set_mid (by simp) (by simp [eMember]; omega)) ?_)
      refine rvc_nil ?_
      refine Awp.dropCap 0 0 0 D.length 3 c rfl ?_
      refine Awp.cons C (fun _ => .pure) (by kernel_rfl) ?_ -- region 11 true
      refine rvc_prim C rfl rfl rfl rfl (trivial) rfl ?_ -- t46 move
      refine rvc_prim C rfl rfl rfl rfl (trivial) rfl ?_ -- t47 move
      refine rvc_prim C rfl rfl rfl rfl (trivial) rfl ?_ -- t48 move
      refine rvc_un (rexec_primv C { v := .pv (.lit (.int .i64 ((i + v.D.length : Nat) : Int))) } rfl rfl rfl rfl trivial (delta_int (by rw [wrapI _ (by omega)]; omega)) rfl ?_)
      refine rvc_un (rexec_sliceOwn C (l := i + v.D.length) rfl rfl rfl rfl rfl rfl (by omega) ?_)
      refine rvc_prim C rfl rfl rfl rfl (trivial) rfl ?_ -- t51 move
      refine rvc_prim C rfl rfl rfl rfl (trivial) rfl ?_ -- t52 move
      refine rvc_un (rexec_sliceOwn C (l := i) rfl rfl rfl rfl rfl rfl (by omega) ?_)
      refine rvc_un (rexec_copyO C rfl rfl rfl rfl rfl rfl (e := eMember) (D.drop i) (encC eMember (insertL D i v.D)) rfl rfl rfl rfl (by rw [encC_len]; simp [eMember]; omega) (by have := tail_of (e := eMember) (D := D) (Z := []) (i := i) (k := D.length - i) (j := (D.drop i).length * 3) hi (Nat.le_refl _) (by simp [eMember]); simpa [eMember] using this) (by simp; omega) (by rw [encC_len]; simp [eMember]; omega) (by have := set_mid (e := eMember) (A := D.take i ++ v.D) (B := List.replicate (D.length - i) (Member.mk 0 0 false)) (B' := D.drop i) (C := []) (k := (i + v.D.length) * 3) (by simp) (by simp [eMember]; omega); simpa [insertL] using this) ?_ rfl)
      refine rvc_nil ?_
      refine Awp.cons C (fun _ => .pure) (by kernel_rfl) ?_ -- region 12 false
      refine rvc_prim C rfl rfl rfl rfl (trivial) rfl ?_ -- t55 move
      refine rvc_prim C rfl rfl rfl rfl (trivial) rfl ?_ -- t6 assign
      refine rvc_nil ?_
      refine Awp.freezeW 40 (encL eMember (insertL D i v.D)) ?_ [(6, sS (some false) eMember (insertL D i v.D))] [] ?_ ?_ ?_
      · rfl
      · exact ⟨⟨_, rfl, .inl (.inr ⟨_, _, _, rfl, by simp only [sS]; congr 2; rw [insertL_len (D := D) (M := v.D) hi]; omega⟩)⟩, trivial⟩
      · exact trivial
      refine Awp.ret ?_
      exact ⟨.inl rfl, rfl⟩
    ·
      have hle : D.length + v.D.length ≤ c := by have := of_decide_eq_false hc; omega
      refine Awp.skip ?_
      refine Awp.cons C (fun _ => .pure) (by kernel_rfl) ?_ -- region 13 false
      refine rvc_prim C rfl rfl rfl rfl (trivial) rfl ?_ -- t56 move
      refine rvc_prim C rfl rfl rfl rfl (trivial) rfl ?_ -- t57 move
      refine rvc_prim C rfl rfl rfl rfl (trivial) rfl ?_ -- t58 move
      refine rvc_un (rexec_primv C { v := .pv (.lit (.int .i64 ((D.length + v.D.length : Nat) : Int))) } rfl rfl rfl rfl trivial (delta_int (by rw [wrapI _ (by omega)]; omega)) rfl ?_)
      refine rvc_un (rexec_sliceHiC C (D.length + v.D.length) rfl rfl rfl rfl rfl rfl (by omega) ?_)
      refine rvc_prim C rfl rfl rfl rfl (trivial) rfl ?_ -- t0 assign
      refine rvc_nil ?_
      refine Awp.seq ?_
      refine Awp.extend 0 0 (D.length + v.D.length) 3 c (encC eMember D) rfl rfl (by rw [encC_len]; simp [eMember]; omega) ?_
      refine Awp.dropCap 0 0 0 (D.length + v.D.length) 3 c rfl ?_
      refine Awp.cons C (fun _ => .writer) (by kernel_rfl) ?_ -- region 14 false
      refine rvc_prim C rfl rfl rfl rfl (trivial) rfl ?_ -- t61 move
      refine rvc_prim C rfl rfl rfl rfl (trivial) rfl ?_ -- t62 move
      refine rvc_prim C rfl rfl rfl rfl (trivial) rfl ?_ -- t63 move
      refine rvc_prim C rfl rfl rfl rfl (trivial) rfl ?_ -- t64 move
      refine rvc_un (rexec_primv C { v := .pv (.lit (.int .i64 ((i + v.D.length : Nat) : Int))) } rfl rfl rfl rfl trivial (delta_int (by rw [wrapI _ (by omega)]; omega)) rfl ?_)
      refine rvc_un (rexec_sliceOwn C (l := i + v.D.length) rfl rfl rfl rfl rfl rfl (by omega) ?_)
      refine rvc_un (rexec_overlaps C (fn := Try.f57) (t := 22) (tR := 4) rfl rfl (by rw [hP]; exact Try.func57) rfl rfl rfl (by kernel_rfl) rfl rfl rfl (fl := some v.nil) (m := v.D.length) (ps := encL eMember v.D) rfl rfl (encL_ne hv (by decide)) (encC_ne (by omega) (by decide)) ?_)
      refine rvc_prim C rfl rfl rfl rfl (trivial) rfl ?_ -- t68 unOp
      refine rvc_nil ?_
      refine Awp.condT rfl (rfl) ?_
      refine Awp.cons C (fun _ => .pure) (by kernel_rfl) ?_ -- region 15 true
      refine rvc_prim C rfl rfl rfl rfl (trivial) rfl ?_ -- t69 move
      refine rvc_prim C rfl rfl rfl rfl (trivial) rfl ?_ -- t70 move
      refine rvc_prim C rfl rfl rfl rfl (trivial) rfl ?_ -- t71 move
      refine rvc_un (rexec_primv C { v := .pv (.lit (.int .i64 ((i + v.D.length : Nat) : Int))) } rfl rfl rfl rfl trivial (delta_int (by rw [wrapI _ (by omega)]; omega)) rfl ?_)
      refine rvc_un (rexec_sliceOwn C (l := i + v.D.length) rfl rfl rfl rfl rfl rfl (by omega) ?_)
      refine rvc_prim C rfl rfl rfl rfl (trivial) rfl ?_ -- t74 move
      refine rvc_prim C rfl rfl rfl rfl (trivial) rfl ?_ -- t75 move
      refine rvc_un (rexec_sliceOwn C (l := i) rfl rfl rfl rfl rfl rfl (by omega) ?_)
      refine rvc_un (rexec_copyO C rfl rfl rfl rfl rfl rfl (e := eMember) (D.drop i) (setRange (encC eMember D ++ List.replicate (c * 3 - (encC eMember D).length) AV.undef) ((i + v.D.length) * 3) (encC eMember (D.drop i))) rfl rfl rfl rfl (by rw [List.length_append, encC_len, List.length_replicate]; simp [eMember]; omega) (by have := tail_of (e := eMember) (D := D) (Z := List.replicate (c * 3 - (encC eMember D).length) AV.undef) (i := i) (k := D.length + v.D.length - i) (j := (D.drop i).length * 3) hi (by omega) (by simp [eMember]); simpa [eMember] using this) (by simp; omega) (by rw [List.length_append, encC_len, List.length_replicate]; simp [eMember]; omega) (by congr 1; simp) ?_ rfl)
      refine rvc_nil ?_
      refine Awp.cons C (fun _ => .pure) (by kernel_rfl) ?_ -- region 16 false
      refine rvc_prim C rfl rfl rfl rfl (trivial) rfl ?_ -- t78 move
      refine rvc_prim C rfl rfl rfl rfl (trivial) rfl ?_ -- t79 move
      refine rvc_un (rexec_sliceOwn C (l := i) rfl rfl rfl rfl rfl rfl (by omega) ?_)
      refine rvc_prim C rfl rfl rfl rfl (trivial) rfl ?_ -- t81 move
      refine rvc_un (rexec_copyS C rfl rfl rfl rfl rfl rfl (e := eMember) v.D (encC eMember (insertL D i v.D) ++ (List.replicate (c * 3 - (encC eMember D).length) AV.undef).drop (v.D.length * 3)) rfl rfl rfl (by omega) (by rw [setRange_length (by simp only [encC_len, List.length_append, List.length_replicate, List.length_drop, show eMember.sz = 3 from rfl]; omega)]; simp only [encC_len, List.length_append, List.length_replicate, show eMember.sz = 3 from rfl]; omega) (by have := insert_inplace (e := eMember) (D := D) (M := v.D) (Z := List.replicate (c * 3 - (encC eMember D).length) AV.undef) (i := i) hi (by rw [List.length_replicate, encC_len]; simp [eMember]; omega); simpa [eMember] using this) ?_)
      refine rvc_nil ?_
      refine Awp.cons C (fun _ => .pure) (by kernel_rfl) ?_ -- region 17 false
      refine rvc_prim C rfl rfl rfl rfl (trivial) rfl ?_ -- t83 move
      refine rvc_prim C rfl rfl rfl rfl (trivial) rfl ?_ -- t6 assign
      refine rvc_nil ?_
      refine Awp.trim 0 (encC eMember (insertL D i v.D)) ((List.replicate (c * 3 - (encC eMember D).length) AV.undef).drop (v.D.length * 3)) rfl ?_
      refine Awp.freezeW 0 (encL eMember (insertL D i v.D)) ?_ [(6, sS (some false) eMember (insertL D i v.D))] [] ?_ ?_ ?_
      · rfl
      · exact ⟨⟨_, rfl, .inl (.inr ⟨_, _, _, rfl, by simp only [sS]; congr 2; rw [insertL_len (D := D) (M := v.D) hi]⟩)⟩, trivial⟩
      · exact trivial
      refine Awp.ret ?_
      exact ⟨.inl rfl, rfl⟩
end Go.Proofs.Ytjhphpoihadmkaa
