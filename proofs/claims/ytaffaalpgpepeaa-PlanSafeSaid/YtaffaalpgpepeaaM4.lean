import Derived.Test.YtaffaalpgpepeaaM3
/- slices.Insert over a row of one's own: its contract. No conditions. -/
namespace Go.Proofs.Ytaffaalpgpepeaa
open Go.Am
theorem insertM_calls (D : List Member) (i : Nat) (v : Sl Member) (hi : i ≤ D.length) (hv : 0 < v.D.length) (hl1 : D.length ≤ 1000000) (hl2 : v.D.length ≤ 1000000) : XCalls Try.prog 67 [.sl 0 0 D.length 3 false, .pv (.lit (.int .i64 (i : Int))), sS (some v.nil) eMember v.D] (.cells (encC eMember D)) (sS (some false) eMember (insertL D i v.D)) := by
 have hm0 : ((v.D.length : Int) == 0) = false := by simp; intro h; rw [h] at hv; simp at hv
 have hrep : D.take i ++ List.replicate (D.length + v.D.length - i) (Member.mk 0 0 false) = D.take i ++ List.replicate v.D.length (Member.mk 0 0 false) ++ List.replicate (D.length - i) (Member.mk 0 0 false) := by
  rw [List.append_assoc, List.replicate_append_replicate]; congr 2; omega
 refine XCalls.of_body tabOk Try.func67 rfl rfl rfl rfl rfl (encC_within _ _) mixed fun E hP C hI => ?_
 refine Awp.capOf 0 0 D.length 3 false (encC eMember D) rfl rfl (by rw [encC_len]; rfl) fun c hc0 => ?_
 refine Awp.cons C (fun _ => .pure) (by kernel_rfl) ?_ -- region 0 false
 refine rvc_prim C rfl rfl rfl rfl (trivial) rfl ?_
 refine rvc_nil ?_
 refine Awp.cons C (fun _ => .pure) (by kernel_rfl) ?_ -- region 1 false
 refine rvc_prim C rfl rfl rfl rfl (trivial) rfl ?_
 refine rvc_prim C rfl rfl rfl rfl (trivial) rfl ?_
 refine rvc_un (rexec_sliceLoC C rfl rfl rfl rfl rfl rfl hi ?_)
 refine rvc_nil ?_
 refine Awp.cons C (fun _ => .pure) (by kernel_rfl) ?_ -- region 2 false
 refine rvc_prim C rfl rfl rfl rfl (trivial) rfl ?_
 refine rvc_prim C rfl rfl rfl rfl (trivial) rfl ?_
 refine rvc_prim C rfl rfl rfl rfl (trivial) rfl ?_
 refine rvc_nil ?_
 refine Awp.seq ?_
 refine Awp.cons C (fun _ => .pure) (by kernel_rfl) ?_ -- region 3 false
 refine rvc_prim C rfl rfl rfl rfl (trivial) rfl ?_
 refine rvc_prim C rfl rfl rfl rfl (trivial) rfl ?_
 refine rvc_nil ?_
 refine Awp.condF rfl (hm0) ?_
 refine Awp.skip ?_
 refine Awp.cons C (fun _ => .pure) (by kernel_rfl) ?_ -- region 5 false
 refine rvc_prim C rfl rfl rfl rfl (trivial) rfl ?_
 refine rvc_un (rexec_lenC C rfl rfl rfl rfl rfl rfl ?_)
 refine rvc_prim C rfl rfl rfl rfl (trivial) rfl ?_
 refine rvc_nil ?_
 refine Awp.seq ?_
 refine Awp.cons C (fun _ => .pure) (by kernel_rfl) ?_ -- region 6 false
 refine rvc_prim C rfl rfl rfl rfl (trivial) rfl ?_
 refine rvc_prim C rfl rfl rfl rfl (trivial) rfl ?_
 refine rvc_prim C rfl rfl rfl rfl (trivial) rfl ?_
 refine rvc_nil ?_
 refine Awp.cond rfl (fun hc => ?_) (fun hc => ?_)
 ·
  refine Awp.dropCap 0 0 0 D.length 3 c rfl ?_
  have hin : i = D.length := by have := beq_iff_eq.1 hc; omega
  refine Awp.cons C (fun _ => .pure) (by kernel_rfl) ?_ -- region 7 false
  refine rvc_prim C rfl rfl rfl rfl (trivial) rfl ?_
  refine rvc_prim C rfl rfl rfl rfl (trivial) rfl ?_
  refine rvc_un (rexec_append C rfl rfl rfl rfl rfl rfl rfl rfl (fun _ h => by cases h) rfl (en := eMember) (D0 := D) (D := v.D) rfl rfl rfl rfl (by show (2 * (D.length + v.D.length) + 192) * 24 ≤ _; omega) (by decide) (nn := (D ++ v.D).length) (by simp) ?_)
  refine rvc_prim C rfl rfl rfl rfl (trivial) rfl ?_
  refine rvc_nil ?_
  refine Awp.freezeW 25 (encL eMember (insertL D i v.D)) ?_ [(6, sS (some false) eMember (insertL D i v.D))] [] ?_ ?_ ?_
  · rw [show insertL D i v.D = D ++ v.D by subst hin; simp [insertL]]; rfl
  · exact ⟨⟨_, rfl, .inl (.inr ⟨_, _, _, rfl, by simp only [sS]; congr 2; rw [insertL_len (D := D) (M := v.D) hi]; simp⟩)⟩, trivial⟩
  · exact trivial
  refine Awp.ret ?_
  exact ⟨.inl rfl, rfl⟩
 ·
  have hne : i ≠ D.length := by have := ne_of_beq_false hc; omega
  refine Awp.skip ?_
  refine Awp.seq ?_
  refine Awp.cons C (fun _ => .pure) (by kernel_rfl) ?_ -- region 8 false
  refine rvc_prim C rfl rfl rfl rfl (trivial) rfl ?_
  refine rvc_prim C rfl rfl rfl rfl (trivial) rfl ?_
  refine rvc_un (rexec_primv C { v := .pv (.lit (.int .i64 ((D.length + v.D.length : Nat) : Int))) } rfl rfl rfl rfl trivial (delta_int (by rw [wrapI _ (by omega)]; omega)) rfl ?_)
  refine rvc_prim C rfl rfl rfl rfl (trivial) rfl ?_
  refine rvc_un (rexec_capC C rfl rfl rfl rfl rfl rfl ?_)
  refine rvc_prim C rfl rfl rfl rfl (trivial) rfl ?_
  refine rvc_nil ?_
  refine Awp.cond rfl (fun hc => ?_) (fun hc => ?_)
  ·
   have hgt : c < D.length + v.D.length := by have := of_decide_eq_true hc; omega
   refine Awp.cons C (fun _ => .pure) (by kernel_rfl) ?_ -- region 9 false
   refine rvc_prim C rfl rfl rfl rfl (trivial) rfl ?_
   refine rvc_prim C rfl rfl rfl rfl (trivial) rfl ?_
   refine rvc_un (rexec_sliceHiC C i rfl rfl rfl rfl rfl rfl (by omega) ?_)
   refine rvc_prim C rfl rfl rfl rfl (trivial) rfl ?_
   refine rvc_prim C rfl rfl rfl rfl (trivial) rfl ?_
   refine rvc_un (rexec_primv C { v := .pv (.lit (.int .i64 ((D.length + v.D.length : Nat) : Int))) } rfl rfl rfl rfl trivial (delta_int (by rw [wrapI _ (by omega)]; omega)) rfl ?_)
   refine rvc_prim C rfl rfl rfl rfl (trivial) rfl ?_
   refine rvc_un (rexec_primv C { v := .pv (.lit (.int .i64 ((D.length + v.D.length - i : Nat) : Int))) } rfl rfl rfl rfl trivial (delta_int (by rw [wrapI _ (by omega)]; omega)) rfl ?_)
   refine rvc_un (rexec_appendZ C rfl rfl rfl rfl rfl rfl rfl rfl rfl (Member.mk 0 0 false) D i (D.length + v.D.length - i) rfl rfl rfl hi (by omega) (by omega) (by show (2 * (i + (D.length + v.D.length - i)) + 192) * 24 ≤ _; omega) (by decide) (by decide) rfl rfl ?_)
   refine rvc_prim C rfl rfl rfl rfl (trivial) rfl ?_
   refine rvc_nil ?_
   refine Awp.cons C (fun _ => .pure) (by kernel_rfl) ?_ -- region 10 false
   refine rvc_prim C rfl rfl rfl rfl (trivial) rfl ?_
   refine rvc_prim C rfl rfl rfl rfl (trivial) rfl ?_
   refine rvc_un (rexec_sliceOwn C (l := i) rfl rfl rfl rfl rfl rfl (by omega) ?_)
   refine rvc_prim C rfl rfl rfl rfl (trivial) rfl ?_
   refine rvc_un (rexec_copyS C rfl rfl rfl rfl rfl rfl (e := eMember) v.D (encC eMember (D.take i ++ v.D ++ List.replicate (D.length - i) (Member.mk 0 0 false))) rfl rfl rfl (by omega) (by rw [encC_len]; simp [eMember]; omega) (by rw [hrep]; exact set_mid (by simp) (by simp [eMember]; omega)) ?_)
   refine rvc_nil ?_
   refine Awp.dropCap 0 0 0 D.length 3 c rfl ?_
   refine Awp.consP C ?_
   refine rvc_prim C rfl rfl rfl rfl (trivial) rfl ?_
   refine rvc_prim C rfl rfl rfl rfl (trivial) rfl ?_
   refine rvc_prim C rfl rfl rfl rfl (trivial) rfl ?_
   refine rvc_un (rexec_primv C { v := .pv (.lit (.int .i64 ((i + v.D.length : Nat) : Int))) } rfl rfl rfl rfl trivial (delta_int (by rw [wrapI _ (by omega)]; omega)) rfl ?_)
   refine rvc_un (rexec_sliceOwn C (l := i + v.D.length) rfl rfl rfl rfl rfl rfl (by omega) ?_)
   refine rvc_prim C rfl rfl rfl rfl (trivial) rfl ?_
   refine rvc_prim C rfl rfl rfl rfl (trivial) rfl ?_
   refine rvc_un (rexec_sliceOwn C (l := i) rfl rfl rfl rfl rfl rfl (by omega) ?_)
   refine rvc_un (rexec_copyO C rfl rfl rfl rfl rfl rfl (e := eMember) (D.drop i) (encC eMember (insertL D i v.D)) rfl rfl rfl rfl (by rw [encC_len]; simp [eMember]; omega) (by have := tail_of (e := eMember) (D := D) (Z := []) (i := i) (k := D.length - i) (j := (D.drop i).length * 3) hi (Nat.le_refl _) (by simp [eMember]); simpa [eMember] using this) (by simp; omega) (by rw [encC_len]; simp [eMember]; omega) (by have := set_mid (e := eMember) (A := D.take i ++ v.D) (B := List.replicate (D.length - i) (Member.mk 0 0 false)) (B' := D.drop i) (C := []) (k := (i + v.D.length) * 3) (by simp) (by simp [eMember]; omega); simpa [insertL] using this) ?_ rfl)
   refine rvc_nil ?_
   refine Awp.cons C (fun _ => .pure) (by kernel_rfl) ?_ -- region 12 false
   refine rvc_prim C rfl rfl rfl rfl (trivial) rfl ?_
   refine rvc_prim C rfl rfl rfl rfl (trivial) rfl ?_
   refine rvc_nil ?_
   refine Awp.freezeW 40 (encL eMember (insertL D i v.D)) ?_ [(6, sS (some false) eMember (insertL D i v.D))] [] ?_ ?_ ?_
   · rfl
   · exact ⟨⟨_, rfl, .inl (.inr ⟨_, _, _, rfl, by simp only [sS]; congr 2; rw [insertL_len (D := D) (M := v.D) hi]; omega⟩)⟩, trivial⟩
   · exact trivial
   refine Awp.ret ?_
   exact ⟨.inl rfl, rfl⟩
  ·
   have hle : D.length + v.D.length ≤ c := by have := of_decide_eq_false hc; omega
   refine Awp.skip ?_
   refine Awp.cons C (fun _ => .pure) (by kernel_rfl) ?_ -- region 13 false
   refine rvc_prim C rfl rfl rfl rfl (trivial) rfl ?_
   refine rvc_prim C rfl rfl rfl rfl (trivial) rfl ?_
   refine rvc_prim C rfl rfl rfl rfl (trivial) rfl ?_
   refine rvc_un (rexec_primv C { v := .pv (.lit (.int .i64 ((D.length + v.D.length : Nat) : Int))) } rfl rfl rfl rfl trivial (delta_int (by rw [wrapI _ (by omega)]; omega)) rfl ?_)
   refine rvc_un (rexec_sliceHiC C (D.length + v.D.length) rfl rfl rfl rfl rfl rfl (by omega) ?_)
   refine rvc_prim C rfl rfl rfl rfl (trivial) rfl ?_
   refine rvc_nil ?_
   refine Awp.seq ?_
   refine Awp.extend 0 0 (D.length + v.D.length) 3 c (encC eMember D) rfl rfl (by rw [encC_len]; simp [eMember]; omega) ?_
   refine Awp.dropCap 0 0 0 (D.length + v.D.length) 3 c rfl ?_
   refine Awp.cons C (fun _ => .writer) (by kernel_rfl) ?_ -- region 14 false
   refine rvc_prim C rfl rfl rfl rfl (trivial) rfl ?_
   refine rvc_prim C rfl rfl rfl rfl (trivial) rfl ?_
   refine rvc_prim C rfl rfl rfl rfl (trivial) rfl ?_
   refine rvc_prim C rfl rfl rfl rfl (trivial) rfl ?_
   refine rvc_un (rexec_primv C { v := .pv (.lit (.int .i64 ((i + v.D.length : Nat) : Int))) } rfl rfl rfl rfl trivial (delta_int (by rw [wrapI _ (by omega)]; omega)) rfl ?_)
   refine rvc_un (rexec_sliceOwn C (l := i + v.D.length) rfl rfl rfl rfl rfl rfl (by omega) ?_)
   refine rvc_un (rexec_overlaps C (fn := Try.f76) (t := 22) (tR := 4) rfl rfl (by rw [hP]; exact Try.func76) rfl rfl rfl (by kernel_rfl) rfl rfl rfl (fl := some v.nil) (m := v.D.length) (ps := encL eMember v.D) rfl rfl (encL_ne hv (by decide)) (encC_ne (by omega) (by decide)) ?_)
   refine rvc_prim C rfl rfl rfl rfl (trivial) rfl ?_
   refine rvc_nil ?_
   refine Awp.condT rfl (rfl) ?_
   refine Awp.consP C ?_
   refine rvc_prim C rfl rfl rfl rfl (trivial) rfl ?_
   refine rvc_prim C rfl rfl rfl rfl (trivial) rfl ?_
   refine rvc_prim C rfl rfl rfl rfl (trivial) rfl ?_
   refine rvc_un (rexec_primv C { v := .pv (.lit (.int .i64 ((i + v.D.length : Nat) : Int))) } rfl rfl rfl rfl trivial (delta_int (by rw [wrapI _ (by omega)]; omega)) rfl ?_)
   refine rvc_un (rexec_sliceOwn C (l := i + v.D.length) rfl rfl rfl rfl rfl rfl (by omega) ?_)
   refine rvc_prim C rfl rfl rfl rfl (trivial) rfl ?_
   refine rvc_prim C rfl rfl rfl rfl (trivial) rfl ?_
   refine rvc_un (rexec_sliceOwn C (l := i) rfl rfl rfl rfl rfl rfl (by omega) ?_)
   refine rvc_un (rexec_copyO C rfl rfl rfl rfl rfl rfl (e := eMember) (D.drop i) (setRange (encC eMember D ++ List.replicate (c * 3 - (encC eMember D).length) AV.undef) ((i + v.D.length) * 3) (encC eMember (D.drop i))) rfl rfl rfl rfl (by rw [List.length_append, encC_len, List.length_replicate]; simp [eMember]; omega) (by have := tail_of (e := eMember) (D := D) (Z := List.replicate (c * 3 - (encC eMember D).length) AV.undef) (i := i) (k := D.length + v.D.length - i) (j := (D.drop i).length * 3) hi (by omega) (by simp [eMember]); simpa [eMember] using this) (by simp; omega) (by rw [List.length_append, encC_len, List.length_replicate]; simp [eMember]; omega) (by congr 1; simp) ?_ rfl)
   refine rvc_nil ?_
   refine Awp.cons C (fun _ => .pure) (by kernel_rfl) ?_ -- region 16 false
   refine rvc_prim C rfl rfl rfl rfl (trivial) rfl ?_
   refine rvc_prim C rfl rfl rfl rfl (trivial) rfl ?_
   refine rvc_un (rexec_sliceOwn C (l := i) rfl rfl rfl rfl rfl rfl (by omega) ?_)
   refine rvc_prim C rfl rfl rfl rfl (trivial) rfl ?_
   refine rvc_un (rexec_copyS C rfl rfl rfl rfl rfl rfl (e := eMember) v.D (encC eMember (insertL D i v.D) ++ (List.replicate (c * 3 - (encC eMember D).length) AV.undef).drop (v.D.length * 3)) rfl rfl rfl (by omega) (by rw [setRange_length (by simp only [encC_len, List.length_append, List.length_replicate, List.length_drop, show eMember.sz = 3 from rfl]; omega)]; simp only [encC_len, List.length_append, List.length_replicate, show eMember.sz = 3 from rfl]; omega) (by have := insert_inplace (e := eMember) (D := D) (M := v.D) (Z := List.replicate (c * 3 - (encC eMember D).length) AV.undef) (i := i) hi (by rw [List.length_replicate, encC_len]; simp [eMember]; omega); simpa [eMember] using this) ?_)
   refine rvc_nil ?_
   refine Awp.cons C (fun _ => .pure) (by kernel_rfl) ?_ -- region 17 false
   refine rvc_prim C rfl rfl rfl rfl (trivial) rfl ?_
   refine rvc_prim C rfl rfl rfl rfl (trivial) rfl ?_
   refine rvc_nil ?_
   refine Awp.trim 0 (encC eMember (insertL D i v.D)) ((List.replicate (c * 3 - (encC eMember D).length) AV.undef).drop (v.D.length * 3)) rfl ?_
   refine Awp.freezeW 0 (encL eMember (insertL D i v.D)) ?_ [(6, sS (some false) eMember (insertL D i v.D))] [] ?_ ?_ ?_
   · rfl
   · exact ⟨⟨_, rfl, .inl (.inr ⟨_, _, _, rfl, by simp only [sS]; congr 2; rw [insertL_len (D := D) (M := v.D) hi]⟩)⟩, trivial⟩
   · exact trivial
   refine Awp.ret ?_
   exact ⟨.inl rfl, rfl⟩
end Go.Proofs.Ytaffaalpgpepeaa
/- Changes of chains. No conditions. -/
namespace Go.Proofs.Ytaffaalpgpepeaa
open Go.Am
def join_l0 (c : Chain) (m : Member) : Nat → Int → Chain × Int
  | 0, _ => default
  | nn + 1, i => (bif (decide (i < (c.members.D.length : Int))) then (bif (decide ((c.members.D[i.toNat]!.site) ≤ m.site)) then join_l0 c m nn (IntKind.i64.wrap (i + 1)) else (bif (i == 0) then ((Chain.mk 0 (Sl.mk true [])), 152) else ((after c (Sl.mk false (insertL c.members.D i.toNat [(Member.mk m.node m.site true)]))), 0))) else (bif (i == 0) then ((Chain.mk 0 (Sl.mk true [])), 152) else ((after c (Sl.mk false (insertL c.members.D i.toNat [(Member.mk m.node m.site true)]))), 0)))
def join (c : Chain) (m : Member) : Chain × Int :=
  (bif ((check c) != 0) then ((Chain.mk 0 (Sl.mk true [])), (check c)) else (bif (!(member (Member.mk m.node m.site true))) then ((Chain.mk 0 (Sl.mk true [])), 81) else (bif (decide ((placeIn c m.node) ≥ 0)) then ((Chain.mk 0 (Sl.mk true [])), 82) else (bif (decide (c.epoch ≥ 1099511627776)) then ((Chain.mk 0 (Sl.mk true [])), 5) else join_l0 c m ((c.members.D.length - (0 : Int).toNat) + 1) 0))))
theorem join_calls (c : Chain) (m : Member) (hn : c.members.nil = true → c.members.D = []) (hl1 : c.members.D.length ≤ 1000000) : PCalls Try.prog 46 [.agg [.pv (.lit (.int .i64 c.epoch)), sS (some c.members.nil) eMember c.members.D], .agg [.pv (.lit (.int .i64 m.node)), .pv (.lit (.int .i64 m.site)), .pv (.lit (.bool m.fresh))]] (.tup [.agg [.pv (.lit (.int .i64 ((join c m).1.epoch))), sS (some (join c m).1.members.nil) eMember ((join c m).1.members.D)], .pv (.lit (.int .i64 ((join c m).2)))]) := by
 generalize hR : join c m = R
 refine PCalls.of_body tabOk Try.func46 rfl rfl rfl rfl rfl mixed fun E hP C hI => ?_
 refine Awp.consP C ?_
 refine rvc_un (rexec_prim C (δ := { v := .ptr 2 0, new := [(2, .cells [.pv (.lit (.int .i64 c.epoch)), sS (some c.members.nil) eMember c.members.D])] }) rfl rfl rfl rfl trivial rfl ?_)
 refine rvc_un (rexec_prim C (δ := { v := .ptr 3 0, new := [(3, .cells [.pv (.lit (.int .i64 m.node)), .pv (.lit (.int .i64 m.site)), .pv (.lit (.bool m.fresh))])] }) rfl rfl rfl rfl trivial rfl ?_)
 refine rvc_un (rexec_prim C (δ := { v := .ptr 4 0, new := [(4, .cells [.pv (.lit (.int .i64 0)), sS (some true) eMember []])] }) rfl rfl rfl rfl trivial rfl ?_)
 refine rvP C (.pv (.lit (.int .i64 0))) ?_
 refine rvc_nil ?_
 refine Awp.seq ?_
 refine Awp.consP C ?_
 refine rvP C (.agg [.pv (.lit (.int .i64 c.epoch)), sS (some c.members.nil) eMember c.members.D]) ?_
 refine rvc_un (rexec_call hP C rfl rfl rfl (check_calls c (Nat.le_trans hl1 (by decide))) ?_)
 refine rvP C (.pv (.lit (.int .i64 (check c)))) ?_
 refine rvc_nil ?_
 refine Awp.consP C ?_
 refine rvP C (.pv (.lit (.int .i64 (check c)))) ?_
 refine rvP C (.pv (.lit (.bool ((check c) != 0)))) ?_
 refine rvc_nil ?_
 refine Awp.cond (b := ((check c) != 0)) rfl (fun h1 => ?_) (fun h1 => ?_)
 ·
  replace hR := of_true h1 hR
  refine Awp.consP C ?_
  refine rvP C (.agg [.pv (.lit (.int .i64 0)), sS (some true) eMember []]) ?_
  refine rvP C (.pv (.lit (.int .i64 (check c)))) ?_
  refine rvc_un (rexec_prim C (δ := { v := .undef, wr := [(4, some (.cells [.pv (.lit (.int .i64 0)), sS (some true) eMember []]))] }) rfl rfl rfl rfl trivial rfl ?_)
  refine rvP C (.pv (.lit (.int .i64 (check c)))) ?_
  refine rvc_nil ?_
  refine Awp.ret ?_
  subst hR
  exact ⟨.inl rfl, rfl⟩
 ·
  replace hR := of_false h1 hR
  refine Awp.skip ?_
  refine Awp.consP C ?_
  refine rvP C (.ptr 3 2) ?_
  refine rvc_un (rexec_prim C (δ := { v := .undef, wr := [(3, some (.cells [.pv (.lit (.int .i64 m.node)), .pv (.lit (.int .i64 m.site)), .pv (.lit (.bool true))]))] }) rfl rfl rfl rfl trivial rfl ?_)
  refine rvc_nil ?_
  refine Awp.seq ?_
  refine Awp.block ?_
  refine Awp.consP C ?_
  refine rvP C (.agg [.pv (.lit (.int .i64 m.node)), .pv (.lit (.int .i64 m.site)), .pv (.lit (.bool true))]) ?_
  refine rvc_un (rexec_call hP C rfl rfl rfl (member_calls (Member.mk m.node m.site true)) ?_)
  refine rvP C (.pv (.lit (.bool (!(member (Member.mk m.node m.site true)))))) ?_
  refine rvP C (.pv (.lit (.bool (!(member (Member.mk m.node m.site true)))))) ?_
  refine rvc_nil ?_
  refine Awp.cond (b := (!(member (Member.mk m.node m.site true)))) rfl (fun h2 => ?_) (fun h2 => ?_)
  ·
   replace hR := of_true h2 hR
   refine Awp.consP C ?_
   refine rvP C (.agg [.pv (.lit (.int .i64 0)), sS (some true) eMember []]) ?_
   refine rvc_un (rexec_prim C (δ := { v := .undef, wr := [(4, some (.cells [.pv (.lit (.int .i64 0)), sS (some true) eMember []]))] }) rfl rfl rfl rfl trivial rfl ?_)
   refine rvP C (.pv (.lit (.int .i64 81))) ?_
   refine rvc_nil ?_
   refine Awp.ret ?_
   subst hR
   exact ⟨.inl rfl, rfl⟩
  ·
   replace hR := of_false h2 hR
   refine Awp.consP C ?_
   refine rvP C (.agg [.pv (.lit (.int .i64 c.epoch)), sS (some c.members.nil) eMember c.members.D]) ?_
   refine rvP C (.ptr 3 0) ?_
   refine rvP C (.pv (.lit (.int .i64 m.node))) ?_
   refine rvc_un (rexec_call hP C rfl rfl rfl (placeIn_calls c m.node (Nat.le_trans hl1 (by decide))) ?_)
   refine rvP C (.pv (.lit (.bool (decide ((placeIn c m.node) ≥ 0))))) ?_
   refine rvP C (.pv (.lit (.bool (decide ((placeIn c m.node) ≥ 0))))) ?_
   refine rvc_nil ?_
   refine Awp.cond (b := (decide ((placeIn c m.node) ≥ 0))) rfl (fun h3 => ?_) (fun h3 => ?_)
   ·
    replace hR := of_true h3 hR
    refine Awp.consP C ?_
    refine rvP C (.agg [.pv (.lit (.int .i64 0)), sS (some true) eMember []]) ?_
    refine rvc_un (rexec_prim C (δ := { v := .undef, wr := [(4, some (.cells [.pv (.lit (.int .i64 0)), sS (some true) eMember []]))] }) rfl rfl rfl rfl trivial rfl ?_)
    refine rvP C (.pv (.lit (.int .i64 82))) ?_
    refine rvc_nil ?_
    refine Awp.ret ?_
    subst hR
    exact ⟨.inl rfl, rfl⟩
   ·
    replace hR := of_false h3 hR
    refine Awp.consP C ?_
    refine rvP C (.ptr 2 0) ?_
    refine rvP C (.pv (.lit (.int .i64 c.epoch))) ?_
    refine rvP C (.pv (.lit (.bool (decide (c.epoch ≥ 1099511627776))))) ?_
    refine rvP C (.pv (.lit (.bool (decide (c.epoch ≥ 1099511627776))))) ?_
    refine rvc_nil ?_
    refine Awp.cond (b := (decide (c.epoch ≥ 1099511627776))) rfl (fun h4 => ?_) (fun h4 => ?_)
    ·
     replace hR := of_true h4 hR
     refine Awp.consP C ?_
     refine rvP C (.agg [.pv (.lit (.int .i64 0)), sS (some true) eMember []]) ?_
     refine rvc_un (rexec_prim C (δ := { v := .undef, wr := [(4, some (.cells [.pv (.lit (.int .i64 0)), sS (some true) eMember []]))] }) rfl rfl rfl rfl trivial rfl ?_)
     refine rvP C (.pv (.lit (.int .i64 5))) ?_
     refine rvc_nil ?_
     refine Awp.ret ?_
     subst hR
     exact ⟨.inl rfl, rfl⟩
    ·
     replace hR := of_false h4 hR
     refine Awp.skip ?_
     refine Awp.consP C ?_
     refine rvP C (.pv (.lit (.int .i64 0))) ?_
     refine rvc_nil ?_
     refine Awp.seq ?_
     refine Awp.block ?_
     refine Awp.forM (σ := Int) (fun v => [(2, .ptr 2 0), (3, .ptr 3 0), (4, .ptr 4 0), (7, .pv (.lit (.int .i64 v)))]) (fun v => [(2, .cells [.pv (.lit (.int .i64 c.epoch)), sS (some c.members.nil) eMember c.members.D]), (3, .cells [.pv (.lit (.int .i64 m.node)), .pv (.lit (.int .i64 m.site)), .pv (.lit (.bool true))]), (4, .cells [.pv (.lit (.int .i64 0)), sS (some true) eMember []])]) [2, 3, 4] (fun n v => n = (c.members.D.length - (v : Int).toNat) ∧ join_l0 c m ((c.members.D.length - (v : Int).toNat) + 1) v = R ∧ (0 ≤ v ∧ v ≤ (c.members.D.length : Int))) ((c.members.D.length - (0 : Int).toNat)) 0 ?_ ?_ (fun _ i h5 => ?_)
     · exact ⟨rfl, hR, by simp⟩
     · exact ⟨fun b => b, WeakerR.ofL (Ks := [2, 3, 4]) hI ⟨⟨rfl, rfl⟩, ⟨rfl, rfl⟩, ⟨rfl, rfl⟩, ⟨rfl, rfl⟩, trivial⟩ (okH_cons rfl rfl rfl rfl (okH_cons rfl rfl rfl rfl (okH_cons rfl rfl rfl rfl (okH_nil)))) rfl⟩
     obtain ⟨rfl, hR, hV⟩ := h5
     refine Awp.seq ?_
     refine Awp.consP C ?_
     refine rvP C (.pv (.lit (.int .i64 i))) ?_
     refine rvP C (.ptr 2 1) ?_
     refine rvP C (sS (some c.members.nil) eMember c.members.D) ?_
     refine rvP C (.pv (.lit (.int .i64 (c.members.D.length : Int)))) ?_
     refine rvP C (.pv (.lit (.bool (decide (i < (c.members.D.length : Int)))))) ?_
     refine rvP C (.pv (.lit (.bool (decide (i < (c.members.D.length : Int)))))) ?_
     refine rvc_case 37 (decide (i < (c.members.D.length : Int))) rfl (fun h7 => ?_) (fun h7 => ?_)
     ·
      replace hR := of_true h7 hR
      refine rvO C (.ptr 2 1) ?_
      refine rvO C (sS (some c.members.nil) eMember c.members.D) ?_
      refine rvO C (.pv (.lit (.int .i64 i))) ?_
      have h8 : c.members.D[i.toNat]? = some c.members.D[i.toNat]! := getE (by have := check_len (c := c); have := check_le6 (c := c); have := placeIn_lt c m.node; have := eq_of_bne_false h1; have := of_decide_eq_false h3; have := of_decide_eq_false h4; have := of_decide_eq_true h7; omega)
      refine rvc_open rfl rfl rfl (rexec_idxS C rfl rfl rfl rfl rfl rfl (c.members.D[i.toNat]!) (by have := check_len (c := c); have := check_le6 (c := c); have := placeIn_lt c m.node; have := eq_of_bne_false h1; have := of_decide_eq_false h3; have := of_decide_eq_false h4; have := of_decide_eq_true h7; omega) h8 ?_)
      refine rvO C (.rp [.lit (.int .i64 (c.members.D[i.toNat]!.site))]) ?_
      refine rvO C (.pv (.lit (.int .i64 (c.members.D[i.toNat]!.site)))) ?_
      refine rvO C (.ptr 3 1) ?_
      refine rvO C (.pv (.lit (.int .i64 m.site))) ?_
      refine rvO C (.pv (.lit (.bool (decide ((c.members.D[i.toNat]!.site) ≤ m.site))))) ?_
      refine rvP C (.pv (.lit (.bool (decide ((c.members.D[i.toNat]!.site) ≤ m.site))))) ?_
      refine rvc_nil ?_
      refine Awp.cond (b := (decide ((c.members.D[i.toNat]!.site) ≤ m.site))) rfl (fun h9 => ?_) (fun h9 => ?_)
      ·
       replace hR := of_true h9 hR
       refine Awp.skip ?_
       refine Awp.block ?_
       refine Awp.regionP C ?_
       refine rvP C (.pv (.lit (.int .i64 i))) ?_
       refine rvP C (.pv (.lit (.int .i64 (IntKind.i64.wrap (i + 1))))) ?_
       refine rvP C (.pv (.lit (.int .i64 (IntKind.i64.wrap (i + 1))))) ?_
       refine rvc_nil ?_
       refine ⟨_, (IntKind.i64.wrap (i + 1)), ?_, ⟨rfl, (by rw [show (c.members.D.length - ((IntKind.i64.wrap (i + 1)) : Int).toNat) + 1 = (c.members.D.length - (i : Int).toNat) by have := wrapI (i + 1); have := check_len (c := c); have := check_le6 (c := c); have := placeIn_lt c m.node; have := eq_of_bne_false h1; have := of_decide_eq_false h3; have := of_decide_eq_false h4; have := of_decide_eq_true h7; have := of_decide_eq_true h9; first | omega | (simp only [List.length_drop]; omega)]; exact hR), (by have := wrapI (i + 1); have := check_len (c := c); have := check_le6 (c := c); have := placeIn_lt c m.node; have := eq_of_bne_false h1; have := of_decide_eq_false h3; have := of_decide_eq_false h4; have := of_decide_eq_true h7; have := of_decide_eq_true h9; omega)⟩, ?_⟩
       · show (c.members.D.length - ((IntKind.i64.wrap (i + 1)) : Int).toNat) < (c.members.D.length - (i : Int).toNat); have := wrapI (i + 1); have := check_len (c := c); have := check_le6 (c := c); have := placeIn_lt c m.node; have := eq_of_bne_false h1; have := of_decide_eq_false h3; have := of_decide_eq_false h4; have := of_decide_eq_true h7; have := of_decide_eq_true h9; first | omega | (simp only [List.length_drop]; omega)
       · exact ⟨fun b => b, WeakerR.ofL (Ks := [2, 3, 4]) hI ⟨⟨rfl, rfl⟩, ⟨rfl, rfl⟩, ⟨rfl, rfl⟩, ⟨rfl, rfl⟩, trivial⟩ (okH_cons rfl rfl rfl rfl (okH_cons rfl rfl rfl rfl (okH_cons rfl rfl rfl rfl (okH_nil)))) rfl⟩
      ·
       replace hR := of_false h9 hR
       refine Awp.exit ?_
       refine Awp.seq ?_
       refine Awp.consP C ?_
       refine rvP C (.pv (.lit (.int .i64 i))) ?_
       refine rvP C (.pv (.lit (.bool (i == 0)))) ?_
       refine rvc_nil ?_
       refine Awp.cond (b := (i == 0)) rfl (fun h10 => ?_) (fun h10 => ?_)
       ·
        replace hR := of_true h10 hR
        refine Awp.consP C ?_
        refine rvP C (.agg [.pv (.lit (.int .i64 0)), sS (some true) eMember []]) ?_
        refine rvc_un (rexec_prim C (δ := { v := .undef, wr := [(4, some (.cells [.pv (.lit (.int .i64 0)), sS (some true) eMember []]))] }) rfl rfl rfl rfl trivial rfl ?_)
        refine rvP C (.pv (.lit (.int .i64 152))) ?_
        refine rvc_nil ?_
        refine Awp.ret ?_
        subst hR
        exact ⟨.inl rfl, rfl⟩
       ·
        replace hR := of_false h10 hR
        refine Awp.skip ?_
        refine Awp.cons C (fun o => match o.dst with | some 53 => .reads [2] | some 55 => .reads [2] | some 58 => .reads [3] | some 60 => .writes [56] | some 56 => .quiet | _ => .pure) (by kernel_rfl) ?_
        refine rvP C (.agg [.pv (.lit (.int .i64 c.epoch)), sS (some c.members.nil) eMember c.members.D]) ?_
        refine rvP C (.ptr 2 1) ?_
        refine rvP C (sS (some c.members.nil) eMember c.members.D) ?_
        refine rvc_un (rexec_callO hP C rfl rfl rfl rfl (cloneO_calls c.members (nil_false hn (by have := check_len (c := c); have := check_le6 (c := c); have := placeIn_lt c m.node; have := eq_of_bne_false h1; have := of_decide_eq_false h3; have := of_decide_eq_false h4; have := of_decide_eq_true h7; have := of_decide_eq_false h9; have := ne_of_beq_false h10; omega)) hl1) ?_)
        refine rvP C (.pv (.lit (.int .i64 i))) ?_
        refine rvP C (.agg [.pv (.lit (.int .i64 m.node)), .pv (.lit (.int .i64 m.site)), .pv (.lit (.bool true))]) ?_
        refine rvc_un (rexec_buildSliceF C eMember [(Member.mk m.node m.site true)] rfl rfl rfl rfl rfl rfl rfl (by decide) rfl ?_)
        refine rvc_slot 57 (.pv (.lit (.int .i64 ((i.toNat : Nat) : Int)))) (by rw [show ((i.toNat : Nat) : Int) = i by omega]; rfl) ?_
        refine rvc_un (rexec_callX hP C (b := 56) rfl rfl rfl (insertM_calls c.members.D i.toNat (Sl.mk false [(Member.mk m.node m.site true)]) (by have := check_len (c := c); have := check_le6 (c := c); have := placeIn_lt c m.node; have := eq_of_bne_false h1; have := of_decide_eq_false h3; have := of_decide_eq_false h4; have := of_decide_eq_true h7; have := of_decide_eq_false h9; have := ne_of_beq_false h10; omega) (by simp) hl1 (by simp)) rfl rfl ?_)
        refine rvc_un (rexec_call hP C rfl rfl rfl (after_calls c (Sl.mk false (insertL c.members.D i.toNat [(Member.mk m.node m.site true)]))) ?_)
        refine rvc_un (rexec_prim C (δ := { v := .undef, wr := [(4, some (.cells [.pv (.lit (.int .i64 ((after c (Sl.mk false (insertL c.members.D i.toNat [(Member.mk m.node m.site true)]))).epoch))), sS (some (after c (Sl.mk false (insertL c.members.D i.toNat [(Member.mk m.node m.site true)]))).members.nil) eMember ((after c (Sl.mk false (insertL c.members.D i.toNat [(Member.mk m.node m.site true)]))).members.D)]))] }) rfl rfl rfl rfl trivial rfl ?_)
        refine rvP C (.pv (.lit (.int .i64 0))) ?_
        refine rvc_nil ?_
        refine Awp.ret ?_
        subst hR
        exact ⟨.inl rfl, rfl⟩
     ·
      replace hR := of_false h7 hR
      refine rvS ?_
      refine rvS ?_
      refine rvS ?_
      refine rvS ?_
      refine rvS ?_
      refine rvS ?_
      refine rvS ?_
      refine rvS ?_
      refine rvS ?_
      refine rvP C (.pv (.lit (.bool false))) ?_
      refine rvc_nil ?_
      refine Awp.condF (b := false) rfl rfl ?_
      refine Awp.exit ?_
      refine Awp.seq ?_
      refine Awp.consP C ?_
      refine rvP C (.pv (.lit (.int .i64 i))) ?_
      refine rvP C (.pv (.lit (.bool (i == 0)))) ?_
      refine rvc_nil ?_
      refine Awp.cond (b := (i == 0)) rfl (fun h11 => ?_) (fun h11 => ?_)
      ·
       replace hR := of_true h11 hR
       refine Awp.consP C ?_
       refine rvP C (.agg [.pv (.lit (.int .i64 0)), sS (some true) eMember []]) ?_
       refine rvc_un (rexec_prim C (δ := { v := .undef, wr := [(4, some (.cells [.pv (.lit (.int .i64 0)), sS (some true) eMember []]))] }) rfl rfl rfl rfl trivial rfl ?_)
       refine rvP C (.pv (.lit (.int .i64 152))) ?_
       refine rvc_nil ?_
       refine Awp.ret ?_
       subst hR
       exact ⟨.inl rfl, rfl⟩
      ·
       replace hR := of_false h11 hR
       refine Awp.skip ?_
       refine Awp.cons C (fun o => match o.dst with | some 53 => .reads [2] | some 55 => .reads [2] | some 58 => .reads [3] | some 60 => .writes [56] | some 56 => .quiet | _ => .pure) (by kernel_rfl) ?_
       refine rvP C (.agg [.pv (.lit (.int .i64 c.epoch)), sS (some c.members.nil) eMember c.members.D]) ?_
       refine rvP C (.ptr 2 1) ?_
       refine rvP C (sS (some c.members.nil) eMember c.members.D) ?_
       refine rvc_un (rexec_callO hP C rfl rfl rfl rfl (cloneO_calls c.members (nil_false hn (by have := check_len (c := c); have := check_le6 (c := c); have := placeIn_lt c m.node; have := eq_of_bne_false h1; have := of_decide_eq_false h3; have := of_decide_eq_false h4; have := of_decide_eq_false h7; have := ne_of_beq_false h11; omega)) hl1) ?_)
       refine rvP C (.pv (.lit (.int .i64 i))) ?_
       refine rvP C (.agg [.pv (.lit (.int .i64 m.node)), .pv (.lit (.int .i64 m.site)), .pv (.lit (.bool true))]) ?_
       refine rvc_un (rexec_buildSliceF C eMember [(Member.mk m.node m.site true)] rfl rfl rfl rfl rfl rfl rfl (by decide) rfl ?_)
       refine rvc_slot 57 (.pv (.lit (.int .i64 ((i.toNat : Nat) : Int)))) (by rw [show ((i.toNat : Nat) : Int) = i by omega]; rfl) ?_
       refine rvc_un (rexec_callX hP C (b := 56) rfl rfl rfl (insertM_calls c.members.D i.toNat (Sl.mk false [(Member.mk m.node m.site true)]) (by have := check_len (c := c); have := check_le6 (c := c); have := placeIn_lt c m.node; have := eq_of_bne_false h1; have := of_decide_eq_false h3; have := of_decide_eq_false h4; have := of_decide_eq_false h7; have := ne_of_beq_false h11; omega) (by simp) hl1 (by simp)) rfl rfl ?_)
       refine rvc_un (rexec_call hP C rfl rfl rfl (after_calls c (Sl.mk false (insertL c.members.D i.toNat [(Member.mk m.node m.site true)]))) ?_)
       refine rvc_un (rexec_prim C (δ := { v := .undef, wr := [(4, some (.cells [.pv (.lit (.int .i64 ((after c (Sl.mk false (insertL c.members.D i.toNat [(Member.mk m.node m.site true)]))).epoch))), sS (some (after c (Sl.mk false (insertL c.members.D i.toNat [(Member.mk m.node m.site true)]))).members.nil) eMember ((after c (Sl.mk false (insertL c.members.D i.toNat [(Member.mk m.node m.site true)]))).members.D)]))] }) rfl rfl rfl rfl trivial rfl ?_)
       refine rvP C (.pv (.lit (.int .i64 0))) ?_
       refine rvc_nil ?_
       refine Awp.ret ?_
       subst hR
       exact ⟨.inl rfl, rfl⟩
def drop (c : Chain) (node : Int) : Chain × Int :=
  (bif ((check c) != 0) then ((Chain.mk 0 (Sl.mk true [])), (check c)) else ((without c (maskOf (Sl.mk false [node]))).1, (without c (maskOf (Sl.mk false [node]))).2))
theorem drop_calls (c : Chain) (node : Int) (hl1 : c.members.D.length ≤ 1000000) : PCalls Try.prog 45 [.agg [.pv (.lit (.int .i64 c.epoch)), sS (some c.members.nil) eMember c.members.D], .pv (.lit (.int .i64 node))] (.tup [.agg [.pv (.lit (.int .i64 ((drop c node).1.epoch))), sS (some (drop c node).1.members.nil) eMember ((drop c node).1.members.D)], .pv (.lit (.int .i64 ((drop c node).2)))]) := by
 generalize hR : drop c node = R
 refine PCalls.of_body tabOk Try.func45 rfl rfl rfl rfl rfl mixed fun E hP C hI => ?_
 refine Awp.consP C ?_
 refine rvc_un (rexec_prim C (δ := { v := .ptr 2 0, new := [(2, .cells [.pv (.lit (.int .i64 c.epoch)), sS (some c.members.nil) eMember c.members.D])] }) rfl rfl rfl rfl trivial rfl ?_)
 refine rvc_un (rexec_prim C (δ := { v := .ptr 4 0, new := [(4, .cells [.pv (.lit (.int .i64 0)), sS (some true) eMember []])] }) rfl rfl rfl rfl trivial rfl ?_)
 refine rvP C (.pv (.lit (.int .i64 0))) ?_
 refine rvc_nil ?_
 refine Awp.seq ?_
 refine Awp.consP C ?_
 refine rvP C (.agg [.pv (.lit (.int .i64 c.epoch)), sS (some c.members.nil) eMember c.members.D]) ?_
 refine rvc_un (rexec_call hP C rfl rfl rfl (check_calls c (Nat.le_trans hl1 (by decide))) ?_)
 refine rvP C (.pv (.lit (.int .i64 (check c)))) ?_
 refine rvc_nil ?_
 refine Awp.consP C ?_
 refine rvP C (.pv (.lit (.int .i64 (check c)))) ?_
 refine rvP C (.pv (.lit (.bool ((check c) != 0)))) ?_
 refine rvc_nil ?_
 refine Awp.cond (b := ((check c) != 0)) rfl (fun h1 => ?_) (fun h1 => ?_)
 ·
  replace hR := of_true h1 hR
  refine Awp.consP C ?_
  refine rvP C (.agg [.pv (.lit (.int .i64 0)), sS (some true) eMember []]) ?_
  refine rvP C (.pv (.lit (.int .i64 (check c)))) ?_
  refine rvc_un (rexec_prim C (δ := { v := .undef, wr := [(4, some (.cells [.pv (.lit (.int .i64 0)), sS (some true) eMember []]))] }) rfl rfl rfl rfl trivial rfl ?_)
  refine rvP C (.pv (.lit (.int .i64 (check c)))) ?_
  refine rvc_nil ?_
  refine Awp.ret ?_
  subst hR
  exact ⟨.inl rfl, rfl⟩
 ·
  replace hR := of_false h1 hR
  refine Awp.skip ?_
  refine Awp.consP C ?_
  refine rvP C (.agg [.pv (.lit (.int .i64 c.epoch)), sS (some c.members.nil) eMember c.members.D]) ?_
  refine rvP C (.pv (.lit (.int .i64 node))) ?_
  refine rvc_un (rexec_buildSliceF C (eI .i64) [node] rfl rfl rfl rfl rfl rfl rfl (by decide) rfl ?_)
  refine rvc_un (rexec_call hP C rfl rfl rfl (maskOf_calls (Sl.mk false [node]) (by simp)) ?_)
  refine rvc_un (rexec_call hP C rfl rfl rfl (without_calls c (maskOf (Sl.mk false [node])) hl1) ?_)
  refine rvP C (.agg [.pv (.lit (.int .i64 ((without c (maskOf (Sl.mk false [node]))).1.epoch))), sS (some (without c (maskOf (Sl.mk false [node]))).1.members.nil) eMember ((without c (maskOf (Sl.mk false [node]))).1.members.D)]) ?_
  refine rvP C (.pv (.lit (.int .i64 ((without c (maskOf (Sl.mk false [node]))).2)))) ?_
  refine rvc_un (rexec_prim C (δ := { v := .undef, wr := [(4, some (.cells [.pv (.lit (.int .i64 ((without c (maskOf (Sl.mk false [node]))).1.epoch))), sS (some (without c (maskOf (Sl.mk false [node]))).1.members.nil) eMember ((without c (maskOf (Sl.mk false [node]))).1.members.D)]))] }) rfl rfl rfl rfl trivial rfl ?_)
  refine rvP C (.pv (.lit (.int .i64 ((without c (maskOf (Sl.mk false [node]))).2)))) ?_
  refine rvc_nil ?_
  refine Awp.ret ?_
  subst hR
  exact ⟨.inl rfl, rfl⟩
end Go.Proofs.Ytaffaalpgpepeaa
/- More changes of chains. No conditions. -/
namespace Go.Proofs.Ytaffaalpgpepeaa
open Go.Am
def ready (c : Chain) (node : Int) : Chain × Int :=
  (bif ((check c) != 0) then ((Chain.mk 0 (Sl.mk true [])), (check c)) else (bif (decide ((placeIn c node) < 0)) then ((Chain.mk 0 (Sl.mk true [])), 81) else (bif (!(c.members.D[(placeIn c node).toNat]!.fresh)) then ((Chain.mk 0 (Sl.mk true [])), 81) else ((Chain.mk c.epoch (Sl.mk false (c.members.D.set ((placeIn c node).toNat) (Member.mk (c.members.D[(placeIn c node).toNat]!.node) (c.members.D[(placeIn c node).toNat]!.site) false)))), 0))))
theorem ready_calls (c : Chain) (node : Int) (hn : c.members.nil = true → c.members.D = []) (hl1 : c.members.D.length ≤ 1000000) : PCalls Try.prog 63 [.agg [.pv (.lit (.int .i64 c.epoch)), sS (some c.members.nil) eMember c.members.D], .pv (.lit (.int .i64 node))] (.tup [.agg [.pv (.lit (.int .i64 ((ready c node).1.epoch))), sS (some (ready c node).1.members.nil) eMember ((ready c node).1.members.D)], .pv (.lit (.int .i64 ((ready c node).2)))]) := by
 generalize hR : ready c node = R
 refine PCalls.of_body tabOk Try.func63 rfl rfl rfl rfl rfl mixed fun E hP C hI => ?_
 refine Awp.consP C ?_
 refine rvc_un (rexec_prim C (δ := { v := .ptr 2 0, new := [(2, .cells [.pv (.lit (.int .i64 c.epoch)), sS (some c.members.nil) eMember c.members.D])] }) rfl rfl rfl rfl trivial rfl ?_)
 refine rvc_un (rexec_prim C (δ := { v := .ptr 4 0, new := [(4, .cells [.pv (.lit (.int .i64 0)), sS (some true) eMember []])] }) rfl rfl rfl rfl trivial rfl ?_)
 refine rvP C (.pv (.lit (.int .i64 0))) ?_
 refine rvc_nil ?_
 refine Awp.seq ?_
 refine Awp.consP C ?_
 refine rvP C (.agg [.pv (.lit (.int .i64 c.epoch)), sS (some c.members.nil) eMember c.members.D]) ?_
 refine rvc_un (rexec_call hP C rfl rfl rfl (check_calls c (Nat.le_trans hl1 (by decide))) ?_)
 refine rvP C (.pv (.lit (.int .i64 (check c)))) ?_
 refine rvc_nil ?_
 refine Awp.consP C ?_
 refine rvP C (.pv (.lit (.int .i64 (check c)))) ?_
 refine rvP C (.pv (.lit (.bool ((check c) != 0)))) ?_
 refine rvc_nil ?_
 refine Awp.cond (b := ((check c) != 0)) rfl (fun h1 => ?_) (fun h1 => ?_)
 ·
  replace hR := of_true h1 hR
  refine Awp.consP C ?_
  refine rvP C (.agg [.pv (.lit (.int .i64 0)), sS (some true) eMember []]) ?_
  refine rvP C (.pv (.lit (.int .i64 (check c)))) ?_
  refine rvc_un (rexec_prim C (δ := { v := .undef, wr := [(4, some (.cells [.pv (.lit (.int .i64 0)), sS (some true) eMember []]))] }) rfl rfl rfl rfl trivial rfl ?_)
  refine rvP C (.pv (.lit (.int .i64 (check c)))) ?_
  refine rvc_nil ?_
  refine Awp.ret ?_
  subst hR
  exact ⟨.inl rfl, rfl⟩
 ·
  replace hR := of_false h1 hR
  refine Awp.skip ?_
  refine Awp.consP C ?_
  refine rvP C (.agg [.pv (.lit (.int .i64 c.epoch)), sS (some c.members.nil) eMember c.members.D]) ?_
  refine rvP C (.pv (.lit (.int .i64 node))) ?_
  refine rvc_un (rexec_call hP C rfl rfl rfl (placeIn_calls c node (Nat.le_trans hl1 (by decide))) ?_)
  refine rvP C (.pv (.lit (.int .i64 (placeIn c node)))) ?_
  refine rvc_nil ?_
  refine Awp.seq ?_
  refine Awp.consP C ?_
  refine rvP C (.pv (.lit (.int .i64 (placeIn c node)))) ?_
  refine rvP C (.pv (.lit (.bool (decide ((placeIn c node) < 0))))) ?_
  refine rvP C (.pv (.lit (.bool (decide ((placeIn c node) < 0))))) ?_
  refine rvc_case 20 (decide ((placeIn c node) < 0)) rfl (fun h2 => ?_) (fun h2 => ?_)
  ·
   replace hR := of_true h2 hR
   refine rvS ?_
   refine rvS ?_
   refine rvS ?_
   refine rvS ?_
   refine rvS ?_
   refine rvS ?_
   refine rvS ?_
   refine rvP C (.pv (.lit (.bool true))) ?_
   refine rvc_nil ?_
   refine Awp.condT (b := true) rfl rfl ?_
   refine Awp.consP C ?_
   refine rvP C (.agg [.pv (.lit (.int .i64 0)), sS (some true) eMember []]) ?_
   refine rvc_un (rexec_prim C (δ := { v := .undef, wr := [(4, some (.cells [.pv (.lit (.int .i64 0)), sS (some true) eMember []]))] }) rfl rfl rfl rfl trivial rfl ?_)
   refine rvP C (.pv (.lit (.int .i64 81))) ?_
   refine rvc_nil ?_
   refine Awp.ret ?_
   subst hR
   exact ⟨.inl rfl, rfl⟩
  ·
   replace hR := of_false h2 hR
   refine rvO C (.ptr 2 1) ?_
   refine rvO C (sS (some c.members.nil) eMember c.members.D) ?_
   refine rvO C (.pv (.lit (.int .i64 (placeIn c node)))) ?_
   have h3 : c.members.D[(placeIn c node).toNat]? = some c.members.D[(placeIn c node).toNat]! := getE (by have := check_len (c := c); have := check_le6 (c := c); have := placeIn_lt c node; have := eq_of_bne_false h1; have := of_decide_eq_false h2; omega)
   refine rvc_open rfl rfl rfl (rexec_idxS C rfl rfl rfl rfl rfl rfl (c.members.D[(placeIn c node).toNat]!) (by have := check_len (c := c); have := check_le6 (c := c); have := placeIn_lt c node; have := eq_of_bne_false h1; have := of_decide_eq_false h2; omega) h3 ?_)
   refine rvO C (.rp [.lit (.bool (c.members.D[(placeIn c node).toNat]!.fresh))]) ?_
   refine rvO C (.pv (.lit (.bool (c.members.D[(placeIn c node).toNat]!.fresh)))) ?_
   refine rvO C (.pv (.lit (.bool (!(c.members.D[(placeIn c node).toNat]!.fresh))))) ?_
   refine rvP C (.pv (.lit (.bool (!(c.members.D[(placeIn c node).toNat]!.fresh))))) ?_
   refine rvc_nil ?_
   refine Awp.cond (b := (!(c.members.D[(placeIn c node).toNat]!.fresh))) rfl (fun h4 => ?_) (fun h4 => ?_)
   ·
    replace hR := of_true h4 hR
    refine Awp.consP C ?_
    refine rvP C (.agg [.pv (.lit (.int .i64 0)), sS (some true) eMember []]) ?_
    refine rvc_un (rexec_prim C (δ := { v := .undef, wr := [(4, some (.cells [.pv (.lit (.int .i64 0)), sS (some true) eMember []]))] }) rfl rfl rfl rfl trivial rfl ?_)
    refine rvP C (.pv (.lit (.int .i64 81))) ?_
    refine rvc_nil ?_
    refine Awp.ret ?_
    subst hR
    exact ⟨.inl rfl, rfl⟩
   ·
    replace hR := of_false h4 hR
    refine Awp.skip ?_
    refine Awp.cons C (fun _ => .quiet) (by kernel_rfl) ?_
    refine rvP C (.ptr 2 1) ?_
    refine rvP C (sS (some c.members.nil) eMember c.members.D) ?_
    refine rvc_un (rexec_callO hP C rfl rfl rfl rfl (cloneO_calls c.members (nil_false hn (by have := check_len (c := c); have := check_le6 (c := c); have := placeIn_lt c node; have := eq_of_bne_false h1; have := of_decide_eq_false h2; omega)) hl1) ?_)
    refine rvP C (.sl 32 0 c.members.D.length 3 false) ?_
    refine rvc_nil ?_
    refine Awp.consP C ?_
    refine rvP C (.sl 32 0 c.members.D.length 3 false) ?_
    refine rvP C (.pv (.lit (.int .i64 (placeIn c node)))) ?_
    refine rvc_un (rexec_prim C (δ := { v := .ptr 32 (0 + (placeIn c node).toNat * 3) }) rfl rfl rfl rfl ⟨(by have := check_len (c := c); have := check_le6 (c := c); have := placeIn_lt c node; have := eq_of_bne_false h1; have := of_decide_eq_false h2; omega), getlt h3 (by first | rfl | omega | (have := check_len (c := c); have := check_le6 (c := c); have := placeIn_lt c node; have := eq_of_bne_false h1; have := of_decide_eq_false h2; omega)) (by first | rfl | simp)⟩ rfl ?_)
    refine rvP C (.ptr 32 (0 + (placeIn c node).toNat * 3 + 2)) ?_
    refine rvc_un (rexec_storeE C (e := eMember) ((placeIn c node).toNat) 2 (c.members.D[(placeIn c node).toNat]!) (Member.mk (c.members.D[(placeIn c node).toNat]!.node) (c.members.D[(placeIn c node).toNat]!.site) false) rfl rfl rfl rfl h3 (by simp [eMember]) rfl rfl rfl (by decide) rfl ?_)
    refine rvc_nil ?_
    refine Awp.consP C ?_
    refine rvP C (.ptr 2 0) ?_
    refine rvP C (.pv (.lit (.int .i64 c.epoch))) ?_
    refine rvP C (.sl 32 0 c.members.D.length 3 false) ?_
    refine rvP C (.agg [.pv (.lit (.int .i64 c.epoch)), .sl 32 0 c.members.D.length 3 false]) ?_
    refine rvc_un (rexec_prim C (δ := { v := .undef, wr := [(4, some (.cells [.pv (.lit (.int .i64 c.epoch)), .sl 32 0 c.members.D.length 3 false]))] }) rfl rfl rfl rfl trivial rfl ?_)
    refine rvP C (.pv (.lit (.int .i64 0))) ?_
    refine rvc_nil ?_
    refine Awp.freezeW 32 (encL eMember (c.members.D.set ((placeIn c node).toNat) (Member.mk (c.members.D[(placeIn c node).toNat]!.node) (c.members.D[(placeIn c node).toNat]!.site) false))) ?_ [(4, .ptr 4 0), (5, .pv (.lit (.int .i64 0)))] [(2, .cells [.pv (.lit (.int .i64 c.epoch)), sS (some c.members.nil) eMember c.members.D]), (4, .cells [.pv (.lit (.int .i64 c.epoch)), sS (some false) eMember (c.members.D.set ((placeIn c node).toNat) (Member.mk (c.members.D[(placeIn c node).toNat]!.node) (c.members.D[(placeIn c node).toNat]!.site) false))])] ?_ ?_ ?_
    · rfl
    · exact ⟨⟨_, rfl, .inl (.inl rfl)⟩, ⟨_, rfl, .inl (.inl rfl)⟩, trivial⟩
    · exact ⟨⟨(by show (2 : Nat) ≠ 32; decide), .inl rfl⟩, ⟨(by show (4 : Nat) ≠ 32; decide), .inr ⟨_, _, rfl, rfl, ⟨.inl rfl, .inr ⟨_, _, _, rfl, by simp [sS]⟩, trivial⟩⟩⟩, trivial⟩
    refine Awp.ret ?_
    subst hR
    exact ⟨.inl rfl, rfl⟩
end Go.Proofs.Ytaffaalpgpepeaa
/- Small functions of plan. No conditions. -/
namespace Go.Proofs.Ytaffaalpgpepeaa
open Go.Am
structure Command where
  kind : Int
  node : Int
  site : Int
  epoch : Int
  deriving Inhabited
def eCommand : Enc Command := ⟨4, fun x => [.lit (.int .i64 x.kind), .lit (.int .i64 x.node), .lit (.int .i64 x.site), .lit (.int .i64 x.epoch)], fun _ => rfl⟩
def cmdCheck (c : Command) : Int :=
  (bif (decide (c.node ≥ 0)) then (bif (decide (c.site ≥ 0)) then (bif (decide (c.epoch ≥ 1)) then (bif (c.kind == 1) then (bif (decide (c.epoch ≤ 1099511627776)) then (bif (decide (c.node < 6)) then (bif (!(c.site == 0)) then 120 else 0) else 120) else 120) else (bif (c.kind == 3) then (bif (decide (c.epoch ≤ 1099511627776)) then (bif (decide (c.node < 6)) then (bif (!(c.site == 0)) then 120 else 0) else 120) else 120) else (bif (c.kind == 4) then (bif (decide (c.epoch ≤ 1099511627776)) then (bif (decide (c.node < 6)) then (bif (!(c.site == 0)) then 120 else 0) else 120) else 120) else (bif (c.kind == 2) then (bif (decide (c.epoch ≤ 1099511627776)) then (bif (decide (c.node < 6)) then (bif (!(decide (c.site < 3))) then 120 else 0) else 120) else 120) else (bif (c.kind == 5) then (bif (decide (c.epoch ≤ 1099511627776)) then (bif (decide (c.site < 3)) then (bif (!(c.node == 0)) then 120 else 0) else 120) else 120) else 120))))) else (bif (c.kind == 1) then 120 else (bif (c.kind == 3) then 120 else (bif (c.kind == 4) then 120 else (bif (c.kind == 2) then 120 else (bif (c.kind == 5) then 120 else 120)))))) else (bif (decide (c.epoch ≥ 1)) then (bif (c.kind == 1) then (bif (decide (c.epoch ≤ 1099511627776)) then (bif (decide (c.node < 6)) then (bif (!(c.site == 0)) then 120 else 0) else 120) else 120) else (bif (c.kind == 3) then (bif (decide (c.epoch ≤ 1099511627776)) then (bif (decide (c.node < 6)) then (bif (!(c.site == 0)) then 120 else 0) else 120) else 120) else (bif (c.kind == 4) then (bif (decide (c.epoch ≤ 1099511627776)) then (bif (decide (c.node < 6)) then (bif (!(c.site == 0)) then 120 else 0) else 120) else 120) else (bif (c.kind == 2) then (bif (decide (c.epoch ≤ 1099511627776)) then (bif (decide (c.node < 6)) then 120 else 120) else 120) else (bif (c.kind == 5) then (bif (decide (c.epoch ≤ 1099511627776)) then 120 else 120) else 120))))) else (bif (c.kind == 1) then 120 else (bif (c.kind == 3) then 120 else (bif (c.kind == 4) then 120 else (bif (c.kind == 2) then 120 else (bif (c.kind == 5) then 120 else 120))))))) else (bif (decide (c.site ≥ 0)) then (bif (decide (c.epoch ≥ 1)) then (bif (c.kind == 1) then (bif (decide (c.epoch ≤ 1099511627776)) then 120 else 120) else (bif (c.kind == 3) then (bif (decide (c.epoch ≤ 1099511627776)) then 120 else 120) else (bif (c.kind == 4) then (bif (decide (c.epoch ≤ 1099511627776)) then 120 else 120) else (bif (c.kind == 2) then (bif (decide (c.epoch ≤ 1099511627776)) then 120 else 120) else (bif (c.kind == 5) then (bif (decide (c.epoch ≤ 1099511627776)) then (bif (decide (c.site < 3)) then (bif (!(c.node == 0)) then 120 else 0) else 120) else 120) else 120))))) else (bif (c.kind == 1) then 120 else (bif (c.kind == 3) then 120 else (bif (c.kind == 4) then 120 else (bif (c.kind == 2) then 120 else (bif (c.kind == 5) then 120 else 120)))))) else (bif (decide (c.epoch ≥ 1)) then (bif (c.kind == 1) then (bif (decide (c.epoch ≤ 1099511627776)) then 120 else 120) else (bif (c.kind == 3) then (bif (decide (c.epoch ≤ 1099511627776)) then 120 else 120) else (bif (c.kind == 4) then (bif (decide (c.epoch ≤ 1099511627776)) then 120 else 120) else (bif (c.kind == 2) then (bif (decide (c.epoch ≤ 1099511627776)) then 120 else 120) else (bif (c.kind == 5) then (bif (decide (c.epoch ≤ 1099511627776)) then 120 else 120) else 120))))) else (bif (c.kind == 1) then 120 else (bif (c.kind == 3) then 120 else (bif (c.kind == 4) then 120 else (bif (c.kind == 2) then 120 else (bif (c.kind == 5) then 120 else 120))))))))
theorem cmdCheck_calls (c : Command)  : PCalls Try.prog 47 [.agg [.pv (.lit (.int .i64 c.kind)), .pv (.lit (.int .i64 c.node)), .pv (.lit (.int .i64 c.site)), .pv (.lit (.int .i64 c.epoch))]] (.pv (.lit (.int .i64 (cmdCheck c)))) := by
 generalize hR : cmdCheck c = R
 refine PCalls.of_body tabOk Try.func47 rfl rfl rfl rfl rfl mixed fun E hP C hI => ?_
 refine Awp.consP C ?_
 refine rvc_un (rexec_prim C (δ := { v := .ptr 1 0, new := [(1, .cells [.pv (.lit (.int .i64 c.kind)), .pv (.lit (.int .i64 c.node)), .pv (.lit (.int .i64 c.site)), .pv (.lit (.int .i64 c.epoch))])] }) rfl rfl rfl rfl trivial rfl ?_)
 refine rvP C (.pv (.lit (.int .i64 0))) ?_
 refine rvc_nil ?_
 refine Awp.consP C ?_
 refine rvP C (.ptr 1 1) ?_
 refine rvP C (.pv (.lit (.int .i64 c.node))) ?_
 refine rvP C (.pv (.lit (.bool (decide (c.node ≥ 0))))) ?_
 refine rvP C (.pv (.lit (.bool (decide (c.node ≥ 0))))) ?_
 refine rvc_case 9 (decide (c.node ≥ 0)) rfl (fun h1 => ?_) (fun h1 => ?_)
 ·
  replace hR := of_true h1 hR
  refine rvO C (.ptr 1 1) ?_
  refine rvO C (.pv (.lit (.int .i64 c.node))) ?_
  refine rvO C (.pv (.lit (.bool (decide (c.node < 6))))) ?_
  refine rvP C (.pv (.lit (.bool (decide (c.node < 6))))) ?_
  refine rvP C (.pv (.lit (.bool (decide (c.node < 6))))) ?_
  refine rvc_nil ?_
  refine Awp.consP C ?_
  refine rvP C (.ptr 1 2) ?_
  refine rvP C (.pv (.lit (.int .i64 c.site))) ?_
  refine rvP C (.pv (.lit (.bool (decide (c.site ≥ 0))))) ?_
  refine rvP C (.pv (.lit (.bool (decide (c.site ≥ 0))))) ?_
  refine rvc_case 17 (decide (c.site ≥ 0)) rfl (fun h2 => ?_) (fun h2 => ?_)
  ·
   replace hR := of_true h2 hR
   refine rvO C (.ptr 1 2) ?_
   refine rvO C (.pv (.lit (.int .i64 c.site))) ?_
   refine rvO C (.pv (.lit (.bool (decide (c.site < 3))))) ?_
   refine rvP C (.pv (.lit (.bool (decide (c.site < 3))))) ?_
   refine rvP C (.pv (.lit (.bool (decide (c.site < 3))))) ?_
   refine rvc_nil ?_
   refine Awp.consP C ?_
   refine rvP C (.ptr 1 3) ?_
   refine rvP C (.pv (.lit (.int .i64 c.epoch))) ?_
   refine rvP C (.pv (.lit (.bool (decide (c.epoch ≥ 1))))) ?_
   refine rvP C (.pv (.lit (.bool (decide (c.epoch ≥ 1))))) ?_
   refine rvc_case 25 (decide (c.epoch ≥ 1)) rfl (fun h3 => ?_) (fun h3 => ?_)
   ·
    replace hR := of_true h3 hR
    refine rvO C (.ptr 1 3) ?_
    refine rvO C (.pv (.lit (.int .i64 c.epoch))) ?_
    refine rvO C (.pv (.lit (.bool (decide (c.epoch ≤ 1099511627776))))) ?_
    refine rvP C (.pv (.lit (.bool (decide (c.epoch ≤ 1099511627776))))) ?_
    refine rvP C (.pv (.lit (.bool (decide (c.epoch ≤ 1099511627776))))) ?_
    refine rvc_nil ?_
    refine Awp.seq ?_
    refine Awp.consP C ?_
    refine rvP C (.ptr 1 0) ?_
    refine rvP C (.pv (.lit (.int .i64 c.kind))) ?_
    refine rvc_nil ?_
    refine Awp.block ?_
    refine Awp.seq ?_
    refine Awp.consP C ?_
    refine rvP C (.pv (.lit (.bool (c.kind == 1)))) ?_
    refine rvP C (.pv (.lit (.bool (c.kind == 1)))) ?_
    refine rvc_nil ?_
    refine Awp.cond (b := (c.kind == 1)) rfl (fun h4 => ?_) (fun h4 => ?_)
    ·
     replace hR := of_true h4 hR
     refine Awp.skip ?_
     refine Awp.condT (b := (c.kind == 1)) rfl h4 ?_
     refine Awp.regionP C ?_
     refine rvP C (.pv (.lit (.bool (decide (c.epoch ≤ 1099511627776))))) ?_
     refine rvP C (.pv (.lit (.bool (decide (c.epoch ≤ 1099511627776))))) ?_
     refine rvc_case 37 (decide (c.epoch ≤ 1099511627776)) rfl (fun h5 => ?_) (fun h5 => ?_)
     ·
      replace hR := of_true h5 hR
      refine rvO C (.pv (.lit (.bool (decide (c.node < 6))))) ?_
      refine rvP C (.pv (.lit (.bool (decide (c.node < 6))))) ?_
      refine rvP C (.pv (.lit (.bool (decide (c.node < 6))))) ?_
      refine rvc_case 40 (decide (c.node < 6)) rfl (fun h6 => ?_) (fun h6 => ?_)
      ·
       replace hR := of_true h6 hR
       refine rvO C (.ptr 1 2) ?_
       refine rvO C (.pv (.lit (.int .i64 c.site))) ?_
       refine rvO C (.pv (.lit (.bool (c.site == 0)))) ?_
       refine rvP C (.pv (.lit (.bool (c.site == 0)))) ?_
       refine rvP C (.pv (.lit (.bool (c.site == 0)))) ?_
       refine rvc_nil ?_
       refine Awp.seq ?_
       refine Awp.consP C ?_
       refine rvP C (.pv (.lit (.bool (c.site == 0)))) ?_
       refine rvP C (.pv (.lit (.bool (!(c.site == 0))))) ?_
       refine rvc_nil ?_
       refine Awp.cond (b := (!(c.site == 0))) rfl (fun h7 => ?_) (fun h7 => ?_)
       ·
        replace hR := of_true h7 hR
        refine Awp.consP C ?_
        refine rvP C (.pv (.lit (.int .i64 120))) ?_
        refine rvc_nil ?_
        refine Awp.ret ?_
        subst hR
        exact ⟨.inl rfl, rfl⟩
       ·
        replace hR := of_false h7 hR
        refine Awp.skip ?_
        refine Awp.consP C ?_
        refine rvP C (.pv (.lit (.int .i64 0))) ?_
        refine rvc_nil ?_
        refine Awp.ret ?_
        subst hR
        exact ⟨.inl rfl, rfl⟩
      ·
       replace hR := of_false h6 hR
       refine rvS ?_
       refine rvS ?_
       refine rvS ?_
       refine rvP C (.pv (.lit (.bool false))) ?_
       refine rvP C (.pv (.lit (.bool false))) ?_
       refine rvc_nil ?_
       refine Awp.seq ?_
       refine Awp.consP C ?_
       refine rvP C (.pv (.lit (.bool false))) ?_
       refine rvP C (.pv (.lit (.bool true))) ?_
       refine rvc_nil ?_
       refine Awp.condT (b := true) rfl rfl ?_
       refine Awp.consP C ?_
       refine rvP C (.pv (.lit (.int .i64 120))) ?_
       refine rvc_nil ?_
       refine Awp.ret ?_
       subst hR
       exact ⟨.inl rfl, rfl⟩
     ·
      replace hR := of_false h5 hR
      refine rvS ?_
      refine rvP C (.pv (.lit (.bool false))) ?_
      refine rvP C (.pv (.lit (.bool false))) ?_
      refine rvS ?_
      refine rvS ?_
      refine rvS ?_
      refine rvP C (.pv (.lit (.bool false))) ?_
      refine rvP C (.pv (.lit (.bool false))) ?_
      refine rvc_nil ?_
      refine Awp.seq ?_
      refine Awp.consP C ?_
      refine rvP C (.pv (.lit (.bool false))) ?_
      refine rvP C (.pv (.lit (.bool true))) ?_
      refine rvc_nil ?_
      refine Awp.condT (b := true) rfl rfl ?_
      refine Awp.consP C ?_
      refine rvP C (.pv (.lit (.int .i64 120))) ?_
      refine rvc_nil ?_
      refine Awp.ret ?_
      subst hR
      exact ⟨.inl rfl, rfl⟩
    ·
     replace hR := of_false h4 hR
     refine Awp.consP C ?_
     refine rvP C (.pv (.lit (.bool (c.kind == 3)))) ?_
     refine rvP C (.pv (.lit (.bool (c.kind == 3)))) ?_
     refine rvc_nil ?_
     refine Awp.cond (b := (c.kind == 3)) rfl (fun h8 => ?_) (fun h8 => ?_)
     ·
      replace hR := of_true h8 hR
      refine Awp.skip ?_
      refine Awp.condT (b := (c.kind == 3)) rfl h8 ?_
      refine Awp.regionP C ?_
      refine rvP C (.pv (.lit (.bool (decide (c.epoch ≤ 1099511627776))))) ?_
      refine rvP C (.pv (.lit (.bool (decide (c.epoch ≤ 1099511627776))))) ?_
      refine rvc_case 37 (decide (c.epoch ≤ 1099511627776)) rfl (fun h9 => ?_) (fun h9 => ?_)
      ·
       replace hR := of_true h9 hR
       refine rvO C (.pv (.lit (.bool (decide (c.node < 6))))) ?_
       refine rvP C (.pv (.lit (.bool (decide (c.node < 6))))) ?_
       refine rvP C (.pv (.lit (.bool (decide (c.node < 6))))) ?_
       refine rvc_case 40 (decide (c.node < 6)) rfl (fun h10 => ?_) (fun h10 => ?_)
       ·
        replace hR := of_true h10 hR
        refine rvO C (.ptr 1 2) ?_
        refine rvO C (.pv (.lit (.int .i64 c.site))) ?_
        refine rvO C (.pv (.lit (.bool (c.site == 0)))) ?_
        refine rvP C (.pv (.lit (.bool (c.site == 0)))) ?_
        refine rvP C (.pv (.lit (.bool (c.site == 0)))) ?_
        refine rvc_nil ?_
        refine Awp.seq ?_
        refine Awp.consP C ?_
        refine rvP C (.pv (.lit (.bool (c.site == 0)))) ?_
        refine rvP C (.pv (.lit (.bool (!(c.site == 0))))) ?_
        refine rvc_nil ?_
        refine Awp.cond (b := (!(c.site == 0))) rfl (fun h11 => ?_) (fun h11 => ?_)
        ·
         replace hR := of_true h11 hR
         refine Awp.consP C ?_
         refine rvP C (.pv (.lit (.int .i64 120))) ?_
         refine rvc_nil ?_
         refine Awp.ret ?_
         subst hR
         exact ⟨.inl rfl, rfl⟩
        ·
         replace hR := of_false h11 hR
         refine Awp.skip ?_
         refine Awp.consP C ?_
         refine rvP C (.pv (.lit (.int .i64 0))) ?_
         refine rvc_nil ?_
         refine Awp.ret ?_
         subst hR
         exact ⟨.inl rfl, rfl⟩
       ·
        replace hR := of_false h10 hR
        refine rvS ?_
        refine rvS ?_
        refine rvS ?_
        refine rvP C (.pv (.lit (.bool false))) ?_
        refine rvP C (.pv (.lit (.bool false))) ?_
        refine rvc_nil ?_
        refine Awp.seq ?_
        refine Awp.consP C ?_
        refine rvP C (.pv (.lit (.bool false))) ?_
        refine rvP C (.pv (.lit (.bool true))) ?_
        refine rvc_nil ?_
        refine Awp.condT (b := true) rfl rfl ?_
        refine Awp.consP C ?_
        refine rvP C (.pv (.lit (.int .i64 120))) ?_
        refine rvc_nil ?_
        refine Awp.ret ?_
        subst hR
        exact ⟨.inl rfl, rfl⟩
      ·
       replace hR := of_false h9 hR
       refine rvS ?_
       refine rvP C (.pv (.lit (.bool false))) ?_
       refine rvP C (.pv (.lit (.bool false))) ?_
       refine rvS ?_
       refine rvS ?_
       refine rvS ?_
       refine rvP C (.pv (.lit (.bool false))) ?_
       refine rvP C (.pv (.lit (.bool false))) ?_
       refine rvc_nil ?_
       refine Awp.seq ?_
       refine Awp.consP C ?_
       refine rvP C (.pv (.lit (.bool false))) ?_
       refine rvP C (.pv (.lit (.bool true))) ?_
       refine rvc_nil ?_
       refine Awp.condT (b := true) rfl rfl ?_
       refine Awp.consP C ?_
       refine rvP C (.pv (.lit (.int .i64 120))) ?_
       refine rvc_nil ?_
       refine Awp.ret ?_
       subst hR
       exact ⟨.inl rfl, rfl⟩
     ·
      replace hR := of_false h8 hR
      refine Awp.regionP C ?_
      refine rvP C (.pv (.lit (.bool (c.kind == 4)))) ?_
      refine rvP C (.pv (.lit (.bool (c.kind == 4)))) ?_
      refine rvc_nil ?_
      refine Awp.cond (b := (c.kind == 4)) rfl (fun h12 => ?_) (fun h12 => ?_)
      ·
       replace hR := of_true h12 hR
       refine Awp.regionP C ?_
       refine rvP C (.pv (.lit (.bool (decide (c.epoch ≤ 1099511627776))))) ?_
       refine rvP C (.pv (.lit (.bool (decide (c.epoch ≤ 1099511627776))))) ?_
       refine rvc_case 37 (decide (c.epoch ≤ 1099511627776)) rfl (fun h13 => ?_) (fun h13 => ?_)
       ·
        replace hR := of_true h13 hR
        refine rvO C (.pv (.lit (.bool (decide (c.node < 6))))) ?_
        refine rvP C (.pv (.lit (.bool (decide (c.node < 6))))) ?_
        refine rvP C (.pv (.lit (.bool (decide (c.node < 6))))) ?_
        refine rvc_case 40 (decide (c.node < 6)) rfl (fun h14 => ?_) (fun h14 => ?_)
        ·
         replace hR := of_true h14 hR
         refine rvO C (.ptr 1 2) ?_
         refine rvO C (.pv (.lit (.int .i64 c.site))) ?_
         refine rvO C (.pv (.lit (.bool (c.site == 0)))) ?_
         refine rvP C (.pv (.lit (.bool (c.site == 0)))) ?_
         refine rvP C (.pv (.lit (.bool (c.site == 0)))) ?_
         refine rvc_nil ?_
         refine Awp.seq ?_
         refine Awp.consP C ?_
         refine rvP C (.pv (.lit (.bool (c.site == 0)))) ?_
         refine rvP C (.pv (.lit (.bool (!(c.site == 0))))) ?_
         refine rvc_nil ?_
         refine Awp.cond (b := (!(c.site == 0))) rfl (fun h15 => ?_) (fun h15 => ?_)
         ·
          replace hR := of_true h15 hR
          refine Awp.consP C ?_
          refine rvP C (.pv (.lit (.int .i64 120))) ?_
          refine rvc_nil ?_
          refine Awp.ret ?_
          subst hR
          exact ⟨.inl rfl, rfl⟩
         ·
          replace hR := of_false h15 hR
          refine Awp.skip ?_
          refine Awp.consP C ?_
          refine rvP C (.pv (.lit (.int .i64 0))) ?_
          refine rvc_nil ?_
          refine Awp.ret ?_
          subst hR
          exact ⟨.inl rfl, rfl⟩
        ·
         replace hR := of_false h14 hR
         refine rvS ?_
         refine rvS ?_
         refine rvS ?_
         refine rvP C (.pv (.lit (.bool false))) ?_
         refine rvP C (.pv (.lit (.bool false))) ?_
         refine rvc_nil ?_
         refine Awp.seq ?_
         refine Awp.consP C ?_
         refine rvP C (.pv (.lit (.bool false))) ?_
         refine rvP C (.pv (.lit (.bool true))) ?_
         refine rvc_nil ?_
         refine Awp.condT (b := true) rfl rfl ?_
         refine Awp.consP C ?_
         refine rvP C (.pv (.lit (.int .i64 120))) ?_
         refine rvc_nil ?_
         refine Awp.ret ?_
         subst hR
         exact ⟨.inl rfl, rfl⟩
       ·
        replace hR := of_false h13 hR
        refine rvS ?_
        refine rvP C (.pv (.lit (.bool false))) ?_
        refine rvP C (.pv (.lit (.bool false))) ?_
        refine rvS ?_
        refine rvS ?_
        refine rvS ?_
        refine rvP C (.pv (.lit (.bool false))) ?_
        refine rvP C (.pv (.lit (.bool false))) ?_
        refine rvc_nil ?_
        refine Awp.seq ?_
        refine Awp.consP C ?_
        refine rvP C (.pv (.lit (.bool false))) ?_
        refine rvP C (.pv (.lit (.bool true))) ?_
        refine rvc_nil ?_
        refine Awp.condT (b := true) rfl rfl ?_
        refine Awp.consP C ?_
        refine rvP C (.pv (.lit (.int .i64 120))) ?_
        refine rvc_nil ?_
        refine Awp.ret ?_
        subst hR
        exact ⟨.inl rfl, rfl⟩
      ·
       replace hR := of_false h12 hR
       refine Awp.consP C ?_
       refine rvP C (.pv (.lit (.bool (c.kind == 2)))) ?_
       refine rvP C (.pv (.lit (.bool (c.kind == 2)))) ?_
       refine rvc_nil ?_
       refine Awp.cond (b := (c.kind == 2)) rfl (fun h16 => ?_) (fun h16 => ?_)
       ·
        replace hR := of_true h16 hR
        refine Awp.regionP C ?_
        refine rvP C (.pv (.lit (.bool (decide (c.epoch ≤ 1099511627776))))) ?_
        refine rvP C (.pv (.lit (.bool (decide (c.epoch ≤ 1099511627776))))) ?_
        refine rvc_case 48 (decide (c.epoch ≤ 1099511627776)) rfl (fun h17 => ?_) (fun h17 => ?_)
        ·
         replace hR := of_true h17 hR
         refine rvO C (.pv (.lit (.bool (decide (c.node < 6))))) ?_
         refine rvP C (.pv (.lit (.bool (decide (c.node < 6))))) ?_
         refine rvP C (.pv (.lit (.bool (decide (c.node < 6))))) ?_
         refine rvc_case 51 (decide (c.node < 6)) rfl (fun h18 => ?_) (fun h18 => ?_)
         ·
          replace hR := of_true h18 hR
          refine rvO C (.pv (.lit (.bool (decide (c.site < 3))))) ?_
          refine rvP C (.pv (.lit (.bool (decide (c.site < 3))))) ?_
          refine rvP C (.pv (.lit (.bool (decide (c.site < 3))))) ?_
          refine rvc_nil ?_
          refine Awp.seq ?_
          refine Awp.consP C ?_
          refine rvP C (.pv (.lit (.bool (decide (c.site < 3))))) ?_
          refine rvP C (.pv (.lit (.bool (!(decide (c.site < 3)))))) ?_
          refine rvc_nil ?_
          refine Awp.cond (b := (!(decide (c.site < 3)))) rfl (fun h19 => ?_) (fun h19 => ?_)
          ·
           replace hR := of_true h19 hR
           refine Awp.consP C ?_
           refine rvP C (.pv (.lit (.int .i64 120))) ?_
           refine rvc_nil ?_
           refine Awp.ret ?_
           subst hR
           exact ⟨.inl rfl, rfl⟩
          ·
           replace hR := of_false h19 hR
           refine Awp.skip ?_
           refine Awp.consP C ?_
           refine rvP C (.pv (.lit (.int .i64 0))) ?_
           refine rvc_nil ?_
           refine Awp.ret ?_
           subst hR
           exact ⟨.inl rfl, rfl⟩
         ·
          replace hR := of_false h18 hR
          refine rvS ?_
          refine rvP C (.pv (.lit (.bool false))) ?_
          refine rvP C (.pv (.lit (.bool false))) ?_
          refine rvc_nil ?_
          refine Awp.seq ?_
          refine Awp.consP C ?_
          refine rvP C (.pv (.lit (.bool false))) ?_
          refine rvP C (.pv (.lit (.bool true))) ?_
          refine rvc_nil ?_
          refine Awp.condT (b := true) rfl rfl ?_
          refine Awp.consP C ?_
          refine rvP C (.pv (.lit (.int .i64 120))) ?_
          refine rvc_nil ?_
          refine Awp.ret ?_
          subst hR
          exact ⟨.inl rfl, rfl⟩
        ·
         replace hR := of_false h17 hR
         refine rvS ?_
         refine rvP C (.pv (.lit (.bool false))) ?_
         refine rvP C (.pv (.lit (.bool false))) ?_
         refine rvS ?_
         refine rvP C (.pv (.lit (.bool false))) ?_
         refine rvP C (.pv (.lit (.bool false))) ?_
         refine rvc_nil ?_
         refine Awp.seq ?_
         refine Awp.consP C ?_
         refine rvP C (.pv (.lit (.bool false))) ?_
         refine rvP C (.pv (.lit (.bool true))) ?_
         refine rvc_nil ?_
         refine Awp.condT (b := true) rfl rfl ?_
         refine Awp.consP C ?_
         refine rvP C (.pv (.lit (.int .i64 120))) ?_
         refine rvc_nil ?_
         refine Awp.ret ?_
         subst hR
         exact ⟨.inl rfl, rfl⟩
       ·
        replace hR := of_false h16 hR
        refine Awp.consP C ?_
        refine rvP C (.pv (.lit (.bool (c.kind == 5)))) ?_
        refine rvP C (.pv (.lit (.bool (c.kind == 5)))) ?_
        refine rvc_nil ?_
        refine Awp.cond (b := (c.kind == 5)) rfl (fun h20 => ?_) (fun h20 => ?_)
        ·
         replace hR := of_true h20 hR
         refine Awp.regionP C ?_
         refine rvP C (.pv (.lit (.bool (decide (c.epoch ≤ 1099511627776))))) ?_
         refine rvP C (.pv (.lit (.bool (decide (c.epoch ≤ 1099511627776))))) ?_
         refine rvc_case 57 (decide (c.epoch ≤ 1099511627776)) rfl (fun h21 => ?_) (fun h21 => ?_)
         ·
          replace hR := of_true h21 hR
          refine rvO C (.pv (.lit (.bool (decide (c.site < 3))))) ?_
          refine rvP C (.pv (.lit (.bool (decide (c.site < 3))))) ?_
          refine rvP C (.pv (.lit (.bool (decide (c.site < 3))))) ?_
          refine rvc_case 60 (decide (c.site < 3)) rfl (fun h22 => ?_) (fun h22 => ?_)
          ·
           replace hR := of_true h22 hR
           refine rvO C (.ptr 1 1) ?_
           refine rvO C (.pv (.lit (.int .i64 c.node))) ?_
           refine rvO C (.pv (.lit (.bool (c.node == 0)))) ?_
           refine rvP C (.pv (.lit (.bool (c.node == 0)))) ?_
           refine rvP C (.pv (.lit (.bool (c.node == 0)))) ?_
           refine rvc_nil ?_
           refine Awp.seq ?_
           refine Awp.consP C ?_
           refine rvP C (.pv (.lit (.bool (c.node == 0)))) ?_
           refine rvP C (.pv (.lit (.bool (!(c.node == 0))))) ?_
           refine rvc_nil ?_
           refine Awp.cond (b := (!(c.node == 0))) rfl (fun h23 => ?_) (fun h23 => ?_)
           ·
            replace hR := of_true h23 hR
            refine Awp.consP C ?_
            refine rvP C (.pv (.lit (.int .i64 120))) ?_
            refine rvc_nil ?_
            refine Awp.ret ?_
            subst hR
            exact ⟨.inl rfl, rfl⟩
           ·
            replace hR := of_false h23 hR
            refine Awp.skip ?_
            refine Awp.consP C ?_
            refine rvP C (.pv (.lit (.int .i64 0))) ?_
            refine rvc_nil ?_
            refine Awp.ret ?_
            subst hR
            exact ⟨.inl rfl, rfl⟩
          ·
           replace hR := of_false h22 hR
           refine rvS ?_
           refine rvS ?_
           refine rvS ?_
           refine rvP C (.pv (.lit (.bool false))) ?_
           refine rvP C (.pv (.lit (.bool false))) ?_
           refine rvc_nil ?_
           refine Awp.seq ?_
           refine Awp.consP C ?_
           refine rvP C (.pv (.lit (.bool false))) ?_
           refine rvP C (.pv (.lit (.bool true))) ?_
           refine rvc_nil ?_
           refine Awp.condT (b := true) rfl rfl ?_
           refine Awp.consP C ?_
           refine rvP C (.pv (.lit (.int .i64 120))) ?_
           refine rvc_nil ?_
           refine Awp.ret ?_
           subst hR
           exact ⟨.inl rfl, rfl⟩
         ·
          replace hR := of_false h21 hR
          refine rvS ?_
          refine rvP C (.pv (.lit (.bool false))) ?_
          refine rvP C (.pv (.lit (.bool false))) ?_
          refine rvS ?_
          refine rvS ?_
          refine rvS ?_
          refine rvP C (.pv (.lit (.bool false))) ?_
          refine rvP C (.pv (.lit (.bool false))) ?_
          refine rvc_nil ?_
          refine Awp.seq ?_
          refine Awp.consP C ?_
          refine rvP C (.pv (.lit (.bool false))) ?_
          refine rvP C (.pv (.lit (.bool true))) ?_
          refine rvc_nil ?_
          refine Awp.condT (b := true) rfl rfl ?_
          refine Awp.consP C ?_
          refine rvP C (.pv (.lit (.int .i64 120))) ?_
          refine rvc_nil ?_
          refine Awp.ret ?_
          subst hR
          exact ⟨.inl rfl, rfl⟩
        ·
         replace hR := of_false h20 hR
         refine Awp.regionP C ?_
         refine rvP C (.pv (.lit (.bool false))) ?_
         refine rvc_nil ?_
         refine Awp.seq ?_
         refine Awp.consP C ?_
         refine rvP C (.pv (.lit (.bool false))) ?_
         refine rvP C (.pv (.lit (.bool true))) ?_
         refine rvc_nil ?_
         refine Awp.condT (b := true) rfl rfl ?_
         refine Awp.consP C ?_
         refine rvP C (.pv (.lit (.int .i64 120))) ?_
         refine rvc_nil ?_
         refine Awp.ret ?_
         subst hR
         exact ⟨.inl rfl, rfl⟩
   ·
    replace hR := of_false h3 hR
    refine rvS ?_
    refine rvS ?_
    refine rvS ?_
    refine rvP C (.pv (.lit (.bool false))) ?_
    refine rvP C (.pv (.lit (.bool false))) ?_
    refine rvc_nil ?_
    refine Awp.seq ?_
    refine Awp.consP C ?_
    refine rvP C (.ptr 1 0) ?_
    refine rvP C (.pv (.lit (.int .i64 c.kind))) ?_
    refine rvc_nil ?_
    refine Awp.block ?_
    refine Awp.seq ?_
    refine Awp.consP C ?_
    refine rvP C (.pv (.lit (.bool (c.kind == 1)))) ?_
    refine rvP C (.pv (.lit (.bool (c.kind == 1)))) ?_
    refine rvc_nil ?_
    refine Awp.cond (b := (c.kind == 1)) rfl (fun h24 => ?_) (fun h24 => ?_)
    ·
     replace hR := of_true h24 hR
     refine Awp.skip ?_
     refine Awp.condT (b := (c.kind == 1)) rfl h24 ?_
     refine Awp.regionP C ?_
     refine rvP C (.pv (.lit (.bool false))) ?_
     refine rvP C (.pv (.lit (.bool false))) ?_
     refine rvS ?_
     refine rvP C (.pv (.lit (.bool false))) ?_
     refine rvP C (.pv (.lit (.bool false))) ?_
     refine rvS ?_
     refine rvS ?_
     refine rvS ?_
     refine rvP C (.pv (.lit (.bool false))) ?_
     refine rvP C (.pv (.lit (.bool false))) ?_
     refine rvc_nil ?_
     refine Awp.seq ?_
     refine Awp.consP C ?_
     refine rvP C (.pv (.lit (.bool false))) ?_
     refine rvP C (.pv (.lit (.bool true))) ?_
     refine rvc_nil ?_
     refine Awp.condT (b := true) rfl rfl ?_
     refine Awp.consP C ?_
     refine rvP C (.pv (.lit (.int .i64 120))) ?_
     refine rvc_nil ?_
     refine Awp.ret ?_
     subst hR
     exact ⟨.inl rfl, rfl⟩
    ·
     replace hR := of_false h24 hR
     refine Awp.consP C ?_
     refine rvP C (.pv (.lit (.bool (c.kind == 3)))) ?_
     refine rvP C (.pv (.lit (.bool (c.kind == 3)))) ?_
     refine rvc_nil ?_
     refine Awp.cond (b := (c.kind == 3)) rfl (fun h25 => ?_) (fun h25 => ?_)
     ·
      replace hR := of_true h25 hR
      refine Awp.skip ?_
      refine Awp.condT (b := (c.kind == 3)) rfl h25 ?_
      refine Awp.regionP C ?_
      refine rvP C (.pv (.lit (.bool false))) ?_
      refine rvP C (.pv (.lit (.bool false))) ?_
      refine rvS ?_
      refine rvP C (.pv (.lit (.bool false))) ?_
      refine rvP C (.pv (.lit (.bool false))) ?_
      refine rvS ?_
      refine rvS ?_
      refine rvS ?_
      refine rvP C (.pv (.lit (.bool false))) ?_
      refine rvP C (.pv (.lit (.bool false))) ?_
      refine rvc_nil ?_
      refine Awp.seq ?_
      refine Awp.consP C ?_
      refine rvP C (.pv (.lit (.bool false))) ?_
      refine rvP C (.pv (.lit (.bool true))) ?_
      refine rvc_nil ?_
      refine Awp.condT (b := true) rfl rfl ?_
      refine Awp.consP C ?_
      refine rvP C (.pv (.lit (.int .i64 120))) ?_
      refine rvc_nil ?_
      refine Awp.ret ?_
      subst hR
      exact ⟨.inl rfl, rfl⟩
     ·
      replace hR := of_false h25 hR
      refine Awp.regionP C ?_
      refine rvP C (.pv (.lit (.bool (c.kind == 4)))) ?_
      refine rvP C (.pv (.lit (.bool (c.kind == 4)))) ?_
      refine rvc_nil ?_
      refine Awp.cond (b := (c.kind == 4)) rfl (fun h26 => ?_) (fun h26 => ?_)
      ·
       replace hR := of_true h26 hR
       refine Awp.regionP C ?_
       refine rvP C (.pv (.lit (.bool false))) ?_
       refine rvP C (.pv (.lit (.bool false))) ?_
       refine rvS ?_
       refine rvP C (.pv (.lit (.bool false))) ?_
       refine rvP C (.pv (.lit (.bool false))) ?_
       refine rvS ?_
       refine rvS ?_
       refine rvS ?_
       refine rvP C (.pv (.lit (.bool false))) ?_
       refine rvP C (.pv (.lit (.bool false))) ?_
       refine rvc_nil ?_
       refine Awp.seq ?_
       refine Awp.consP C ?_
       refine rvP C (.pv (.lit (.bool false))) ?_
       refine rvP C (.pv (.lit (.bool true))) ?_
       refine rvc_nil ?_
       refine Awp.condT (b := true) rfl rfl ?_
       refine Awp.consP C ?_
       refine rvP C (.pv (.lit (.int .i64 120))) ?_
       refine rvc_nil ?_
       refine Awp.ret ?_
       subst hR
       exact ⟨.inl rfl, rfl⟩
      ·
       replace hR := of_false h26 hR
       refine Awp.consP C ?_
       refine rvP C (.pv (.lit (.bool (c.kind == 2)))) ?_
       refine rvP C (.pv (.lit (.bool (c.kind == 2)))) ?_
       refine rvc_nil ?_
       refine Awp.cond (b := (c.kind == 2)) rfl (fun h27 => ?_) (fun h27 => ?_)
       ·
        replace hR := of_true h27 hR
        refine Awp.regionP C ?_
        refine rvP C (.pv (.lit (.bool false))) ?_
        refine rvP C (.pv (.lit (.bool false))) ?_
        refine rvS ?_
        refine rvP C (.pv (.lit (.bool false))) ?_
        refine rvP C (.pv (.lit (.bool false))) ?_
        refine rvS ?_
        refine rvP C (.pv (.lit (.bool false))) ?_
        refine rvP C (.pv (.lit (.bool false))) ?_
        refine rvc_nil ?_
        refine Awp.seq ?_
        refine Awp.consP C ?_
        refine rvP C (.pv (.lit (.bool false))) ?_
        refine rvP C (.pv (.lit (.bool true))) ?_
        refine rvc_nil ?_
        refine Awp.condT (b := true) rfl rfl ?_
        refine Awp.consP C ?_
        refine rvP C (.pv (.lit (.int .i64 120))) ?_
        refine rvc_nil ?_
        refine Awp.ret ?_
        subst hR
        exact ⟨.inl rfl, rfl⟩
       ·
        replace hR := of_false h27 hR
        refine Awp.consP C ?_
        refine rvP C (.pv (.lit (.bool (c.kind == 5)))) ?_
        refine rvP C (.pv (.lit (.bool (c.kind == 5)))) ?_
        refine rvc_nil ?_
        refine Awp.cond (b := (c.kind == 5)) rfl (fun h28 => ?_) (fun h28 => ?_)
        ·
         replace hR := of_true h28 hR
         refine Awp.regionP C ?_
         refine rvP C (.pv (.lit (.bool false))) ?_
         refine rvP C (.pv (.lit (.bool false))) ?_
         refine rvS ?_
         refine rvP C (.pv (.lit (.bool false))) ?_
         refine rvP C (.pv (.lit (.bool false))) ?_
         refine rvS ?_
         refine rvS ?_
         refine rvS ?_
         refine rvP C (.pv (.lit (.bool false))) ?_
         refine rvP C (.pv (.lit (.bool false))) ?_
         refine rvc_nil ?_
         refine Awp.seq ?_
         refine Awp.consP C ?_
         refine rvP C (.pv (.lit (.bool false))) ?_
         refine rvP C (.pv (.lit (.bool true))) ?_
         refine rvc_nil ?_
         refine Awp.condT (b := true) rfl rfl ?_
         refine Awp.consP C ?_
         refine rvP C (.pv (.lit (.int .i64 120))) ?_
         refine rvc_nil ?_
         refine Awp.ret ?_
         subst hR
         exact ⟨.inl rfl, rfl⟩
        ·
         replace hR := of_false h28 hR
         refine Awp.regionP C ?_
         refine rvP C (.pv (.lit (.bool false))) ?_
         refine rvc_nil ?_
         refine Awp.seq ?_
         refine Awp.consP C ?_
         refine rvP C (.pv (.lit (.bool false))) ?_
         refine rvP C (.pv (.lit (.bool true))) ?_
         refine rvc_nil ?_
         refine Awp.condT (b := true) rfl rfl ?_
         refine Awp.consP C ?_
         refine rvP C (.pv (.lit (.int .i64 120))) ?_
         refine rvc_nil ?_
         refine Awp.ret ?_
         subst hR
         exact ⟨.inl rfl, rfl⟩
  ·
   replace hR := of_false h2 hR
   refine rvS ?_
   refine rvS ?_
   refine rvS ?_
   refine rvP C (.pv (.lit (.bool false))) ?_
   refine rvP C (.pv (.lit (.bool false))) ?_
   refine rvc_nil ?_
   refine Awp.consP C ?_
   refine rvP C (.ptr 1 3) ?_
   refine rvP C (.pv (.lit (.int .i64 c.epoch))) ?_
   refine rvP C (.pv (.lit (.bool (decide (c.epoch ≥ 1))))) ?_
   refine rvP C (.pv (.lit (.bool (decide (c.epoch ≥ 1))))) ?_
   refine rvc_case 25 (decide (c.epoch ≥ 1)) rfl (fun h29 => ?_) (fun h29 => ?_)
   ·
    replace hR := of_true h29 hR
    refine rvO C (.ptr 1 3) ?_
    refine rvO C (.pv (.lit (.int .i64 c.epoch))) ?_
    refine rvO C (.pv (.lit (.bool (decide (c.epoch ≤ 1099511627776))))) ?_
    refine rvP C (.pv (.lit (.bool (decide (c.epoch ≤ 1099511627776))))) ?_
    refine rvP C (.pv (.lit (.bool (decide (c.epoch ≤ 1099511627776))))) ?_
    refine rvc_nil ?_
    refine Awp.seq ?_
    refine Awp.consP C ?_
    refine rvP C (.ptr 1 0) ?_
    refine rvP C (.pv (.lit (.int .i64 c.kind))) ?_
    refine rvc_nil ?_
    refine Awp.block ?_
    refine Awp.seq ?_
    refine Awp.consP C ?_
    refine rvP C (.pv (.lit (.bool (c.kind == 1)))) ?_
    refine rvP C (.pv (.lit (.bool (c.kind == 1)))) ?_
    refine rvc_nil ?_
    refine Awp.cond (b := (c.kind == 1)) rfl (fun h30 => ?_) (fun h30 => ?_)
    ·
     replace hR := of_true h30 hR
     refine Awp.skip ?_
     refine Awp.condT (b := (c.kind == 1)) rfl h30 ?_
     refine Awp.regionP C ?_
     refine rvP C (.pv (.lit (.bool (decide (c.epoch ≤ 1099511627776))))) ?_
     refine rvP C (.pv (.lit (.bool (decide (c.epoch ≤ 1099511627776))))) ?_
     refine rvc_case 37 (decide (c.epoch ≤ 1099511627776)) rfl (fun h31 => ?_) (fun h31 => ?_)
     ·
      replace hR := of_true h31 hR
      refine rvO C (.pv (.lit (.bool (decide (c.node < 6))))) ?_
      refine rvP C (.pv (.lit (.bool (decide (c.node < 6))))) ?_
      refine rvP C (.pv (.lit (.bool (decide (c.node < 6))))) ?_
      refine rvc_case 40 (decide (c.node < 6)) rfl (fun h32 => ?_) (fun h32 => ?_)
      ·
       replace hR := of_true h32 hR
       refine rvO C (.ptr 1 2) ?_
       refine rvO C (.pv (.lit (.int .i64 c.site))) ?_
       refine rvO C (.pv (.lit (.bool (c.site == 0)))) ?_
       refine rvP C (.pv (.lit (.bool (c.site == 0)))) ?_
       refine rvP C (.pv (.lit (.bool (c.site == 0)))) ?_
       refine rvc_nil ?_
       refine Awp.seq ?_
       refine Awp.consP C ?_
       refine rvP C (.pv (.lit (.bool (c.site == 0)))) ?_
       refine rvP C (.pv (.lit (.bool (!(c.site == 0))))) ?_
       refine rvc_nil ?_
       refine Awp.cond (b := (!(c.site == 0))) rfl (fun h33 => ?_) (fun h33 => ?_)
       ·
        replace hR := of_true h33 hR
        refine Awp.consP C ?_
        refine rvP C (.pv (.lit (.int .i64 120))) ?_
        refine rvc_nil ?_
        refine Awp.ret ?_
        subst hR
        exact ⟨.inl rfl, rfl⟩
       ·
        replace hR := of_false h33 hR
        refine Awp.skip ?_
        refine Awp.consP C ?_
        refine rvP C (.pv (.lit (.int .i64 0))) ?_
        refine rvc_nil ?_
        refine Awp.ret ?_
        subst hR
        exact ⟨.inl rfl, rfl⟩
      ·
       replace hR := of_false h32 hR
       refine rvS ?_
       refine rvS ?_
       refine rvS ?_
       refine rvP C (.pv (.lit (.bool false))) ?_
       refine rvP C (.pv (.lit (.bool false))) ?_
       refine rvc_nil ?_
       refine Awp.seq ?_
       refine Awp.consP C ?_
       refine rvP C (.pv (.lit (.bool false))) ?_
       refine rvP C (.pv (.lit (.bool true))) ?_
       refine rvc_nil ?_
       refine Awp.condT (b := true) rfl rfl ?_
       refine Awp.consP C ?_
       refine rvP C (.pv (.lit (.int .i64 120))) ?_
       refine rvc_nil ?_
       refine Awp.ret ?_
       subst hR
       exact ⟨.inl rfl, rfl⟩
     ·
      replace hR := of_false h31 hR
      refine rvS ?_
      refine rvP C (.pv (.lit (.bool false))) ?_
      refine rvP C (.pv (.lit (.bool false))) ?_
      refine rvS ?_
      refine rvS ?_
      refine rvS ?_
      refine rvP C (.pv (.lit (.bool false))) ?_
      refine rvP C (.pv (.lit (.bool false))) ?_
      refine rvc_nil ?_
      refine Awp.seq ?_
      refine Awp.consP C ?_
      refine rvP C (.pv (.lit (.bool false))) ?_
      refine rvP C (.pv (.lit (.bool true))) ?_
      refine rvc_nil ?_
      refine Awp.condT (b := true) rfl rfl ?_
      refine Awp.consP C ?_
      refine rvP C (.pv (.lit (.int .i64 120))) ?_
      refine rvc_nil ?_
      refine Awp.ret ?_
      subst hR
      exact ⟨.inl rfl, rfl⟩
    ·
     replace hR := of_false h30 hR
     refine Awp.consP C ?_
     refine rvP C (.pv (.lit (.bool (c.kind == 3)))) ?_
     refine rvP C (.pv (.lit (.bool (c.kind == 3)))) ?_
     refine rvc_nil ?_
     refine Awp.cond (b := (c.kind == 3)) rfl (fun h34 => ?_) (fun h34 => ?_)
     ·
      replace hR := of_true h34 hR
      refine Awp.skip ?_
      refine Awp.condT (b := (c.kind == 3)) rfl h34 ?_
      refine Awp.regionP C ?_
      refine rvP C (.pv (.lit (.bool (decide (c.epoch ≤ 1099511627776))))) ?_
      refine rvP C (.pv (.lit (.bool (decide (c.epoch ≤ 1099511627776))))) ?_
      refine rvc_case 37 (decide (c.epoch ≤ 1099511627776)) rfl (fun h35 => ?_) (fun h35 => ?_)
      ·
       replace hR := of_true h35 hR
       refine rvO C (.pv (.lit (.bool (decide (c.node < 6))))) ?_
       refine rvP C (.pv (.lit (.bool (decide (c.node < 6))))) ?_
       refine rvP C (.pv (.lit (.bool (decide (c.node < 6))))) ?_
       refine rvc_case 40 (decide (c.node < 6)) rfl (fun h36 => ?_) (fun h36 => ?_)
       ·
        replace hR := of_true h36 hR
        refine rvO C (.ptr 1 2) ?_
        refine rvO C (.pv (.lit (.int .i64 c.site))) ?_
        refine rvO C (.pv (.lit (.bool (c.site == 0)))) ?_
        refine rvP C (.pv (.lit (.bool (c.site == 0)))) ?_
        refine rvP C (.pv (.lit (.bool (c.site == 0)))) ?_
        refine rvc_nil ?_
        refine Awp.seq ?_
        refine Awp.consP C ?_
        refine rvP C (.pv (.lit (.bool (c.site == 0)))) ?_
        refine rvP C (.pv (.lit (.bool (!(c.site == 0))))) ?_
        refine rvc_nil ?_
        refine Awp.cond (b := (!(c.site == 0))) rfl (fun h37 => ?_) (fun h37 => ?_)
        ·
         replace hR := of_true h37 hR
         refine Awp.consP C ?_
         refine rvP C (.pv (.lit (.int .i64 120))) ?_
         refine rvc_nil ?_
         refine Awp.ret ?_
         subst hR
         exact ⟨.inl rfl, rfl⟩
        ·
         replace hR := of_false h37 hR
         refine Awp.skip ?_
         refine Awp.consP C ?_
         refine rvP C (.pv (.lit (.int .i64 0))) ?_
         refine rvc_nil ?_
         refine Awp.ret ?_
         subst hR
         exact ⟨.inl rfl, rfl⟩
       ·
        replace hR := of_false h36 hR
        refine rvS ?_
        refine rvS ?_
        refine rvS ?_
        refine rvP C (.pv (.lit (.bool false))) ?_
        refine rvP C (.pv (.lit (.bool false))) ?_
        refine rvc_nil ?_
        refine Awp.seq ?_
        refine Awp.consP C ?_
        refine rvP C (.pv (.lit (.bool false))) ?_
        refine rvP C (.pv (.lit (.bool true))) ?_
        refine rvc_nil ?_
        refine Awp.condT (b := true) rfl rfl ?_
        refine Awp.consP C ?_
        refine rvP C (.pv (.lit (.int .i64 120))) ?_
        refine rvc_nil ?_
        refine Awp.ret ?_
        subst hR
        exact ⟨.inl rfl, rfl⟩
      ·
       replace hR := of_false h35 hR
       refine rvS ?_
       refine rvP C (.pv (.lit (.bool false))) ?_
       refine rvP C (.pv (.lit (.bool false))) ?_
       refine rvS ?_
       refine rvS ?_
       refine rvS ?_
       refine rvP C (.pv (.lit (.bool false))) ?_
       refine rvP C (.pv (.lit (.bool false))) ?_
       refine rvc_nil ?_
       refine Awp.seq ?_
       refine Awp.consP C ?_
       refine rvP C (.pv (.lit (.bool false))) ?_
       refine rvP C (.pv (.lit (.bool true))) ?_
       refine rvc_nil ?_
       refine Awp.condT (b := true) rfl rfl ?_
       refine Awp.consP C ?_
       refine rvP C (.pv (.lit (.int .i64 120))) ?_
       refine rvc_nil ?_
       refine Awp.ret ?_
       subst hR
       exact ⟨.inl rfl, rfl⟩
     ·
      replace hR := of_false h34 hR
      refine Awp.regionP C ?_
      refine rvP C (.pv (.lit (.bool (c.kind == 4)))) ?_
      refine rvP C (.pv (.lit (.bool (c.kind == 4)))) ?_
      refine rvc_nil ?_
      refine Awp.cond (b := (c.kind == 4)) rfl (fun h38 => ?_) (fun h38 => ?_)
      ·
       replace hR := of_true h38 hR
       refine Awp.regionP C ?_
       refine rvP C (.pv (.lit (.bool (decide (c.epoch ≤ 1099511627776))))) ?_
       refine rvP C (.pv (.lit (.bool (decide (c.epoch ≤ 1099511627776))))) ?_
       refine rvc_case 37 (decide (c.epoch ≤ 1099511627776)) rfl (fun h39 => ?_) (fun h39 => ?_)
       ·
        replace hR := of_true h39 hR
        refine rvO C (.pv (.lit (.bool (decide (c.node < 6))))) ?_
        refine rvP C (.pv (.lit (.bool (decide (c.node < 6))))) ?_
        refine rvP C (.pv (.lit (.bool (decide (c.node < 6))))) ?_
        refine rvc_case 40 (decide (c.node < 6)) rfl (fun h40 => ?_) (fun h40 => ?_)
        ·
         replace hR := of_true h40 hR
         refine rvO C (.ptr 1 2) ?_
         refine rvO C (.pv (.lit (.int .i64 c.site))) ?_
         refine rvO C (.pv (.lit (.bool (c.site == 0)))) ?_
         refine rvP C (.pv (.lit (.bool (c.site == 0)))) ?_
         refine rvP C (.pv (.lit (.bool (c.site == 0)))) ?_
         refine rvc_nil ?_
         refine Awp.seq ?_
         refine Awp.consP C ?_
         refine rvP C (.pv (.lit (.bool (c.site == 0)))) ?_
         refine rvP C (.pv (.lit (.bool (!(c.site == 0))))) ?_
         refine rvc_nil ?_
         refine Awp.cond (b := (!(c.site == 0))) rfl (fun h41 => ?_) (fun h41 => ?_)
         ·
          replace hR := of_true h41 hR
          refine Awp.consP C ?_
          refine rvP C (.pv (.lit (.int .i64 120))) ?_
          refine rvc_nil ?_
          refine Awp.ret ?_
          subst hR
          exact ⟨.inl rfl, rfl⟩
         ·
          replace hR := of_false h41 hR
          refine Awp.skip ?_
          refine Awp.consP C ?_
          refine rvP C (.pv (.lit (.int .i64 0))) ?_
          refine rvc_nil ?_
          refine Awp.ret ?_
          subst hR
          exact ⟨.inl rfl, rfl⟩
        ·
         replace hR := of_false h40 hR
         refine rvS ?_
         refine rvS ?_
         refine rvS ?_
         refine rvP C (.pv (.lit (.bool false))) ?_
         refine rvP C (.pv (.lit (.bool false))) ?_
         refine rvc_nil ?_
         refine Awp.seq ?_
         refine Awp.consP C ?_
         refine rvP C (.pv (.lit (.bool false))) ?_
         refine rvP C (.pv (.lit (.bool true))) ?_
         refine rvc_nil ?_
         refine Awp.condT (b := true) rfl rfl ?_
         refine Awp.consP C ?_
         refine rvP C (.pv (.lit (.int .i64 120))) ?_
         refine rvc_nil ?_
         refine Awp.ret ?_
         subst hR
         exact ⟨.inl rfl, rfl⟩
       ·
        replace hR := of_false h39 hR
        refine rvS ?_
        refine rvP C (.pv (.lit (.bool false))) ?_
        refine rvP C (.pv (.lit (.bool false))) ?_
        refine rvS ?_
        refine rvS ?_
        refine rvS ?_
        refine rvP C (.pv (.lit (.bool false))) ?_
        refine rvP C (.pv (.lit (.bool false))) ?_
        refine rvc_nil ?_
        refine Awp.seq ?_
        refine Awp.consP C ?_
        refine rvP C (.pv (.lit (.bool false))) ?_
        refine rvP C (.pv (.lit (.bool true))) ?_
        refine rvc_nil ?_
        refine Awp.condT (b := true) rfl rfl ?_
        refine Awp.consP C ?_
        refine rvP C (.pv (.lit (.int .i64 120))) ?_
        refine rvc_nil ?_
        refine Awp.ret ?_
        subst hR
        exact ⟨.inl rfl, rfl⟩
      ·
       replace hR := of_false h38 hR
       refine Awp.consP C ?_
       refine rvP C (.pv (.lit (.bool (c.kind == 2)))) ?_
       refine rvP C (.pv (.lit (.bool (c.kind == 2)))) ?_
       refine rvc_nil ?_
       refine Awp.cond (b := (c.kind == 2)) rfl (fun h42 => ?_) (fun h42 => ?_)
       ·
        replace hR := of_true h42 hR
        refine Awp.regionP C ?_
        refine rvP C (.pv (.lit (.bool (decide (c.epoch ≤ 1099511627776))))) ?_
        refine rvP C (.pv (.lit (.bool (decide (c.epoch ≤ 1099511627776))))) ?_
        refine rvc_case 48 (decide (c.epoch ≤ 1099511627776)) rfl (fun h43 => ?_) (fun h43 => ?_)
        ·
         replace hR := of_true h43 hR
         refine rvO C (.pv (.lit (.bool (decide (c.node < 6))))) ?_
         refine rvP C (.pv (.lit (.bool (decide (c.node < 6))))) ?_
         refine rvP C (.pv (.lit (.bool (decide (c.node < 6))))) ?_
         refine rvc_case 51 (decide (c.node < 6)) rfl (fun h44 => ?_) (fun h44 => ?_)
         ·
          replace hR := of_true h44 hR
          refine rvO C (.pv (.lit (.bool false))) ?_
          refine rvP C (.pv (.lit (.bool false))) ?_
          refine rvP C (.pv (.lit (.bool false))) ?_
          refine rvc_nil ?_
          refine Awp.seq ?_
          refine Awp.consP C ?_
          refine rvP C (.pv (.lit (.bool false))) ?_
          refine rvP C (.pv (.lit (.bool true))) ?_
          refine rvc_nil ?_
          refine Awp.condT (b := true) rfl rfl ?_
          refine Awp.consP C ?_
          refine rvP C (.pv (.lit (.int .i64 120))) ?_
          refine rvc_nil ?_
          refine Awp.ret ?_
          subst hR
          exact ⟨.inl rfl, rfl⟩
         ·
          replace hR := of_false h44 hR
          refine rvS ?_
          refine rvP C (.pv (.lit (.bool false))) ?_
          refine rvP C (.pv (.lit (.bool false))) ?_
          refine rvc_nil ?_
          refine Awp.seq ?_
          refine Awp.consP C ?_
          refine rvP C (.pv (.lit (.bool false))) ?_
          refine rvP C (.pv (.lit (.bool true))) ?_
          refine rvc_nil ?_
          refine Awp.condT (b := true) rfl rfl ?_
          refine Awp.consP C ?_
          refine rvP C (.pv (.lit (.int .i64 120))) ?_
          refine rvc_nil ?_
          refine Awp.ret ?_
          subst hR
          exact ⟨.inl rfl, rfl⟩
        ·
         replace hR := of_false h43 hR
         refine rvS ?_
         refine rvP C (.pv (.lit (.bool false))) ?_
         refine rvP C (.pv (.lit (.bool false))) ?_
         refine rvS ?_
         refine rvP C (.pv (.lit (.bool false))) ?_
         refine rvP C (.pv (.lit (.bool false))) ?_
         refine rvc_nil ?_
         refine Awp.seq ?_
         refine Awp.consP C ?_
         refine rvP C (.pv (.lit (.bool false))) ?_
         refine rvP C (.pv (.lit (.bool true))) ?_
         refine rvc_nil ?_
         refine Awp.condT (b := true) rfl rfl ?_
         refine Awp.consP C ?_
         refine rvP C (.pv (.lit (.int .i64 120))) ?_
         refine rvc_nil ?_
         refine Awp.ret ?_
         subst hR
         exact ⟨.inl rfl, rfl⟩
       ·
        replace hR := of_false h42 hR
        refine Awp.consP C ?_
        refine rvP C (.pv (.lit (.bool (c.kind == 5)))) ?_
        refine rvP C (.pv (.lit (.bool (c.kind == 5)))) ?_
        refine rvc_nil ?_
        refine Awp.cond (b := (c.kind == 5)) rfl (fun h45 => ?_) (fun h45 => ?_)
        ·
         replace hR := of_true h45 hR
         refine Awp.regionP C ?_
         refine rvP C (.pv (.lit (.bool (decide (c.epoch ≤ 1099511627776))))) ?_
         refine rvP C (.pv (.lit (.bool (decide (c.epoch ≤ 1099511627776))))) ?_
         refine rvc_case 57 (decide (c.epoch ≤ 1099511627776)) rfl (fun h46 => ?_) (fun h46 => ?_)
         ·
          replace hR := of_true h46 hR
          refine rvO C (.pv (.lit (.bool false))) ?_
          refine rvP C (.pv (.lit (.bool false))) ?_
          refine rvP C (.pv (.lit (.bool false))) ?_
          refine rvS ?_
          refine rvS ?_
          refine rvS ?_
          refine rvP C (.pv (.lit (.bool false))) ?_
          refine rvP C (.pv (.lit (.bool false))) ?_
          refine rvc_nil ?_
          refine Awp.seq ?_
          refine Awp.consP C ?_
          refine rvP C (.pv (.lit (.bool false))) ?_
          refine rvP C (.pv (.lit (.bool true))) ?_
          refine rvc_nil ?_
          refine Awp.condT (b := true) rfl rfl ?_
          refine Awp.consP C ?_
          refine rvP C (.pv (.lit (.int .i64 120))) ?_
          refine rvc_nil ?_
          refine Awp.ret ?_
          subst hR
          exact ⟨.inl rfl, rfl⟩
         ·
          replace hR := of_false h46 hR
          refine rvS ?_
          refine rvP C (.pv (.lit (.bool false))) ?_
          refine rvP C (.pv (.lit (.bool false))) ?_
          refine rvS ?_
          refine rvS ?_
          refine rvS ?_
          refine rvP C (.pv (.lit (.bool false))) ?_
          refine rvP C (.pv (.lit (.bool false))) ?_
          refine rvc_nil ?_
          refine Awp.seq ?_
          refine Awp.consP C ?_
          refine rvP C (.pv (.lit (.bool false))) ?_
          refine rvP C (.pv (.lit (.bool true))) ?_
          refine rvc_nil ?_
          refine Awp.condT (b := true) rfl rfl ?_
          refine Awp.consP C ?_
          refine rvP C (.pv (.lit (.int .i64 120))) ?_
          refine rvc_nil ?_
          refine Awp.ret ?_
          subst hR
          exact ⟨.inl rfl, rfl⟩
        ·
         replace hR := of_false h45 hR
         refine Awp.regionP C ?_
         refine rvP C (.pv (.lit (.bool false))) ?_
         refine rvc_nil ?_
         refine Awp.seq ?_
         refine Awp.consP C ?_
         refine rvP C (.pv (.lit (.bool false))) ?_
         refine rvP C (.pv (.lit (.bool true))) ?_
         refine rvc_nil ?_
         refine Awp.condT (b := true) rfl rfl ?_
         refine Awp.consP C ?_
         refine rvP C (.pv (.lit (.int .i64 120))) ?_
         refine rvc_nil ?_
         refine Awp.ret ?_
         subst hR
         exact ⟨.inl rfl, rfl⟩
   ·
    replace hR := of_false h29 hR
    refine rvS ?_
    refine rvS ?_
    refine rvS ?_
    refine rvP C (.pv (.lit (.bool false))) ?_
    refine rvP C (.pv (.lit (.bool false))) ?_
    refine rvc_nil ?_
    refine Awp.seq ?_
    refine Awp.consP C ?_
    refine rvP C (.ptr 1 0) ?_
    refine rvP C (.pv (.lit (.int .i64 c.kind))) ?_
    refine rvc_nil ?_
    refine Awp.block ?_
    refine Awp.seq ?_
    refine Awp.consP C ?_
    refine rvP C (.pv (.lit (.bool (c.kind == 1)))) ?_
    refine rvP C (.pv (.lit (.bool (c.kind == 1)))) ?_
    refine rvc_nil ?_
    refine Awp.cond (b := (c.kind == 1)) rfl (fun h47 => ?_) (fun h47 => ?_)
    ·
     replace hR := of_true h47 hR
     refine Awp.skip ?_
     refine Awp.condT (b := (c.kind == 1)) rfl h47 ?_
     refine Awp.regionP C ?_
     refine rvP C (.pv (.lit (.bool false))) ?_
     refine rvP C (.pv (.lit (.bool false))) ?_
     refine rvS ?_
     refine rvP C (.pv (.lit (.bool false))) ?_
     refine rvP C (.pv (.lit (.bool false))) ?_
     refine rvS ?_
     refine rvS ?_
     refine rvS ?_
     refine rvP C (.pv (.lit (.bool false))) ?_
     refine rvP C (.pv (.lit (.bool false))) ?_
     refine rvc_nil ?_
     refine Awp.seq ?_
     refine Awp.consP C ?_
     refine rvP C (.pv (.lit (.bool false))) ?_
     refine rvP C (.pv (.lit (.bool true))) ?_
     refine rvc_nil ?_
     refine Awp.condT (b := true) rfl rfl ?_
     refine Awp.consP C ?_
     refine rvP C (.pv (.lit (.int .i64 120))) ?_
     refine rvc_nil ?_
     refine Awp.ret ?_
     subst hR
     exact ⟨.inl rfl, rfl⟩
    ·
     replace hR := of_false h47 hR
     refine Awp.consP C ?_
     refine rvP C (.pv (.lit (.bool (c.kind == 3)))) ?_
     refine rvP C (.pv (.lit (.bool (c.kind == 3)))) ?_
     refine rvc_nil ?_
     refine Awp.cond (b := (c.kind == 3)) rfl (fun h48 => ?_) (fun h48 => ?_)
     ·
      replace hR := of_true h48 hR
      refine Awp.skip ?_
      refine Awp.condT (b := (c.kind == 3)) rfl h48 ?_
      refine Awp.regionP C ?_
      refine rvP C (.pv (.lit (.bool false))) ?_
      refine rvP C (.pv (.lit (.bool false))) ?_
      refine rvS ?_
      refine rvP C (.pv (.lit (.bool false))) ?_
      refine rvP C (.pv (.lit (.bool false))) ?_
      refine rvS ?_
      refine rvS ?_
      refine rvS ?_
      refine rvP C (.pv (.lit (.bool false))) ?_
      refine rvP C (.pv (.lit (.bool false))) ?_
      refine rvc_nil ?_
      refine Awp.seq ?_
      refine Awp.consP C ?_
      refine rvP C (.pv (.lit (.bool false))) ?_
      refine rvP C (.pv (.lit (.bool true))) ?_
      refine rvc_nil ?_
      refine Awp.condT (b := true) rfl rfl ?_
      refine Awp.consP C ?_
      refine rvP C (.pv (.lit (.int .i64 120))) ?_
      refine rvc_nil ?_
      refine Awp.ret ?_
      subst hR
      exact ⟨.inl rfl, rfl⟩
     ·
      replace hR := of_false h48 hR
      refine Awp.regionP C ?_
      refine rvP C (.pv (.lit (.bool (c.kind == 4)))) ?_
      refine rvP C (.pv (.lit (.bool (c.kind == 4)))) ?_
      refine rvc_nil ?_
      refine Awp.cond (b := (c.kind == 4)) rfl (fun h49 => ?_) (fun h49 => ?_)
      ·
       replace hR := of_true h49 hR
       refine Awp.regionP C ?_
       refine rvP C (.pv (.lit (.bool false))) ?_
       refine rvP C (.pv (.lit (.bool false))) ?_
       refine rvS ?_
       refine rvP C (.pv (.lit (.bool false))) ?_
       refine rvP C (.pv (.lit (.bool false))) ?_
       refine rvS ?_
       refine rvS ?_
       refine rvS ?_
       refine rvP C (.pv (.lit (.bool false))) ?_
       refine rvP C (.pv (.lit (.bool false))) ?_
       refine rvc_nil ?_
       refine Awp.seq ?_
       refine Awp.consP C ?_
       refine rvP C (.pv (.lit (.bool false))) ?_
       refine rvP C (.pv (.lit (.bool true))) ?_
       refine rvc_nil ?_
       refine Awp.condT (b := true) rfl rfl ?_
       refine Awp.consP C ?_
       refine rvP C (.pv (.lit (.int .i64 120))) ?_
       refine rvc_nil ?_
       refine Awp.ret ?_
       subst hR
       exact ⟨.inl rfl, rfl⟩
      ·
       replace hR := of_false h49 hR
       refine Awp.consP C ?_
       refine rvP C (.pv (.lit (.bool (c.kind == 2)))) ?_
       refine rvP C (.pv (.lit (.bool (c.kind == 2)))) ?_
       refine rvc_nil ?_
       refine Awp.cond (b := (c.kind == 2)) rfl (fun h50 => ?_) (fun h50 => ?_)
       ·
        replace hR := of_true h50 hR
        refine Awp.regionP C ?_
        refine rvP C (.pv (.lit (.bool false))) ?_
        refine rvP C (.pv (.lit (.bool false))) ?_
        refine rvS ?_
        refine rvP C (.pv (.lit (.bool false))) ?_
        refine rvP C (.pv (.lit (.bool false))) ?_
        refine rvS ?_
        refine rvP C (.pv (.lit (.bool false))) ?_
        refine rvP C (.pv (.lit (.bool false))) ?_
        refine rvc_nil ?_
        refine Awp.seq ?_
        refine Awp.consP C ?_
        refine rvP C (.pv (.lit (.bool false))) ?_
        refine rvP C (.pv (.lit (.bool true))) ?_
        refine rvc_nil ?_
        refine Awp.condT (b := true) rfl rfl ?_
        refine Awp.consP C ?_
        refine rvP C (.pv (.lit (.int .i64 120))) ?_
        refine rvc_nil ?_
        refine Awp.ret ?_
        subst hR
        exact ⟨.inl rfl, rfl⟩
       ·
        replace hR := of_false h50 hR
        refine Awp.consP C ?_
        refine rvP C (.pv (.lit (.bool (c.kind == 5)))) ?_
        refine rvP C (.pv (.lit (.bool (c.kind == 5)))) ?_
        refine rvc_nil ?_
        refine Awp.cond (b := (c.kind == 5)) rfl (fun h51 => ?_) (fun h51 => ?_)
        ·
         replace hR := of_true h51 hR
         refine Awp.regionP C ?_
         refine rvP C (.pv (.lit (.bool false))) ?_
         refine rvP C (.pv (.lit (.bool false))) ?_
         refine rvS ?_
         refine rvP C (.pv (.lit (.bool false))) ?_
         refine rvP C (.pv (.lit (.bool false))) ?_
         refine rvS ?_
         refine rvS ?_
         refine rvS ?_
         refine rvP C (.pv (.lit (.bool false))) ?_
         refine rvP C (.pv (.lit (.bool false))) ?_
         refine rvc_nil ?_
         refine Awp.seq ?_
         refine Awp.consP C ?_
         refine rvP C (.pv (.lit (.bool false))) ?_
         refine rvP C (.pv (.lit (.bool true))) ?_
         refine rvc_nil ?_
         refine Awp.condT (b := true) rfl rfl ?_
         refine Awp.consP C ?_
         refine rvP C (.pv (.lit (.int .i64 120))) ?_
         refine rvc_nil ?_
         refine Awp.ret ?_
         subst hR
         exact ⟨.inl rfl, rfl⟩
        ·
         replace hR := of_false h51 hR
         refine Awp.regionP C ?_
         refine rvP C (.pv (.lit (.bool false))) ?_
         refine rvc_nil ?_
         refine Awp.seq ?_
         refine Awp.consP C ?_
         refine rvP C (.pv (.lit (.bool false))) ?_
         refine rvP C (.pv (.lit (.bool true))) ?_
         refine rvc_nil ?_
         refine Awp.condT (b := true) rfl rfl ?_
         refine Awp.consP C ?_
         refine rvP C (.pv (.lit (.int .i64 120))) ?_
         refine rvc_nil ?_
         refine Awp.ret ?_
         subst hR
         exact ⟨.inl rfl, rfl⟩
 ·
  replace hR := of_false h1 hR
  refine rvS ?_
  refine rvS ?_
  refine rvS ?_
  refine rvP C (.pv (.lit (.bool false))) ?_
  refine rvP C (.pv (.lit (.bool false))) ?_
  refine rvc_nil ?_
  refine Awp.consP C ?_
  refine rvP C (.ptr 1 2) ?_
  refine rvP C (.pv (.lit (.int .i64 c.site))) ?_
  refine rvP C (.pv (.lit (.bool (decide (c.site ≥ 0))))) ?_
  refine rvP C (.pv (.lit (.bool (decide (c.site ≥ 0))))) ?_
  refine rvc_case 17 (decide (c.site ≥ 0)) rfl (fun h52 => ?_) (fun h52 => ?_)
  ·
   replace hR := of_true h52 hR
   refine rvO C (.ptr 1 2) ?_
   refine rvO C (.pv (.lit (.int .i64 c.site))) ?_
   refine rvO C (.pv (.lit (.bool (decide (c.site < 3))))) ?_
   refine rvP C (.pv (.lit (.bool (decide (c.site < 3))))) ?_
   refine rvP C (.pv (.lit (.bool (decide (c.site < 3))))) ?_
   refine rvc_nil ?_
   refine Awp.consP C ?_
   refine rvP C (.ptr 1 3) ?_
   refine rvP C (.pv (.lit (.int .i64 c.epoch))) ?_
   refine rvP C (.pv (.lit (.bool (decide (c.epoch ≥ 1))))) ?_
   refine rvP C (.pv (.lit (.bool (decide (c.epoch ≥ 1))))) ?_
   refine rvc_case 25 (decide (c.epoch ≥ 1)) rfl (fun h53 => ?_) (fun h53 => ?_)
   ·
    replace hR := of_true h53 hR
    refine rvO C (.ptr 1 3) ?_
    refine rvO C (.pv (.lit (.int .i64 c.epoch))) ?_
    refine rvO C (.pv (.lit (.bool (decide (c.epoch ≤ 1099511627776))))) ?_
    refine rvP C (.pv (.lit (.bool (decide (c.epoch ≤ 1099511627776))))) ?_
    refine rvP C (.pv (.lit (.bool (decide (c.epoch ≤ 1099511627776))))) ?_
    refine rvc_nil ?_
    refine Awp.seq ?_
    refine Awp.consP C ?_
    refine rvP C (.ptr 1 0) ?_
    refine rvP C (.pv (.lit (.int .i64 c.kind))) ?_
    refine rvc_nil ?_
    refine Awp.block ?_
    refine Awp.seq ?_
    refine Awp.consP C ?_
    refine rvP C (.pv (.lit (.bool (c.kind == 1)))) ?_
    refine rvP C (.pv (.lit (.bool (c.kind == 1)))) ?_
    refine rvc_nil ?_
    refine Awp.cond (b := (c.kind == 1)) rfl (fun h54 => ?_) (fun h54 => ?_)
    ·
     replace hR := of_true h54 hR
     refine Awp.skip ?_
     refine Awp.condT (b := (c.kind == 1)) rfl h54 ?_
     refine Awp.regionP C ?_
     refine rvP C (.pv (.lit (.bool (decide (c.epoch ≤ 1099511627776))))) ?_
     refine rvP C (.pv (.lit (.bool (decide (c.epoch ≤ 1099511627776))))) ?_
     refine rvc_case 37 (decide (c.epoch ≤ 1099511627776)) rfl (fun h55 => ?_) (fun h55 => ?_)
     ·
      replace hR := of_true h55 hR
      refine rvO C (.pv (.lit (.bool false))) ?_
      refine rvP C (.pv (.lit (.bool false))) ?_
      refine rvP C (.pv (.lit (.bool false))) ?_
      refine rvS ?_
      refine rvS ?_
      refine rvS ?_
      refine rvP C (.pv (.lit (.bool false))) ?_
      refine rvP C (.pv (.lit (.bool false))) ?_
      refine rvc_nil ?_
      refine Awp.seq ?_
      refine Awp.consP C ?_
      refine rvP C (.pv (.lit (.bool false))) ?_
      refine rvP C (.pv (.lit (.bool true))) ?_
      refine rvc_nil ?_
      refine Awp.condT (b := true) rfl rfl ?_
      refine Awp.consP C ?_
      refine rvP C (.pv (.lit (.int .i64 120))) ?_
      refine rvc_nil ?_
      refine Awp.ret ?_
      subst hR
      exact ⟨.inl rfl, rfl⟩
     ·
      replace hR := of_false h55 hR
      refine rvS ?_
      refine rvP C (.pv (.lit (.bool false))) ?_
      refine rvP C (.pv (.lit (.bool false))) ?_
      refine rvS ?_
      refine rvS ?_
      refine rvS ?_
      refine rvP C (.pv (.lit (.bool false))) ?_
      refine rvP C (.pv (.lit (.bool false))) ?_
      refine rvc_nil ?_
      refine Awp.seq ?_
      refine Awp.consP C ?_
      refine rvP C (.pv (.lit (.bool false))) ?_
      refine rvP C (.pv (.lit (.bool true))) ?_
      refine rvc_nil ?_
      refine Awp.condT (b := true) rfl rfl ?_
      refine Awp.consP C ?_
      refine rvP C (.pv (.lit (.int .i64 120))) ?_
      refine rvc_nil ?_
      refine Awp.ret ?_
      subst hR
      exact ⟨.inl rfl, rfl⟩
    ·
     replace hR := of_false h54 hR
     refine Awp.consP C ?_
     refine rvP C (.pv (.lit (.bool (c.kind == 3)))) ?_
     refine rvP C (.pv (.lit (.bool (c.kind == 3)))) ?_
     refine rvc_nil ?_
     refine Awp.cond (b := (c.kind == 3)) rfl (fun h56 => ?_) (fun h56 => ?_)
     ·
      replace hR := of_true h56 hR
      refine Awp.skip ?_
      refine Awp.condT (b := (c.kind == 3)) rfl h56 ?_
      refine Awp.regionP C ?_
      refine rvP C (.pv (.lit (.bool (decide (c.epoch ≤ 1099511627776))))) ?_
      refine rvP C (.pv (.lit (.bool (decide (c.epoch ≤ 1099511627776))))) ?_
      refine rvc_case 37 (decide (c.epoch ≤ 1099511627776)) rfl (fun h57 => ?_) (fun h57 => ?_)
      ·
       replace hR := of_true h57 hR
       refine rvO C (.pv (.lit (.bool false))) ?_
       refine rvP C (.pv (.lit (.bool false))) ?_
       refine rvP C (.pv (.lit (.bool false))) ?_
       refine rvS ?_
       refine rvS ?_
       refine rvS ?_
       refine rvP C (.pv (.lit (.bool false))) ?_
       refine rvP C (.pv (.lit (.bool false))) ?_
       refine rvc_nil ?_
       refine Awp.seq ?_
       refine Awp.consP C ?_
       refine rvP C (.pv (.lit (.bool false))) ?_
       refine rvP C (.pv (.lit (.bool true))) ?_
       refine rvc_nil ?_
       refine Awp.condT (b := true) rfl rfl ?_
       refine Awp.consP C ?_
       refine rvP C (.pv (.lit (.int .i64 120))) ?_
       refine rvc_nil ?_
       refine Awp.ret ?_
       subst hR
       exact ⟨.inl rfl, rfl⟩
      ·
       replace hR := of_false h57 hR
       refine rvS ?_
       refine rvP C (.pv (.lit (.bool false))) ?_
       refine rvP C (.pv (.lit (.bool false))) ?_
       refine rvS ?_
       refine rvS ?_
       refine rvS ?_
       refine rvP C (.pv (.lit (.bool false))) ?_
       refine rvP C (.pv (.lit (.bool false))) ?_
       refine rvc_nil ?_
       refine Awp.seq ?_
       refine Awp.consP C ?_
       refine rvP C (.pv (.lit (.bool false))) ?_
       refine rvP C (.pv (.lit (.bool true))) ?_
       refine rvc_nil ?_
       refine Awp.condT (b := true) rfl rfl ?_
       refine Awp.consP C ?_
       refine rvP C (.pv (.lit (.int .i64 120))) ?_
       refine rvc_nil ?_
       refine Awp.ret ?_
       subst hR
       exact ⟨.inl rfl, rfl⟩
     ·
      replace hR := of_false h56 hR
      refine Awp.regionP C ?_
      refine rvP C (.pv (.lit (.bool (c.kind == 4)))) ?_
      refine rvP C (.pv (.lit (.bool (c.kind == 4)))) ?_
      refine rvc_nil ?_
      refine Awp.cond (b := (c.kind == 4)) rfl (fun h58 => ?_) (fun h58 => ?_)
      ·
       replace hR := of_true h58 hR
       refine Awp.regionP C ?_
       refine rvP C (.pv (.lit (.bool (decide (c.epoch ≤ 1099511627776))))) ?_
       refine rvP C (.pv (.lit (.bool (decide (c.epoch ≤ 1099511627776))))) ?_
       refine rvc_case 37 (decide (c.epoch ≤ 1099511627776)) rfl (fun h59 => ?_) (fun h59 => ?_)
       ·
        replace hR := of_true h59 hR
        refine rvO C (.pv (.lit (.bool false))) ?_
        refine rvP C (.pv (.lit (.bool false))) ?_
        refine rvP C (.pv (.lit (.bool false))) ?_
        refine rvS ?_
        refine rvS ?_
        refine rvS ?_
        refine rvP C (.pv (.lit (.bool false))) ?_
        refine rvP C (.pv (.lit (.bool false))) ?_
        refine rvc_nil ?_
        refine Awp.seq ?_
        refine Awp.consP C ?_
        refine rvP C (.pv (.lit (.bool false))) ?_
        refine rvP C (.pv (.lit (.bool true))) ?_
        refine rvc_nil ?_
        refine Awp.condT (b := true) rfl rfl ?_
        refine Awp.consP C ?_
        refine rvP C (.pv (.lit (.int .i64 120))) ?_
        refine rvc_nil ?_
        refine Awp.ret ?_
        subst hR
        exact ⟨.inl rfl, rfl⟩
       ·
        replace hR := of_false h59 hR
        refine rvS ?_
        refine rvP C (.pv (.lit (.bool false))) ?_
        refine rvP C (.pv (.lit (.bool false))) ?_
        refine rvS ?_
        refine rvS ?_
        refine rvS ?_
        refine rvP C (.pv (.lit (.bool false))) ?_
        refine rvP C (.pv (.lit (.bool false))) ?_
        refine rvc_nil ?_
        refine Awp.seq ?_
        refine Awp.consP C ?_
        refine rvP C (.pv (.lit (.bool false))) ?_
        refine rvP C (.pv (.lit (.bool true))) ?_
        refine rvc_nil ?_
        refine Awp.condT (b := true) rfl rfl ?_
        refine Awp.consP C ?_
        refine rvP C (.pv (.lit (.int .i64 120))) ?_
        refine rvc_nil ?_
        refine Awp.ret ?_
        subst hR
        exact ⟨.inl rfl, rfl⟩
      ·
       replace hR := of_false h58 hR
       refine Awp.consP C ?_
       refine rvP C (.pv (.lit (.bool (c.kind == 2)))) ?_
       refine rvP C (.pv (.lit (.bool (c.kind == 2)))) ?_
       refine rvc_nil ?_
       refine Awp.cond (b := (c.kind == 2)) rfl (fun h60 => ?_) (fun h60 => ?_)
       ·
        replace hR := of_true h60 hR
        refine Awp.regionP C ?_
        refine rvP C (.pv (.lit (.bool (decide (c.epoch ≤ 1099511627776))))) ?_
        refine rvP C (.pv (.lit (.bool (decide (c.epoch ≤ 1099511627776))))) ?_
        refine rvc_case 48 (decide (c.epoch ≤ 1099511627776)) rfl (fun h61 => ?_) (fun h61 => ?_)
        ·
         replace hR := of_true h61 hR
         refine rvO C (.pv (.lit (.bool false))) ?_
         refine rvP C (.pv (.lit (.bool false))) ?_
         refine rvP C (.pv (.lit (.bool false))) ?_
         refine rvS ?_
         refine rvP C (.pv (.lit (.bool false))) ?_
         refine rvP C (.pv (.lit (.bool false))) ?_
         refine rvc_nil ?_
         refine Awp.seq ?_
         refine Awp.consP C ?_
         refine rvP C (.pv (.lit (.bool false))) ?_
         refine rvP C (.pv (.lit (.bool true))) ?_
         refine rvc_nil ?_
         refine Awp.condT (b := true) rfl rfl ?_
         refine Awp.consP C ?_
         refine rvP C (.pv (.lit (.int .i64 120))) ?_
         refine rvc_nil ?_
         refine Awp.ret ?_
         subst hR
         exact ⟨.inl rfl, rfl⟩
        ·
         replace hR := of_false h61 hR
         refine rvS ?_
         refine rvP C (.pv (.lit (.bool false))) ?_
         refine rvP C (.pv (.lit (.bool false))) ?_
         refine rvS ?_
         refine rvP C (.pv (.lit (.bool false))) ?_
         refine rvP C (.pv (.lit (.bool false))) ?_
         refine rvc_nil ?_
         refine Awp.seq ?_
         refine Awp.consP C ?_
         refine rvP C (.pv (.lit (.bool false))) ?_
         refine rvP C (.pv (.lit (.bool true))) ?_
         refine rvc_nil ?_
         refine Awp.condT (b := true) rfl rfl ?_
         refine Awp.consP C ?_
         refine rvP C (.pv (.lit (.int .i64 120))) ?_
         refine rvc_nil ?_
         refine Awp.ret ?_
         subst hR
         exact ⟨.inl rfl, rfl⟩
       ·
        replace hR := of_false h60 hR
        refine Awp.consP C ?_
        refine rvP C (.pv (.lit (.bool (c.kind == 5)))) ?_
        refine rvP C (.pv (.lit (.bool (c.kind == 5)))) ?_
        refine rvc_nil ?_
        refine Awp.cond (b := (c.kind == 5)) rfl (fun h62 => ?_) (fun h62 => ?_)
        ·
         replace hR := of_true h62 hR
         refine Awp.regionP C ?_
         refine rvP C (.pv (.lit (.bool (decide (c.epoch ≤ 1099511627776))))) ?_
         refine rvP C (.pv (.lit (.bool (decide (c.epoch ≤ 1099511627776))))) ?_
         refine rvc_case 57 (decide (c.epoch ≤ 1099511627776)) rfl (fun h63 => ?_) (fun h63 => ?_)
         ·
          replace hR := of_true h63 hR
          refine rvO C (.pv (.lit (.bool (decide (c.site < 3))))) ?_
          refine rvP C (.pv (.lit (.bool (decide (c.site < 3))))) ?_
          refine rvP C (.pv (.lit (.bool (decide (c.site < 3))))) ?_
          refine rvc_case 60 (decide (c.site < 3)) rfl (fun h64 => ?_) (fun h64 => ?_)
          ·
           replace hR := of_true h64 hR
           refine rvO C (.ptr 1 1) ?_
           refine rvO C (.pv (.lit (.int .i64 c.node))) ?_
           refine rvO C (.pv (.lit (.bool (c.node == 0)))) ?_
           refine rvP C (.pv (.lit (.bool (c.node == 0)))) ?_
           refine rvP C (.pv (.lit (.bool (c.node == 0)))) ?_
           refine rvc_nil ?_
           refine Awp.seq ?_
           refine Awp.consP C ?_
           refine rvP C (.pv (.lit (.bool (c.node == 0)))) ?_
           refine rvP C (.pv (.lit (.bool (!(c.node == 0))))) ?_
           refine rvc_nil ?_
           refine Awp.cond (b := (!(c.node == 0))) rfl (fun h65 => ?_) (fun h65 => ?_)
           ·
            replace hR := of_true h65 hR
            refine Awp.consP C ?_
            refine rvP C (.pv (.lit (.int .i64 120))) ?_
            refine rvc_nil ?_
            refine Awp.ret ?_
            subst hR
            exact ⟨.inl rfl, rfl⟩
           ·
            replace hR := of_false h65 hR
            refine Awp.skip ?_
            refine Awp.consP C ?_
            refine rvP C (.pv (.lit (.int .i64 0))) ?_
            refine rvc_nil ?_
            refine Awp.ret ?_
            subst hR
            exact ⟨.inl rfl, rfl⟩
          ·
           replace hR := of_false h64 hR
           refine rvS ?_
           refine rvS ?_
           refine rvS ?_
           refine rvP C (.pv (.lit (.bool false))) ?_
           refine rvP C (.pv (.lit (.bool false))) ?_
           refine rvc_nil ?_
           refine Awp.seq ?_
           refine Awp.consP C ?_
           refine rvP C (.pv (.lit (.bool false))) ?_
           refine rvP C (.pv (.lit (.bool true))) ?_
           refine rvc_nil ?_
           refine Awp.condT (b := true) rfl rfl ?_
           refine Awp.consP C ?_
           refine rvP C (.pv (.lit (.int .i64 120))) ?_
           refine rvc_nil ?_
           refine Awp.ret ?_
           subst hR
           exact ⟨.inl rfl, rfl⟩
         ·
          replace hR := of_false h63 hR
          refine rvS ?_
          refine rvP C (.pv (.lit (.bool false))) ?_
          refine rvP C (.pv (.lit (.bool false))) ?_
          refine rvS ?_
          refine rvS ?_
          refine rvS ?_
          refine rvP C (.pv (.lit (.bool false))) ?_
          refine rvP C (.pv (.lit (.bool false))) ?_
          refine rvc_nil ?_
          refine Awp.seq ?_
          refine Awp.consP C ?_
          refine rvP C (.pv (.lit (.bool false))) ?_
          refine rvP C (.pv (.lit (.bool true))) ?_
          refine rvc_nil ?_
          refine Awp.condT (b := true) rfl rfl ?_
          refine Awp.consP C ?_
          refine rvP C (.pv (.lit (.int .i64 120))) ?_
          refine rvc_nil ?_
          refine Awp.ret ?_
          subst hR
          exact ⟨.inl rfl, rfl⟩
        ·
         replace hR := of_false h62 hR
         refine Awp.regionP C ?_
         refine rvP C (.pv (.lit (.bool false))) ?_
         refine rvc_nil ?_
         refine Awp.seq ?_
         refine Awp.consP C ?_
         refine rvP C (.pv (.lit (.bool false))) ?_
         refine rvP C (.pv (.lit (.bool true))) ?_
         refine rvc_nil ?_
         refine Awp.condT (b := true) rfl rfl ?_
         refine Awp.consP C ?_
         refine rvP C (.pv (.lit (.int .i64 120))) ?_
         refine rvc_nil ?_
         refine Awp.ret ?_
         subst hR
         exact ⟨.inl rfl, rfl⟩
   ·
    replace hR := of_false h53 hR
    refine rvS ?_
    refine rvS ?_
    refine rvS ?_
    refine rvP C (.pv (.lit (.bool false))) ?_
    refine rvP C (.pv (.lit (.bool false))) ?_
    refine rvc_nil ?_
    refine Awp.seq ?_
    refine Awp.consP C ?_
    refine rvP C (.ptr 1 0) ?_
    refine rvP C (.pv (.lit (.int .i64 c.kind))) ?_
    refine rvc_nil ?_
    refine Awp.block ?_
    refine Awp.seq ?_
    refine Awp.consP C ?_
    refine rvP C (.pv (.lit (.bool (c.kind == 1)))) ?_
    refine rvP C (.pv (.lit (.bool (c.kind == 1)))) ?_
    refine rvc_nil ?_
    refine Awp.cond (b := (c.kind == 1)) rfl (fun h66 => ?_) (fun h66 => ?_)
    ·
     replace hR := of_true h66 hR
     refine Awp.skip ?_
     refine Awp.condT (b := (c.kind == 1)) rfl h66 ?_
     refine Awp.regionP C ?_
     refine rvP C (.pv (.lit (.bool false))) ?_
     refine rvP C (.pv (.lit (.bool false))) ?_
     refine rvS ?_
     refine rvP C (.pv (.lit (.bool false))) ?_
     refine rvP C (.pv (.lit (.bool false))) ?_
     refine rvS ?_
     refine rvS ?_
     refine rvS ?_
     refine rvP C (.pv (.lit (.bool false))) ?_
     refine rvP C (.pv (.lit (.bool false))) ?_
     refine rvc_nil ?_
     refine Awp.seq ?_
     refine Awp.consP C ?_
     refine rvP C (.pv (.lit (.bool false))) ?_
     refine rvP C (.pv (.lit (.bool true))) ?_
     refine rvc_nil ?_
     refine Awp.condT (b := true) rfl rfl ?_
     refine Awp.consP C ?_
     refine rvP C (.pv (.lit (.int .i64 120))) ?_
     refine rvc_nil ?_
     refine Awp.ret ?_
     subst hR
     exact ⟨.inl rfl, rfl⟩
    ·
     replace hR := of_false h66 hR
     refine Awp.consP C ?_
     refine rvP C (.pv (.lit (.bool (c.kind == 3)))) ?_
     refine rvP C (.pv (.lit (.bool (c.kind == 3)))) ?_
     refine rvc_nil ?_
     refine Awp.cond (b := (c.kind == 3)) rfl (fun h67 => ?_) (fun h67 => ?_)
     ·
      replace hR := of_true h67 hR
      refine Awp.skip ?_
      refine Awp.condT (b := (c.kind == 3)) rfl h67 ?_
      refine Awp.regionP C ?_
      refine rvP C (.pv (.lit (.bool false))) ?_
      refine rvP C (.pv (.lit (.bool false))) ?_
      refine rvS ?_
      refine rvP C (.pv (.lit (.bool false))) ?_
      refine rvP C (.pv (.lit (.bool false))) ?_
      refine rvS ?_
      refine rvS ?_
      refine rvS ?_
      refine rvP C (.pv (.lit (.bool false))) ?_
      refine rvP C (.pv (.lit (.bool false))) ?_
      refine rvc_nil ?_
      refine Awp.seq ?_
      refine Awp.consP C ?_
      refine rvP C (.pv (.lit (.bool false))) ?_
      refine rvP C (.pv (.lit (.bool true))) ?_
      refine rvc_nil ?_
      refine Awp.condT (b := true) rfl rfl ?_
      refine Awp.consP C ?_
      refine rvP C (.pv (.lit (.int .i64 120))) ?_
      refine rvc_nil ?_
      refine Awp.ret ?_
      subst hR
      exact ⟨.inl rfl, rfl⟩
     ·
      replace hR := of_false h67 hR
      refine Awp.regionP C ?_
      refine rvP C (.pv (.lit (.bool (c.kind == 4)))) ?_
      refine rvP C (.pv (.lit (.bool (c.kind == 4)))) ?_
      refine rvc_nil ?_
      refine Awp.cond (b := (c.kind == 4)) rfl (fun h68 => ?_) (fun h68 => ?_)
      ·
       replace hR := of_true h68 hR
       refine Awp.regionP C ?_
       refine rvP C (.pv (.lit (.bool false))) ?_
       refine rvP C (.pv (.lit (.bool false))) ?_
       refine rvS ?_
       refine rvP C (.pv (.lit (.bool false))) ?_
       refine rvP C (.pv (.lit (.bool false))) ?_
       refine rvS ?_
       refine rvS ?_
       refine rvS ?_
       refine rvP C (.pv (.lit (.bool false))) ?_
       refine rvP C (.pv (.lit (.bool false))) ?_
       refine rvc_nil ?_
       refine Awp.seq ?_
       refine Awp.consP C ?_
       refine rvP C (.pv (.lit (.bool false))) ?_
       refine rvP C (.pv (.lit (.bool true))) ?_
       refine rvc_nil ?_
       refine Awp.condT (b := true) rfl rfl ?_
       refine Awp.consP C ?_
       refine rvP C (.pv (.lit (.int .i64 120))) ?_
       refine rvc_nil ?_
       refine Awp.ret ?_
       subst hR
       exact ⟨.inl rfl, rfl⟩
      ·
       replace hR := of_false h68 hR
       refine Awp.consP C ?_
       refine rvP C (.pv (.lit (.bool (c.kind == 2)))) ?_
       refine rvP C (.pv (.lit (.bool (c.kind == 2)))) ?_
       refine rvc_nil ?_
       refine Awp.cond (b := (c.kind == 2)) rfl (fun h69 => ?_) (fun h69 => ?_)
       ·
        replace hR := of_true h69 hR
        refine Awp.regionP C ?_
        refine rvP C (.pv (.lit (.bool false))) ?_
        refine rvP C (.pv (.lit (.bool false))) ?_
        refine rvS ?_
        refine rvP C (.pv (.lit (.bool false))) ?_
        refine rvP C (.pv (.lit (.bool false))) ?_
        refine rvS ?_
        refine rvP C (.pv (.lit (.bool false))) ?_
        refine rvP C (.pv (.lit (.bool false))) ?_
        refine rvc_nil ?_
        refine Awp.seq ?_
        refine Awp.consP C ?_
        refine rvP C (.pv (.lit (.bool false))) ?_
        refine rvP C (.pv (.lit (.bool true))) ?_
        refine rvc_nil ?_
        refine Awp.condT (b := true) rfl rfl ?_
        refine Awp.consP C ?_
        refine rvP C (.pv (.lit (.int .i64 120))) ?_
        refine rvc_nil ?_
        refine Awp.ret ?_
        subst hR
        exact ⟨.inl rfl, rfl⟩
       ·
        replace hR := of_false h69 hR
        refine Awp.consP C ?_
        refine rvP C (.pv (.lit (.bool (c.kind == 5)))) ?_
        refine rvP C (.pv (.lit (.bool (c.kind == 5)))) ?_
        refine rvc_nil ?_
        refine Awp.cond (b := (c.kind == 5)) rfl (fun h70 => ?_) (fun h70 => ?_)
        ·
         replace hR := of_true h70 hR
         refine Awp.regionP C ?_
         refine rvP C (.pv (.lit (.bool false))) ?_
         refine rvP C (.pv (.lit (.bool false))) ?_
         refine rvS ?_
         refine rvP C (.pv (.lit (.bool false))) ?_
         refine rvP C (.pv (.lit (.bool false))) ?_
         refine rvS ?_
         refine rvS ?_
         refine rvS ?_
         refine rvP C (.pv (.lit (.bool false))) ?_
         refine rvP C (.pv (.lit (.bool false))) ?_
         refine rvc_nil ?_
         refine Awp.seq ?_
         refine Awp.consP C ?_
         refine rvP C (.pv (.lit (.bool false))) ?_
         refine rvP C (.pv (.lit (.bool true))) ?_
         refine rvc_nil ?_
         refine Awp.condT (b := true) rfl rfl ?_
         refine Awp.consP C ?_
         refine rvP C (.pv (.lit (.int .i64 120))) ?_
         refine rvc_nil ?_
         refine Awp.ret ?_
         subst hR
         exact ⟨.inl rfl, rfl⟩
        ·
         replace hR := of_false h70 hR
         refine Awp.regionP C ?_
         refine rvP C (.pv (.lit (.bool false))) ?_
         refine rvc_nil ?_
         refine Awp.seq ?_
         refine Awp.consP C ?_
         refine rvP C (.pv (.lit (.bool false))) ?_
         refine rvP C (.pv (.lit (.bool true))) ?_
         refine rvc_nil ?_
         refine Awp.condT (b := true) rfl rfl ?_
         refine Awp.consP C ?_
         refine rvP C (.pv (.lit (.int .i64 120))) ?_
         refine rvc_nil ?_
         refine Awp.ret ?_
         subst hR
         exact ⟨.inl rfl, rfl⟩
  ·
   replace hR := of_false h52 hR
   refine rvS ?_
   refine rvS ?_
   refine rvS ?_
   refine rvP C (.pv (.lit (.bool false))) ?_
   refine rvP C (.pv (.lit (.bool false))) ?_
   refine rvc_nil ?_
   refine Awp.consP C ?_
   refine rvP C (.ptr 1 3) ?_
   refine rvP C (.pv (.lit (.int .i64 c.epoch))) ?_
   refine rvP C (.pv (.lit (.bool (decide (c.epoch ≥ 1))))) ?_
   refine rvP C (.pv (.lit (.bool (decide (c.epoch ≥ 1))))) ?_
   refine rvc_case 25 (decide (c.epoch ≥ 1)) rfl (fun h71 => ?_) (fun h71 => ?_)
   ·
    replace hR := of_true h71 hR
    refine rvO C (.ptr 1 3) ?_
    refine rvO C (.pv (.lit (.int .i64 c.epoch))) ?_
    refine rvO C (.pv (.lit (.bool (decide (c.epoch ≤ 1099511627776))))) ?_
    refine rvP C (.pv (.lit (.bool (decide (c.epoch ≤ 1099511627776))))) ?_
    refine rvP C (.pv (.lit (.bool (decide (c.epoch ≤ 1099511627776))))) ?_
    refine rvc_nil ?_
    refine Awp.seq ?_
    refine Awp.consP C ?_
    refine rvP C (.ptr 1 0) ?_
    refine rvP C (.pv (.lit (.int .i64 c.kind))) ?_
    refine rvc_nil ?_
    refine Awp.block ?_
    refine Awp.seq ?_
    refine Awp.consP C ?_
    refine rvP C (.pv (.lit (.bool (c.kind == 1)))) ?_
    refine rvP C (.pv (.lit (.bool (c.kind == 1)))) ?_
    refine rvc_nil ?_
    refine Awp.cond (b := (c.kind == 1)) rfl (fun h72 => ?_) (fun h72 => ?_)
    ·
     replace hR := of_true h72 hR
     refine Awp.skip ?_
     refine Awp.condT (b := (c.kind == 1)) rfl h72 ?_
     refine Awp.regionP C ?_
     refine rvP C (.pv (.lit (.bool (decide (c.epoch ≤ 1099511627776))))) ?_
     refine rvP C (.pv (.lit (.bool (decide (c.epoch ≤ 1099511627776))))) ?_
     refine rvc_case 37 (decide (c.epoch ≤ 1099511627776)) rfl (fun h73 => ?_) (fun h73 => ?_)
     ·
      replace hR := of_true h73 hR
      refine rvO C (.pv (.lit (.bool false))) ?_
      refine rvP C (.pv (.lit (.bool false))) ?_
      refine rvP C (.pv (.lit (.bool false))) ?_
      refine rvS ?_
      refine rvS ?_
      refine rvS ?_
      refine rvP C (.pv (.lit (.bool false))) ?_
      refine rvP C (.pv (.lit (.bool false))) ?_
      refine rvc_nil ?_
      refine Awp.seq ?_
      refine Awp.consP C ?_
      refine rvP C (.pv (.lit (.bool false))) ?_
      refine rvP C (.pv (.lit (.bool true))) ?_
      refine rvc_nil ?_
      refine Awp.condT (b := true) rfl rfl ?_
      refine Awp.consP C ?_
      refine rvP C (.pv (.lit (.int .i64 120))) ?_
      refine rvc_nil ?_
      refine Awp.ret ?_
      subst hR
      exact ⟨.inl rfl, rfl⟩
     ·
      replace hR := of_false h73 hR
      refine rvS ?_
      refine rvP C (.pv (.lit (.bool false))) ?_
      refine rvP C (.pv (.lit (.bool false))) ?_
      refine rvS ?_
      refine rvS ?_
      refine rvS ?_
      refine rvP C (.pv (.lit (.bool false))) ?_
      refine rvP C (.pv (.lit (.bool false))) ?_
      refine rvc_nil ?_
      refine Awp.seq ?_
      refine Awp.consP C ?_
      refine rvP C (.pv (.lit (.bool false))) ?_
      refine rvP C (.pv (.lit (.bool true))) ?_
      refine rvc_nil ?_
      refine Awp.condT (b := true) rfl rfl ?_
      refine Awp.consP C ?_
      refine rvP C (.pv (.lit (.int .i64 120))) ?_
      refine rvc_nil ?_
      refine Awp.ret ?_
      subst hR
      exact ⟨.inl rfl, rfl⟩
    ·
     replace hR := of_false h72 hR
     refine Awp.consP C ?_
     refine rvP C (.pv (.lit (.bool (c.kind == 3)))) ?_
     refine rvP C (.pv (.lit (.bool (c.kind == 3)))) ?_
     refine rvc_nil ?_
     refine Awp.cond (b := (c.kind == 3)) rfl (fun h74 => ?_) (fun h74 => ?_)
     ·
      replace hR := of_true h74 hR
      refine Awp.skip ?_
      refine Awp.condT (b := (c.kind == 3)) rfl h74 ?_
      refine Awp.regionP C ?_
      refine rvP C (.pv (.lit (.bool (decide (c.epoch ≤ 1099511627776))))) ?_
      refine rvP C (.pv (.lit (.bool (decide (c.epoch ≤ 1099511627776))))) ?_
      refine rvc_case 37 (decide (c.epoch ≤ 1099511627776)) rfl (fun h75 => ?_) (fun h75 => ?_)
      ·
       replace hR := of_true h75 hR
       refine rvO C (.pv (.lit (.bool false))) ?_
       refine rvP C (.pv (.lit (.bool false))) ?_
       refine rvP C (.pv (.lit (.bool false))) ?_
       refine rvS ?_
       refine rvS ?_
       refine rvS ?_
       refine rvP C (.pv (.lit (.bool false))) ?_
       refine rvP C (.pv (.lit (.bool false))) ?_
       refine rvc_nil ?_
       refine Awp.seq ?_
       refine Awp.consP C ?_
       refine rvP C (.pv (.lit (.bool false))) ?_
       refine rvP C (.pv (.lit (.bool true))) ?_
       refine rvc_nil ?_
       refine Awp.condT (b := true) rfl rfl ?_
       refine Awp.consP C ?_
       refine rvP C (.pv (.lit (.int .i64 120))) ?_
       refine rvc_nil ?_
       refine Awp.ret ?_
       subst hR
       exact ⟨.inl rfl, rfl⟩
      ·
       replace hR := of_false h75 hR
       refine rvS ?_
       refine rvP C (.pv (.lit (.bool false))) ?_
       refine rvP C (.pv (.lit (.bool false))) ?_
       refine rvS ?_
       refine rvS ?_
       refine rvS ?_
       refine rvP C (.pv (.lit (.bool false))) ?_
       refine rvP C (.pv (.lit (.bool false))) ?_
       refine rvc_nil ?_
       refine Awp.seq ?_
       refine Awp.consP C ?_
       refine rvP C (.pv (.lit (.bool false))) ?_
       refine rvP C (.pv (.lit (.bool true))) ?_
       refine rvc_nil ?_
       refine Awp.condT (b := true) rfl rfl ?_
       refine Awp.consP C ?_
       refine rvP C (.pv (.lit (.int .i64 120))) ?_
       refine rvc_nil ?_
       refine Awp.ret ?_
       subst hR
       exact ⟨.inl rfl, rfl⟩
     ·
      replace hR := of_false h74 hR
      refine Awp.regionP C ?_
      refine rvP C (.pv (.lit (.bool (c.kind == 4)))) ?_
      refine rvP C (.pv (.lit (.bool (c.kind == 4)))) ?_
      refine rvc_nil ?_
      refine Awp.cond (b := (c.kind == 4)) rfl (fun h76 => ?_) (fun h76 => ?_)
      ·
       replace hR := of_true h76 hR
       refine Awp.regionP C ?_
       refine rvP C (.pv (.lit (.bool (decide (c.epoch ≤ 1099511627776))))) ?_
       refine rvP C (.pv (.lit (.bool (decide (c.epoch ≤ 1099511627776))))) ?_
       refine rvc_case 37 (decide (c.epoch ≤ 1099511627776)) rfl (fun h77 => ?_) (fun h77 => ?_)
       ·
        replace hR := of_true h77 hR
        refine rvO C (.pv (.lit (.bool false))) ?_
        refine rvP C (.pv (.lit (.bool false))) ?_
        refine rvP C (.pv (.lit (.bool false))) ?_
        refine rvS ?_
        refine rvS ?_
        refine rvS ?_
        refine rvP C (.pv (.lit (.bool false))) ?_
        refine rvP C (.pv (.lit (.bool false))) ?_
        refine rvc_nil ?_
        refine Awp.seq ?_
        refine Awp.consP C ?_
        refine rvP C (.pv (.lit (.bool false))) ?_
        refine rvP C (.pv (.lit (.bool true))) ?_
        refine rvc_nil ?_
        refine Awp.condT (b := true) rfl rfl ?_
        refine Awp.consP C ?_
        refine rvP C (.pv (.lit (.int .i64 120))) ?_
        refine rvc_nil ?_
        refine Awp.ret ?_
        subst hR
        exact ⟨.inl rfl, rfl⟩
       ·
        replace hR := of_false h77 hR
        refine rvS ?_
        refine rvP C (.pv (.lit (.bool false))) ?_
        refine rvP C (.pv (.lit (.bool false))) ?_
        refine rvS ?_
        refine rvS ?_
        refine rvS ?_
        refine rvP C (.pv (.lit (.bool false))) ?_
        refine rvP C (.pv (.lit (.bool false))) ?_
        refine rvc_nil ?_
        refine Awp.seq ?_
        refine Awp.consP C ?_
        refine rvP C (.pv (.lit (.bool false))) ?_
        refine rvP C (.pv (.lit (.bool true))) ?_
        refine rvc_nil ?_
        refine Awp.condT (b := true) rfl rfl ?_
        refine Awp.consP C ?_
        refine rvP C (.pv (.lit (.int .i64 120))) ?_
        refine rvc_nil ?_
        refine Awp.ret ?_
        subst hR
        exact ⟨.inl rfl, rfl⟩
      ·
       replace hR := of_false h76 hR
       refine Awp.consP C ?_
       refine rvP C (.pv (.lit (.bool (c.kind == 2)))) ?_
       refine rvP C (.pv (.lit (.bool (c.kind == 2)))) ?_
       refine rvc_nil ?_
       refine Awp.cond (b := (c.kind == 2)) rfl (fun h78 => ?_) (fun h78 => ?_)
       ·
        replace hR := of_true h78 hR
        refine Awp.regionP C ?_
        refine rvP C (.pv (.lit (.bool (decide (c.epoch ≤ 1099511627776))))) ?_
        refine rvP C (.pv (.lit (.bool (decide (c.epoch ≤ 1099511627776))))) ?_
        refine rvc_case 48 (decide (c.epoch ≤ 1099511627776)) rfl (fun h79 => ?_) (fun h79 => ?_)
        ·
         replace hR := of_true h79 hR
         refine rvO C (.pv (.lit (.bool false))) ?_
         refine rvP C (.pv (.lit (.bool false))) ?_
         refine rvP C (.pv (.lit (.bool false))) ?_
         refine rvS ?_
         refine rvP C (.pv (.lit (.bool false))) ?_
         refine rvP C (.pv (.lit (.bool false))) ?_
         refine rvc_nil ?_
         refine Awp.seq ?_
         refine Awp.consP C ?_
         refine rvP C (.pv (.lit (.bool false))) ?_
         refine rvP C (.pv (.lit (.bool true))) ?_
         refine rvc_nil ?_
         refine Awp.condT (b := true) rfl rfl ?_
         refine Awp.consP C ?_
         refine rvP C (.pv (.lit (.int .i64 120))) ?_
         refine rvc_nil ?_
         refine Awp.ret ?_
         subst hR
         exact ⟨.inl rfl, rfl⟩
        ·
         replace hR := of_false h79 hR
         refine rvS ?_
         refine rvP C (.pv (.lit (.bool false))) ?_
         refine rvP C (.pv (.lit (.bool false))) ?_
         refine rvS ?_
         refine rvP C (.pv (.lit (.bool false))) ?_
         refine rvP C (.pv (.lit (.bool false))) ?_
         refine rvc_nil ?_
         refine Awp.seq ?_
         refine Awp.consP C ?_
         refine rvP C (.pv (.lit (.bool false))) ?_
         refine rvP C (.pv (.lit (.bool true))) ?_
         refine rvc_nil ?_
         refine Awp.condT (b := true) rfl rfl ?_
         refine Awp.consP C ?_
         refine rvP C (.pv (.lit (.int .i64 120))) ?_
         refine rvc_nil ?_
         refine Awp.ret ?_
         subst hR
         exact ⟨.inl rfl, rfl⟩
       ·
        replace hR := of_false h78 hR
        refine Awp.consP C ?_
        refine rvP C (.pv (.lit (.bool (c.kind == 5)))) ?_
        refine rvP C (.pv (.lit (.bool (c.kind == 5)))) ?_
        refine rvc_nil ?_
        refine Awp.cond (b := (c.kind == 5)) rfl (fun h80 => ?_) (fun h80 => ?_)
        ·
         replace hR := of_true h80 hR
         refine Awp.regionP C ?_
         refine rvP C (.pv (.lit (.bool (decide (c.epoch ≤ 1099511627776))))) ?_
         refine rvP C (.pv (.lit (.bool (decide (c.epoch ≤ 1099511627776))))) ?_
         refine rvc_case 57 (decide (c.epoch ≤ 1099511627776)) rfl (fun h81 => ?_) (fun h81 => ?_)
         ·
          replace hR := of_true h81 hR
          refine rvO C (.pv (.lit (.bool false))) ?_
          refine rvP C (.pv (.lit (.bool false))) ?_
          refine rvP C (.pv (.lit (.bool false))) ?_
          refine rvS ?_
          refine rvS ?_
          refine rvS ?_
          refine rvP C (.pv (.lit (.bool false))) ?_
          refine rvP C (.pv (.lit (.bool false))) ?_
          refine rvc_nil ?_
          refine Awp.seq ?_
          refine Awp.consP C ?_
          refine rvP C (.pv (.lit (.bool false))) ?_
          refine rvP C (.pv (.lit (.bool true))) ?_
          refine rvc_nil ?_
          refine Awp.condT (b := true) rfl rfl ?_
          refine Awp.consP C ?_
          refine rvP C (.pv (.lit (.int .i64 120))) ?_
          refine rvc_nil ?_
          refine Awp.ret ?_
          subst hR
          exact ⟨.inl rfl, rfl⟩
         ·
          replace hR := of_false h81 hR
          refine rvS ?_
          refine rvP C (.pv (.lit (.bool false))) ?_
          refine rvP C (.pv (.lit (.bool false))) ?_
          refine rvS ?_
          refine rvS ?_
          refine rvS ?_
          refine rvP C (.pv (.lit (.bool false))) ?_
          refine rvP C (.pv (.lit (.bool false))) ?_
          refine rvc_nil ?_
          refine Awp.seq ?_
          refine Awp.consP C ?_
          refine rvP C (.pv (.lit (.bool false))) ?_
          refine rvP C (.pv (.lit (.bool true))) ?_
          refine rvc_nil ?_
          refine Awp.condT (b := true) rfl rfl ?_
          refine Awp.consP C ?_
          refine rvP C (.pv (.lit (.int .i64 120))) ?_
          refine rvc_nil ?_
          refine Awp.ret ?_
          subst hR
          exact ⟨.inl rfl, rfl⟩
        ·
         replace hR := of_false h80 hR
         refine Awp.regionP C ?_
         refine rvP C (.pv (.lit (.bool false))) ?_
         refine rvc_nil ?_
         refine Awp.seq ?_
         refine Awp.consP C ?_
         refine rvP C (.pv (.lit (.bool false))) ?_
         refine rvP C (.pv (.lit (.bool true))) ?_
         refine rvc_nil ?_
         refine Awp.condT (b := true) rfl rfl ?_
         refine Awp.consP C ?_
         refine rvP C (.pv (.lit (.int .i64 120))) ?_
         refine rvc_nil ?_
         refine Awp.ret ?_
         subst hR
         exact ⟨.inl rfl, rfl⟩
   ·
    replace hR := of_false h71 hR
    refine rvS ?_
    refine rvS ?_
    refine rvS ?_
    refine rvP C (.pv (.lit (.bool false))) ?_
    refine rvP C (.pv (.lit (.bool false))) ?_
    refine rvc_nil ?_
    refine Awp.seq ?_
    refine Awp.consP C ?_
    refine rvP C (.ptr 1 0) ?_
    refine rvP C (.pv (.lit (.int .i64 c.kind))) ?_
    refine rvc_nil ?_
    refine Awp.block ?_
    refine Awp.seq ?_
    refine Awp.consP C ?_
    refine rvP C (.pv (.lit (.bool (c.kind == 1)))) ?_
    refine rvP C (.pv (.lit (.bool (c.kind == 1)))) ?_
    refine rvc_nil ?_
    refine Awp.cond (b := (c.kind == 1)) rfl (fun h82 => ?_) (fun h82 => ?_)
    ·
     replace hR := of_true h82 hR
     refine Awp.skip ?_
     refine Awp.condT (b := (c.kind == 1)) rfl h82 ?_
     refine Awp.regionP C ?_
     refine rvP C (.pv (.lit (.bool false))) ?_
     refine rvP C (.pv (.lit (.bool false))) ?_
     refine rvS ?_
     refine rvP C (.pv (.lit (.bool false))) ?_
     refine rvP C (.pv (.lit (.bool false))) ?_
     refine rvS ?_
     refine rvS ?_
     refine rvS ?_
     refine rvP C (.pv (.lit (.bool false))) ?_
     refine rvP C (.pv (.lit (.bool false))) ?_
     refine rvc_nil ?_
     refine Awp.seq ?_
     refine Awp.consP C ?_
     refine rvP C (.pv (.lit (.bool false))) ?_
     refine rvP C (.pv (.lit (.bool true))) ?_
     refine rvc_nil ?_
     refine Awp.condT (b := true) rfl rfl ?_
     refine Awp.consP C ?_
     refine rvP C (.pv (.lit (.int .i64 120))) ?_
     refine rvc_nil ?_
     refine Awp.ret ?_
     subst hR
     exact ⟨.inl rfl, rfl⟩
    ·
     replace hR := of_false h82 hR
     refine Awp.consP C ?_
     refine rvP C (.pv (.lit (.bool (c.kind == 3)))) ?_
     refine rvP C (.pv (.lit (.bool (c.kind == 3)))) ?_
     refine rvc_nil ?_
     refine Awp.cond (b := (c.kind == 3)) rfl (fun h83 => ?_) (fun h83 => ?_)
     ·
      replace hR := of_true h83 hR
      refine Awp.skip ?_
      refine Awp.condT (b := (c.kind == 3)) rfl h83 ?_
      refine Awp.regionP C ?_
      refine rvP C (.pv (.lit (.bool false))) ?_
      refine rvP C (.pv (.lit (.bool false))) ?_
      refine rvS ?_
      refine rvP C (.pv (.lit (.bool false))) ?_
      refine rvP C (.pv (.lit (.bool false))) ?_
      refine rvS ?_
      refine rvS ?_
      refine rvS ?_
      refine rvP C (.pv (.lit (.bool false))) ?_
      refine rvP C (.pv (.lit (.bool false))) ?_
      refine rvc_nil ?_
      refine Awp.seq ?_
      refine Awp.consP C ?_
      refine rvP C (.pv (.lit (.bool false))) ?_
      refine rvP C (.pv (.lit (.bool true))) ?_
      refine rvc_nil ?_
      refine Awp.condT (b := true) rfl rfl ?_
      refine Awp.consP C ?_
      refine rvP C (.pv (.lit (.int .i64 120))) ?_
      refine rvc_nil ?_
      refine Awp.ret ?_
      subst hR
      exact ⟨.inl rfl, rfl⟩
     ·
      replace hR := of_false h83 hR
      refine Awp.regionP C ?_
      refine rvP C (.pv (.lit (.bool (c.kind == 4)))) ?_
      refine rvP C (.pv (.lit (.bool (c.kind == 4)))) ?_
      refine rvc_nil ?_
      refine Awp.cond (b := (c.kind == 4)) rfl (fun h84 => ?_) (fun h84 => ?_)
      ·
       replace hR := of_true h84 hR
       refine Awp.regionP C ?_
       refine rvP C (.pv (.lit (.bool false))) ?_
       refine rvP C (.pv (.lit (.bool false))) ?_
       refine rvS ?_
       refine rvP C (.pv (.lit (.bool false))) ?_
       refine rvP C (.pv (.lit (.bool false))) ?_
       refine rvS ?_
       refine rvS ?_
       refine rvS ?_
       refine rvP C (.pv (.lit (.bool false))) ?_
       refine rvP C (.pv (.lit (.bool false))) ?_
       refine rvc_nil ?_
       refine Awp.seq ?_
       refine Awp.consP C ?_
       refine rvP C (.pv (.lit (.bool false))) ?_
       refine rvP C (.pv (.lit (.bool true))) ?_
       refine rvc_nil ?_
       refine Awp.condT (b := true) rfl rfl ?_
       refine Awp.consP C ?_
       refine rvP C (.pv (.lit (.int .i64 120))) ?_
       refine rvc_nil ?_
       refine Awp.ret ?_
       subst hR
       exact ⟨.inl rfl, rfl⟩
      ·
       replace hR := of_false h84 hR
       refine Awp.consP C ?_
       refine rvP C (.pv (.lit (.bool (c.kind == 2)))) ?_
       refine rvP C (.pv (.lit (.bool (c.kind == 2)))) ?_
       refine rvc_nil ?_
       refine Awp.cond (b := (c.kind == 2)) rfl (fun h85 => ?_) (fun h85 => ?_)
       ·
        replace hR := of_true h85 hR
        refine Awp.regionP C ?_
        refine rvP C (.pv (.lit (.bool false))) ?_
        refine rvP C (.pv (.lit (.bool false))) ?_
        refine rvS ?_
        refine rvP C (.pv (.lit (.bool false))) ?_
        refine rvP C (.pv (.lit (.bool false))) ?_
        refine rvS ?_
        refine rvP C (.pv (.lit (.bool false))) ?_
        refine rvP C (.pv (.lit (.bool false))) ?_
        refine rvc_nil ?_
        refine Awp.seq ?_
        refine Awp.consP C ?_
        refine rvP C (.pv (.lit (.bool false))) ?_
        refine rvP C (.pv (.lit (.bool true))) ?_
        refine rvc_nil ?_
        refine Awp.condT (b := true) rfl rfl ?_
        refine Awp.consP C ?_
        refine rvP C (.pv (.lit (.int .i64 120))) ?_
        refine rvc_nil ?_
        refine Awp.ret ?_
        subst hR
        exact ⟨.inl rfl, rfl⟩
       ·
        replace hR := of_false h85 hR
        refine Awp.consP C ?_
        refine rvP C (.pv (.lit (.bool (c.kind == 5)))) ?_
        refine rvP C (.pv (.lit (.bool (c.kind == 5)))) ?_
        refine rvc_nil ?_
        refine Awp.cond (b := (c.kind == 5)) rfl (fun h86 => ?_) (fun h86 => ?_)
        ·
         replace hR := of_true h86 hR
         refine Awp.regionP C ?_
         refine rvP C (.pv (.lit (.bool false))) ?_
         refine rvP C (.pv (.lit (.bool false))) ?_
         refine rvS ?_
         refine rvP C (.pv (.lit (.bool false))) ?_
         refine rvP C (.pv (.lit (.bool false))) ?_
         refine rvS ?_
         refine rvS ?_
         refine rvS ?_
         refine rvP C (.pv (.lit (.bool false))) ?_
         refine rvP C (.pv (.lit (.bool false))) ?_
         refine rvc_nil ?_
         refine Awp.seq ?_
         refine Awp.consP C ?_
         refine rvP C (.pv (.lit (.bool false))) ?_
         refine rvP C (.pv (.lit (.bool true))) ?_
         refine rvc_nil ?_
         refine Awp.condT (b := true) rfl rfl ?_
         refine Awp.consP C ?_
         refine rvP C (.pv (.lit (.int .i64 120))) ?_
         refine rvc_nil ?_
         refine Awp.ret ?_
         subst hR
         exact ⟨.inl rfl, rfl⟩
        ·
         replace hR := of_false h86 hR
         refine Awp.regionP C ?_
         refine rvP C (.pv (.lit (.bool false))) ?_
         refine rvc_nil ?_
         refine Awp.seq ?_
         refine Awp.consP C ?_
         refine rvP C (.pv (.lit (.bool false))) ?_
         refine rvP C (.pv (.lit (.bool true))) ?_
         refine rvc_nil ?_
         refine Awp.condT (b := true) rfl rfl ?_
         refine Awp.consP C ?_
         refine rvP C (.pv (.lit (.int .i64 120))) ?_
         refine rvc_nil ?_
         refine Awp.ret ?_
         subst hR
         exact ⟨.inl rfl, rfl⟩
def many_l0 (site : Int) : List Member → Nat → Int → Int
  | [], _, n => n
  | x :: xs, i, n => (bif (x.site == site) then many_l0 site xs (i + 1) (IntKind.i64.wrap (n + 1)) else many_l0 site xs (i + 1) n)
def many (c : Chain) (site : Int) : Int :=
  many_l0 site c.members.D 0 0
theorem many_calls (c : Chain) (site : Int) (hl1 : c.members.D.length ≤ 1000000) : PCalls Try.prog 51 [.agg [.pv (.lit (.int .i64 c.epoch)), sS (some c.members.nil) eMember c.members.D], .pv (.lit (.int .i64 site))] (.pv (.lit (.int .i64 (many c site)))) := by
 generalize hR : many c site = R
 refine PCalls.of_body tabOk Try.func51 rfl rfl rfl rfl rfl mixed fun E hP C hI => ?_
 refine Awp.consP C ?_
 refine rvc_un (rexec_prim C (δ := { v := .ptr 2 0, new := [(2, .cells [.pv (.lit (.int .i64 c.epoch)), sS (some c.members.nil) eMember c.members.D])] }) rfl rfl rfl rfl trivial rfl ?_)
 refine rvP C (.pv (.lit (.int .i64 0))) ?_
 refine rvc_nil ?_
 refine Awp.consP C ?_
 refine rvP C (.pv (.lit (.int .i64 0))) ?_
 refine rvc_nil ?_
 refine Awp.seq ?_
 refine Awp.consP C ?_
 refine rvP C (.ptr 2 1) ?_
 refine rvP C (sS (some c.members.nil) eMember c.members.D) ?_
 refine rvP C (.pv (.lit (.int .i64 (c.members.D.length : Int)))) ?_
 refine rvP C (.pv (.lit (.int .i64 0))) ?_
 refine rvc_nil ?_
 refine Awp.block ?_
 refine Awp.forR (σ := Int) (c.members.D.length) (fun i v => [(1, .pv (.lit (.int .i64 site))), (5, .pv (.lit (.int .i64 v))), (9, sS (some c.members.nil) eMember c.members.D), (10, .pv (.lit (.int .i64 (c.members.D.length : Int)))), (11, .pv (.lit (.int .i64 (i : Int))))]) (fun i v => []) [] (fun i v => many_l0 site (c.members.D.drop i) i v = R) 0 ?_ ?_ (fun i n h1 hR => ?_)
 · exact hR
 · exact ⟨fun b => b, WeakerR.ofL (Ks := []) hI ⟨⟨rfl, rfl⟩, ⟨rfl, rfl⟩, ⟨rfl, rfl⟩, ⟨rfl, rfl⟩, ⟨rfl, rfl⟩, trivial⟩ (okH_nil) rfl⟩
 refine Awp.consP C ?_
 refine rvP C (.pv (.lit (.bool (decide ((i : Int) < (c.members.D.length : Int)))))) ?_
 refine rvc_nil ?_
 refine Awp.seq ?_
 refine Awp.cond (b := (decide ((i : Int) < (c.members.D.length : Int)))) rfl (fun h2 => ?_) (fun h2 => ?_)
 ·
  have h3 : i < c.members.D.length := by have := of_decide_eq_true h2; omega
  obtain ⟨x, h4⟩ := getX h3
  rw [drop_at h4] at hR
  refine Awp.skip ?_
  refine Awp.seq ?_
  refine Awp.block ?_
  refine Awp.consP C ?_
  refine rvc_un (rexec_idxS C rfl rfl rfl rfl rfl rfl x (Int.natCast_nonneg _) h4 ?_)
  refine rvP C (.agg [.pv (.lit (.int .i64 x.node)), .pv (.lit (.int .i64 x.site)), .pv (.lit (.bool x.fresh))]) ?_
  refine rvc_un (rexec_prim C (δ := { v := .ptr 7 0, new := [(7, .cells [.pv (.lit (.int .i64 0)), .pv (.lit (.int .i64 0)), .pv (.lit (.bool false))])] }) rfl rfl rfl rfl trivial rfl ?_)
  refine rvc_un (rexec_prim C (δ := { v := .undef, wr := [(7, some (.cells [.pv (.lit (.int .i64 x.node)), .pv (.lit (.int .i64 x.site)), .pv (.lit (.bool x.fresh))]))] }) rfl rfl rfl rfl trivial rfl ?_)
  refine rvc_nil ?_
  refine Awp.consP C ?_
  refine rvP C (.ptr 7 1) ?_
  refine rvP C (.pv (.lit (.int .i64 x.site))) ?_
  refine rvP C (.pv (.lit (.int .i64 site))) ?_
  refine rvP C (.pv (.lit (.bool (x.site == site)))) ?_
  refine rvc_nil ?_
  refine Awp.cond (b := (x.site == site)) rfl (fun h5 => ?_) (fun h5 => ?_)
  ·
   replace hR := of_true h5 hR
   refine Awp.regionP C ?_
   refine rvP C (.pv (.lit (.int .i64 n))) ?_
   refine rvP C (.pv (.lit (.int .i64 (IntKind.i64.wrap (n + 1))))) ?_
   refine rvP C (.pv (.lit (.int .i64 (IntKind.i64.wrap (n + 1))))) ?_
   refine rvc_nil ?_
   refine Awp.regionP C ?_
   refine rvP C (.pv (.lit (.int .i64 (IntKind.i64.wrap ((i : Int) + 1))))) ?_
   refine rvP C (.pv (.lit (.int .i64 (IntKind.i64.wrap ((i : Int) + 1))))) ?_
   refine rvc_nil ?_
   refine ⟨h3, (IntKind.i64.wrap (n + 1)), ?_, ?_⟩
   · exact hR
   · exact ⟨fun b => b, WeakerR.ofL (Ks := []) hI ⟨⟨rfl, rfl⟩, ⟨rfl, rfl⟩, ⟨rfl, rfl⟩, ⟨rfl, rfl⟩, ⟨lit_cast (wrap_i64 (by omega) (by omega)), rfl⟩, trivial⟩ (okH_nil) rfl⟩
  ·
   replace hR := of_false h5 hR
   refine Awp.skip ?_
   refine Awp.regionP C ?_
   refine rvP C (.pv (.lit (.int .i64 (IntKind.i64.wrap ((i : Int) + 1))))) ?_
   refine rvP C (.pv (.lit (.int .i64 (IntKind.i64.wrap ((i : Int) + 1))))) ?_
   refine rvc_nil ?_
   refine ⟨h3, n, ?_, ?_⟩
   · exact hR
   · exact ⟨fun b => b, WeakerR.ofL (Ks := []) hI ⟨⟨rfl, rfl⟩, ⟨rfl, rfl⟩, ⟨rfl, rfl⟩, ⟨rfl, rfl⟩, ⟨lit_cast (wrap_i64 (by omega) (by omega)), rfl⟩, trivial⟩ (okH_nil) rfl⟩
 ·
  have h3 : ¬ i < c.members.D.length := by have := of_decide_eq_false h2; omega
  rw [drop_end h3] at hR
  refine Awp.exit ?_
  refine Awp.consP C ?_
  refine rvP C (.pv (.lit (.int .i64 n))) ?_
  refine rvP C (.pv (.lit (.int .i64 n))) ?_
  refine rvc_nil ?_
  refine Awp.ret ?_
  subst hR
  exact ⟨.inl rfl, rfl⟩
def planCheck_l1 (w : (Nat → Int)) : Nat → Nat → Int
  | 0, _ => 0
  | k1 + 1, i1 => (bif (decide ((w i1) < 0)) then 1 else (bif (decide ((w i1) > 6)) then 1 else planCheck_l1 w k1 (i1 + 1) ))
def planCheck_l0 (h : (Nat → Int)) (w : (Nat → Int)) : Nat → Nat → Int
  | 0, _ => planCheck_l1 w 3 0 
  | k + 1, i => (bif (decide ((h i) < 0)) then 1 else (bif (decide ((h i) ≥ 3)) then 1 else planCheck_l0 h w k (i + 1) ))
def planCheck (h : (Nat → Int)) (w : (Nat → Int)) : Int :=
  planCheck_l0 h w 6 0
theorem planCheck_calls (h : (Nat → Int)) (w : (Nat → Int))  : PCalls Try.prog 21 [.agg [.pv (.lit (.int .i64 (h 0))), .pv (.lit (.int .i64 (h 1))), .pv (.lit (.int .i64 (h 2))), .pv (.lit (.int .i64 (h 3))), .pv (.lit (.int .i64 (h 4))), .pv (.lit (.int .i64 (h 5)))], .agg [.pv (.lit (.int .i64 (w 0))), .pv (.lit (.int .i64 (w 1))), .pv (.lit (.int .i64 (w 2)))]] (.pv (.lit (.int .i64 (planCheck h w)))) := by
 generalize hR : planCheck h w = R
 refine PCalls.of_body tabOk Try.func21 rfl rfl rfl rfl rfl mixed fun E hP C hI => ?_
 refine Awp.consP C ?_
 refine rvc_un (rexec_prim C (δ := { v := .ptr 2 0, new := [(2, .cells [.pv (.lit (.int .i64 (h 0))), .pv (.lit (.int .i64 (h 1))), .pv (.lit (.int .i64 (h 2))), .pv (.lit (.int .i64 (h 3))), .pv (.lit (.int .i64 (h 4))), .pv (.lit (.int .i64 (h 5)))])] }) rfl rfl rfl rfl trivial rfl ?_)
 refine rvc_un (rexec_prim C (δ := { v := .ptr 3 0, new := [(3, .cells [.pv (.lit (.int .i64 (w 0))), .pv (.lit (.int .i64 (w 1))), .pv (.lit (.int .i64 (w 2)))])] }) rfl rfl rfl rfl trivial rfl ?_)
 refine rvP C (.pv (.lit (.int .i64 0))) ?_
 refine rvc_nil ?_
 refine Awp.seq ?_
 refine Awp.consP C ?_
 refine rvP C (.agg [.pv (.lit (.int .i64 (h 0))), .pv (.lit (.int .i64 (h 1))), .pv (.lit (.int .i64 (h 2))), .pv (.lit (.int .i64 (h 3))), .pv (.lit (.int .i64 (h 4))), .pv (.lit (.int .i64 (h 5)))]) ?_
 refine rvP C (.pv (.lit (.int .i64 0))) ?_
 refine rvc_nil ?_
 refine Awp.block ?_
 refine Awp.forR (σ := Unit) (6) (fun i _v => [(3, .ptr 3 0), (9, .agg [.pv (.lit (.int .i64 (h 0))), .pv (.lit (.int .i64 (h 1))), .pv (.lit (.int .i64 (h 2))), .pv (.lit (.int .i64 (h 3))), .pv (.lit (.int .i64 (h 4))), .pv (.lit (.int .i64 (h 5)))]), (10, .pv (.lit (.int .i64 (i : Int))))]) (fun i _v => [(3, .cells [.pv (.lit (.int .i64 (w 0))), .pv (.lit (.int .i64 (w 1))), .pv (.lit (.int .i64 (w 2)))])]) [3] (fun i _v => planCheck_l0 h w (6 - i) i  = R) () ?_ ?_ (fun i _v h1 hR => ?_)
 · exact hR
 · exact ⟨fun b => b, WeakerR.ofL (Ks := [3]) hI ⟨⟨rfl, rfl⟩, ⟨rfl, rfl⟩, ⟨rfl, rfl⟩, trivial⟩ (okH_cons rfl rfl rfl rfl (okH_nil)) rfl⟩
 refine Awp.consP C ?_
 refine rvP C (.pv (.lit (.bool (decide ((i : Int) < 6))))) ?_
 refine rvc_nil ?_
 refine Awp.seq ?_
 refine Awp.cond (b := (decide ((i : Int) < 6))) rfl (fun h2 => ?_) (fun h2 => ?_)
 ·
  have h3 : i < 6 := by have := of_decide_eq_true h2; omega
  obtain ⟨k, h4⟩ : ∃ k, 6 - i = k + 1 := ⟨6 - i - 1, by omega⟩
  rw [h4] at hR
  refine Awp.skip ?_
  refine Awp.seq ?_
  refine Awp.block ?_
  refine Awp.consP C ?_
  refine rvc_un (rexec_idxA C (fun j => .pv (.lit (.int .i64 (h j)))) (.pv (.lit (.int .i64 (h i)))) rfl rfl rfl rfl rfl rfl rfl rfl ⟨(by have := of_decide_eq_true h2; omega), (by have := of_decide_eq_true h2; omega)⟩ rfl ?_)
  refine rvP C (.pv (.lit (.int .i64 (h i)))) ?_
  refine rvc_nil ?_
  refine Awp.consP C ?_
  refine rvP C (.pv (.lit (.int .i64 (h i)))) ?_
  refine rvP C (.pv (.lit (.bool (decide ((h i) < 0))))) ?_
  refine rvP C (.pv (.lit (.bool (decide ((h i) < 0))))) ?_
  refine rvc_case 15 (decide ((h i) < 0)) rfl (fun h5 => ?_) (fun h5 => ?_)
  ·
   replace hR := of_true h5 hR
   refine rvS ?_
   refine rvS ?_
   refine rvP C (.pv (.lit (.bool true))) ?_
   refine rvc_nil ?_
   refine Awp.condT (b := true) rfl rfl ?_
   refine Awp.consP C ?_
   refine rvP C (.pv (.lit (.int .i64 1))) ?_
   refine rvc_nil ?_
   refine Awp.ret ?_
   subst hR
   exact ⟨.inl rfl, rfl⟩
  ·
   replace hR := of_false h5 hR
   refine rvO C (.pv (.lit (.int .i64 (h i)))) ?_
   refine rvO C (.pv (.lit (.bool (decide ((h i) ≥ 3))))) ?_
   refine rvP C (.pv (.lit (.bool (decide ((h i) ≥ 3))))) ?_
   refine rvc_nil ?_
   refine Awp.cond (b := (decide ((h i) ≥ 3))) rfl (fun h6 => ?_) (fun h6 => ?_)
   ·
    replace hR := of_true h6 hR
    refine Awp.consP C ?_
    refine rvP C (.pv (.lit (.int .i64 1))) ?_
    refine rvc_nil ?_
    refine Awp.ret ?_
    subst hR
    exact ⟨.inl rfl, rfl⟩
   ·
    replace hR := of_false h6 hR
    refine Awp.skip ?_
    refine Awp.regionP C ?_
    refine rvP C (.pv (.lit (.int .i64 (IntKind.i64.wrap ((i : Int) + 1))))) ?_
    refine rvP C (.pv (.lit (.int .i64 (IntKind.i64.wrap ((i : Int) + 1))))) ?_
    refine rvc_nil ?_
    refine ⟨h3, (), ?_, ?_⟩
    · exact (by rw [show 6 - (i + 1) = k by omega]; exact hR)
    · exact ⟨fun b => b, WeakerR.ofL (Ks := [3]) hI ⟨⟨rfl, rfl⟩, ⟨rfl, rfl⟩, ⟨lit_cast (wrap_i64 (by omega) (by omega)), rfl⟩, trivial⟩ (okH_cons rfl rfl rfl rfl (okH_nil)) rfl⟩
 ·
  rw [show 6 - i = 0 by have := of_decide_eq_false h2; omega] at hR
  refine Awp.exit ?_
  refine Awp.seq ?_
  refine Awp.consP C ?_
  refine rvP C (.agg [.pv (.lit (.int .i64 (w 0))), .pv (.lit (.int .i64 (w 1))), .pv (.lit (.int .i64 (w 2)))]) ?_
  refine rvP C (.pv (.lit (.int .i64 0))) ?_
  refine rvc_nil ?_
  refine Awp.block ?_
  refine Awp.forR (σ := Unit) (3) (fun i1 _v => [(20, .agg [.pv (.lit (.int .i64 (w 0))), .pv (.lit (.int .i64 (w 1))), .pv (.lit (.int .i64 (w 2)))]), (21, .pv (.lit (.int .i64 (i1 : Int))))]) (fun i1 _v => []) [] (fun i1 _v => planCheck_l1 w (3 - i1) i1  = R) () ?_ ?_ (fun i1 _v h7 hR => ?_)
  · exact hR
  · exact ⟨fun b => b, WeakerR.ofL (Ks := []) hI ⟨⟨rfl, rfl⟩, ⟨rfl, rfl⟩, trivial⟩ (okH_nil) rfl⟩
  refine Awp.consP C ?_
  refine rvP C (.pv (.lit (.bool (decide ((i1 : Int) < 3))))) ?_
  refine rvc_nil ?_
  refine Awp.seq ?_
  refine Awp.cond (b := (decide ((i1 : Int) < 3))) rfl (fun h8 => ?_) (fun h8 => ?_)
  ·
   have h9 : i1 < 3 := by have := of_decide_eq_true h8; omega
   obtain ⟨k1, h10⟩ : ∃ k, 3 - i1 = k + 1 := ⟨3 - i1 - 1, by omega⟩
   rw [h10] at hR
   refine Awp.skip ?_
   refine Awp.seq ?_
   refine Awp.block ?_
   refine Awp.consP C ?_
   refine rvc_un (rexec_idxA C (fun j => .pv (.lit (.int .i64 (w j)))) (.pv (.lit (.int .i64 (w i1)))) rfl rfl rfl rfl rfl rfl rfl rfl ⟨(by have := of_decide_eq_false h2; have := of_decide_eq_true h8; omega), (by have := of_decide_eq_false h2; have := of_decide_eq_true h8; omega)⟩ rfl ?_)
   refine rvP C (.pv (.lit (.int .i64 (w i1)))) ?_
   refine rvc_nil ?_
   refine Awp.consP C ?_
   refine rvP C (.pv (.lit (.int .i64 (w i1)))) ?_
   refine rvP C (.pv (.lit (.bool (decide ((w i1) < 0))))) ?_
   refine rvP C (.pv (.lit (.bool (decide ((w i1) < 0))))) ?_
   refine rvc_case 26 (decide ((w i1) < 0)) rfl (fun h11 => ?_) (fun h11 => ?_)
   ·
    replace hR := of_true h11 hR
    refine rvS ?_
    refine rvS ?_
    refine rvP C (.pv (.lit (.bool true))) ?_
    refine rvc_nil ?_
    refine Awp.condT (b := true) rfl rfl ?_
    refine Awp.consP C ?_
    refine rvP C (.pv (.lit (.int .i64 1))) ?_
    refine rvc_nil ?_
    refine Awp.ret ?_
    subst hR
    exact ⟨.inl rfl, rfl⟩
   ·
    replace hR := of_false h11 hR
    refine rvO C (.pv (.lit (.int .i64 (w i1)))) ?_
    refine rvO C (.pv (.lit (.bool (decide ((w i1) > 6))))) ?_
    refine rvP C (.pv (.lit (.bool (decide ((w i1) > 6))))) ?_
    refine rvc_nil ?_
    refine Awp.cond (b := (decide ((w i1) > 6))) rfl (fun h12 => ?_) (fun h12 => ?_)
    ·
     replace hR := of_true h12 hR
     refine Awp.consP C ?_
     refine rvP C (.pv (.lit (.int .i64 1))) ?_
     refine rvc_nil ?_
     refine Awp.ret ?_
     subst hR
     exact ⟨.inl rfl, rfl⟩
    ·
     replace hR := of_false h12 hR
     refine Awp.skip ?_
     refine Awp.regionP C ?_
     refine rvP C (.pv (.lit (.int .i64 (IntKind.i64.wrap ((i1 : Int) + 1))))) ?_
     refine rvP C (.pv (.lit (.int .i64 (IntKind.i64.wrap ((i1 : Int) + 1))))) ?_
     refine rvc_nil ?_
     refine ⟨h9, (), ?_, ?_⟩
     · exact (by rw [show 3 - (i1 + 1) = k1 by omega]; exact hR)
     · exact ⟨fun b => b, WeakerR.ofL (Ks := []) hI ⟨⟨rfl, rfl⟩, ⟨lit_cast (wrap_i64 (by omega) (by omega)), rfl⟩, trivial⟩ (okH_nil) rfl⟩
  ·
   rw [show 3 - i1 = 0 by have := of_decide_eq_false h8; omega] at hR
   refine Awp.exit ?_
   refine Awp.consP C ?_
   refine rvP C (.pv (.lit (.int .i64 0))) ?_
   refine rvc_nil ?_
   refine Awp.ret ?_
   subst hR
   exact ⟨.inl rfl, rfl⟩
def lowOf (s : Int) : Int :=
  (bif (s == 0) then (-1) else (mLen (IntKind.u64.wrap ((bitI .and .u64 s (IntKind.u64.wrap (0 - s))) - 1))))
theorem lowOf_calls (s : Int)  : PCalls Try.prog 60 [.pv (.lit (.int .u64 s))] (.pv (.lit (.int .i64 (lowOf s)))) := by
 generalize hR : lowOf s = R
 refine PCalls.of_body tabOk Try.func60 rfl rfl rfl rfl rfl mixed fun E hP C hI => ?_
 refine Awp.consP C ?_
 refine rvP C (.pv (.lit (.int .i64 0))) ?_
 refine rvc_nil ?_
 refine Awp.seq ?_
 refine Awp.consP C ?_
 refine rvP C (.pv (.lit (.int .u64 s))) ?_
 refine rvP C (.pv (.lit (.bool (s == 0)))) ?_
 refine rvc_nil ?_
 refine Awp.cond (b := (s == 0)) rfl (fun h1 => ?_) (fun h1 => ?_)
 ·
  replace hR := of_true h1 hR
  refine Awp.consP C ?_
  refine rvP C (.pv (.lit (.int .i64 (-1)))) ?_
  refine rvc_nil ?_
  refine Awp.ret ?_
  subst hR
  exact ⟨.inl rfl, rfl⟩
 ·
  replace hR := of_false h1 hR
  refine Awp.skip ?_
  refine Awp.consP C ?_
  refine rvP C (.pv (.lit (.int .u64 s))) ?_
  refine rvP C (.pv (.lit (.int .u64 s))) ?_
  refine rvP C (.pv (.lit (.int .u64 (IntKind.u64.wrap (0 - s))))) ?_
  refine rvP C (.pv (.lit (.int .u64 (bitI .and .u64 s (IntKind.u64.wrap (0 - s)))))) ?_
  refine rvP C (.pv (.lit (.int .u64 (IntKind.u64.wrap ((bitI .and .u64 s (IntKind.u64.wrap (0 - s))) - 1))))) ?_
  refine rvc_un (rexec_call hP C rfl rfl rfl (mLen_calls (IntKind.u64.wrap ((bitI .and .u64 s (IntKind.u64.wrap (0 - s))) - 1))) ?_)
  refine rvP C (.pv (.lit (.int .i64 (mLen (IntKind.u64.wrap ((bitI .and .u64 s (IntKind.u64.wrap (0 - s))) - 1)))))) ?_
  refine rvc_nil ?_
  refine Awp.ret ?_
  subst hR
  exact ⟨.inl rfl, rfl⟩
def eqCmds_l0 (s2 : (Sl Command)) : List Command → Nat → Bool
  | [], _ => true
  | x :: xs, i => (bif (!((x.kind == (s2.D[(i : Int).toNat]!.kind)) && ((x.node == (s2.D[(i : Int).toNat]!.node)) && ((x.site == (s2.D[(i : Int).toNat]!.site)) && ((x.epoch == (s2.D[(i : Int).toNat]!.epoch)) && true))))) then false else eqCmds_l0 s2 xs (i + 1) )
def eqCmds (s1 : (Sl Command)) (s2 : (Sl Command)) : Bool :=
  (bif ((s1.D.length : Int) != (s2.D.length : Int)) then false else eqCmds_l0 s2 s1.D 0 )
theorem eqCmds_calls (s1 : (Sl Command)) (s2 : (Sl Command)) (hl1 : s1.D.length ≤ 1000000) : PCalls Try.prog 15 [sS (some s1.nil) eCommand s1.D, sS (some s2.nil) eCommand s2.D] (.pv (.lit (.bool (eqCmds s1 s2)))) := by
 generalize hR : eqCmds s1 s2 = R
 refine PCalls.of_body tabOk Try.func15 rfl rfl rfl rfl rfl mixed fun E hP C hI => ?_
 refine Awp.consP C ?_
 refine rvP C (.pv (.lit (.bool false))) ?_
 refine rvc_nil ?_
 refine Awp.seq ?_
 refine Awp.consP C ?_
 refine rvP C (sS (some s1.nil) eCommand s1.D) ?_
 refine rvP C (.pv (.lit (.int .i64 (s1.D.length : Int)))) ?_
 refine rvP C (sS (some s2.nil) eCommand s2.D) ?_
 refine rvP C (.pv (.lit (.int .i64 (s2.D.length : Int)))) ?_
 refine rvP C (.pv (.lit (.bool ((s1.D.length : Int) != (s2.D.length : Int))))) ?_
 refine rvc_nil ?_
 refine Awp.cond (b := ((s1.D.length : Int) != (s2.D.length : Int))) rfl (fun h1 => ?_) (fun h1 => ?_)
 ·
  replace hR := of_true h1 hR
  refine Awp.consP C ?_
  refine rvP C (.pv (.lit (.bool false))) ?_
  refine rvc_nil ?_
  refine Awp.ret ?_
  subst hR
  exact ⟨.inl rfl, rfl⟩
 ·
  replace hR := of_false h1 hR
  refine Awp.skip ?_
  refine Awp.seq ?_
  refine Awp.consP C ?_
  refine rvP C (sS (some s1.nil) eCommand s1.D) ?_
  refine rvP C (.pv (.lit (.int .i64 (s1.D.length : Int)))) ?_
  refine rvP C (.pv (.lit (.int .i64 0))) ?_
  refine rvc_nil ?_
  refine Awp.block ?_
  refine Awp.forR (σ := Unit) (s1.D.length) (fun i _v => [(0, sS (some s1.nil) eCommand s1.D), (1, sS (some s2.nil) eCommand s2.D), (12, .pv (.lit (.int .i64 (s1.D.length : Int)))), (13, .pv (.lit (.int .i64 (i : Int))))]) (fun i _v => []) [] (fun i _v => eqCmds_l0 s2 (s1.D.drop i) i  = R) () ?_ ?_ (fun i _v h2 hR => ?_)
  · exact hR
  · exact ⟨fun b => b, WeakerR.ofL (Ks := []) hI ⟨⟨rfl, rfl⟩, ⟨rfl, rfl⟩, ⟨rfl, rfl⟩, ⟨rfl, rfl⟩, trivial⟩ (okH_nil) rfl⟩
  refine Awp.consP C ?_
  refine rvP C (.pv (.lit (.bool (decide ((i : Int) < (s1.D.length : Int)))))) ?_
  refine rvc_nil ?_
  refine Awp.seq ?_
  refine Awp.cond (b := (decide ((i : Int) < (s1.D.length : Int)))) rfl (fun h3 => ?_) (fun h3 => ?_)
  ·
   have h4 : i < s1.D.length := by have := of_decide_eq_true h3; omega
   obtain ⟨x, h5⟩ := getX h4
   rw [drop_at h5] at hR
   refine Awp.skip ?_
   refine Awp.seq ?_
   refine Awp.block ?_
   refine Awp.consP C ?_
   refine rvP C (.pv (.lit (.int .i64 (i : Int)))) ?_
   refine rvP C (.pv (.lit (.int .i64 (i : Int)))) ?_
   refine rvc_nil ?_
   refine Awp.consP C ?_
   refine rvP C (sS (some s1.nil) eCommand s1.D) ?_
   refine rvP C (.pv (.lit (.int .i64 (i : Int)))) ?_
   refine rvc_un (rexec_idxS C rfl rfl rfl rfl rfl rfl x (Int.natCast_nonneg _) h5 ?_)
   refine rvP C (.agg [.pv (.lit (.int .i64 x.kind)), .pv (.lit (.int .i64 x.node)), .pv (.lit (.int .i64 x.site)), .pv (.lit (.int .i64 x.epoch))]) ?_
   refine rvP C (sS (some s2.nil) eCommand s2.D) ?_
   refine rvP C (.pv (.lit (.int .i64 (i : Int)))) ?_
   have h6 : s2.D[(i : Int).toNat]? = some s2.D[(i : Int).toNat]! := getE (by have := eq_of_bne_false h1; have := of_decide_eq_true h3; omega)
   refine rvc_un (rexec_idxS C rfl rfl rfl rfl rfl rfl (s2.D[(i : Int).toNat]!) (Int.natCast_nonneg _) h6 ?_)
   refine rvP C (.agg [.pv (.lit (.int .i64 (s2.D[(i : Int).toNat]!.kind))), .pv (.lit (.int .i64 (s2.D[(i : Int).toNat]!.node))), .pv (.lit (.int .i64 (s2.D[(i : Int).toNat]!.site))), .pv (.lit (.int .i64 (s2.D[(i : Int).toNat]!.epoch)))]) ?_
   refine rvP C (.pv (.lit (.bool (!((x.kind == (s2.D[(i : Int).toNat]!.kind)) && ((x.node == (s2.D[(i : Int).toNat]!.node)) && ((x.site == (s2.D[(i : Int).toNat]!.site)) && ((x.epoch == (s2.D[(i : Int).toNat]!.epoch)) && true)))))))) ?_
   refine rvc_nil ?_
   refine Awp.cond (b := (!((x.kind == (s2.D[(i : Int).toNat]!.kind)) && ((x.node == (s2.D[(i : Int).toNat]!.node)) && ((x.site == (s2.D[(i : Int).toNat]!.site)) && ((x.epoch == (s2.D[(i : Int).toNat]!.epoch)) && true)))))) rfl (fun h7 => ?_) (fun h7 => ?_)
   ·
    replace hR := of_true h7 hR
    refine Awp.consP C ?_
    refine rvP C (.pv (.lit (.bool false))) ?_
    refine rvc_nil ?_
    refine Awp.ret ?_
    subst hR
    exact ⟨.inl rfl, rfl⟩
   ·
    replace hR := of_false h7 hR
    refine Awp.skip ?_
    refine Awp.regionP C ?_
    refine rvP C (.pv (.lit (.int .i64 (IntKind.i64.wrap ((i : Int) + 1))))) ?_
    refine rvP C (.pv (.lit (.int .i64 (IntKind.i64.wrap ((i : Int) + 1))))) ?_
    refine rvc_nil ?_
    refine ⟨h4, (), ?_, ?_⟩
    · exact hR
    · exact ⟨fun b => b, WeakerR.ofL (Ks := []) hI ⟨⟨rfl, rfl⟩, ⟨rfl, rfl⟩, ⟨rfl, rfl⟩, ⟨lit_cast (wrap_i64 (by omega) (by omega)), rfl⟩, trivial⟩ (okH_nil) rfl⟩
  ·
   have h4 : ¬ i < s1.D.length := by have := of_decide_eq_false h3; omega
   rw [drop_end h4] at hR
   refine Awp.exit ?_
   refine Awp.consP C ?_
   refine rvP C (.pv (.lit (.bool true))) ?_
   refine rvc_nil ?_
   refine Awp.ret ?_
   subst hR
   exact ⟨.inl rfl, rfl⟩
def may (c : Chain) (k : Command) : Bool :=
  (bif (k.kind == 1) then (((drop c k.node).2) == 0) else (bif (k.kind == 2) then (((join c (Member.mk k.node k.site false)).2) == 0) else false))
theorem may_calls (c : Chain) (k : Command) (hn : c.members.nil = true → c.members.D = []) (hl1 : c.members.D.length ≤ 1000000) : PCalls Try.prog 61 [.agg [.pv (.lit (.int .i64 c.epoch)), sS (some c.members.nil) eMember c.members.D], .agg [.pv (.lit (.int .i64 k.kind)), .pv (.lit (.int .i64 k.node)), .pv (.lit (.int .i64 k.site)), .pv (.lit (.int .i64 k.epoch))]] (.pv (.lit (.bool (may c k)))) := by
 generalize hR : may c k = R
 refine PCalls.of_body tabOk Try.func61 rfl rfl rfl rfl rfl mixed fun E hP C hI => ?_
 refine Awp.consP C ?_
 refine rvc_un (rexec_prim C (δ := { v := .ptr 2 0, new := [(2, .cells [.pv (.lit (.int .i64 c.epoch)), sS (some c.members.nil) eMember c.members.D])] }) rfl rfl rfl rfl trivial rfl ?_)
 refine rvc_un (rexec_prim C (δ := { v := .ptr 3 0, new := [(3, .cells [.pv (.lit (.int .i64 k.kind)), .pv (.lit (.int .i64 k.node)), .pv (.lit (.int .i64 k.site)), .pv (.lit (.int .i64 k.epoch))])] }) rfl rfl rfl rfl trivial rfl ?_)
 refine rvP C (.pv (.lit (.bool false))) ?_
 refine rvc_nil ?_
 refine Awp.seq ?_
 refine Awp.consP C ?_
 refine rvP C (.ptr 3 0) ?_
 refine rvP C (.pv (.lit (.int .i64 k.kind))) ?_
 refine rvc_nil ?_
 refine Awp.block ?_
 refine Awp.consP C ?_
 refine rvP C (.pv (.lit (.bool (k.kind == 1)))) ?_
 refine rvP C (.pv (.lit (.bool (k.kind == 1)))) ?_
 refine rvc_nil ?_
 refine Awp.cond (b := (k.kind == 1)) rfl (fun h1 => ?_) (fun h1 => ?_)
 ·
  replace hR := of_true h1 hR
  refine Awp.consP C ?_
  refine rvP C (.agg [.pv (.lit (.int .i64 c.epoch)), sS (some c.members.nil) eMember c.members.D]) ?_
  refine rvP C (.ptr 3 1) ?_
  refine rvP C (.pv (.lit (.int .i64 k.node))) ?_
  refine rvc_un (rexec_call hP C rfl rfl rfl (drop_calls c k.node hl1) ?_)
  refine rvP C (.tup [.agg [.pv (.lit (.int .i64 ((drop c k.node).1.epoch))), sS (some (drop c k.node).1.members.nil) eMember ((drop c k.node).1.members.D)], .pv (.lit (.int .i64 ((drop c k.node).2)))]) ?_
  refine rvP C (.agg [.pv (.lit (.int .i64 ((drop c k.node).1.epoch))), sS (some (drop c k.node).1.members.nil) eMember ((drop c k.node).1.members.D)]) ?_
  refine rvP C (.pv (.lit (.int .i64 ((drop c k.node).2)))) ?_
  refine rvc_un (rexec_prim C (δ := { v := .ptr 5 0, new := [(5, .cells [.pv (.lit (.int .i64 0)), sS (some true) eMember []])] }) rfl rfl rfl rfl trivial rfl ?_)
  refine rvc_un (rexec_prim C (δ := { v := .undef, wr := [(5, some (.cells [.pv (.lit (.int .i64 ((drop c k.node).1.epoch))), sS (some (drop c k.node).1.members.nil) eMember ((drop c k.node).1.members.D)]))] }) rfl rfl rfl rfl trivial rfl ?_)
  refine rvP C (.pv (.lit (.int .i64 ((drop c k.node).2)))) ?_
  refine rvc_nil ?_
  refine Awp.consP C ?_
  refine rvP C (.pv (.lit (.int .i64 ((drop c k.node).2)))) ?_
  refine rvP C (.pv (.lit (.bool (((drop c k.node).2) == 0)))) ?_
  refine rvP C (.pv (.lit (.bool (((drop c k.node).2) == 0)))) ?_
  refine rvc_nil ?_
  refine Awp.ret ?_
  subst hR
  exact ⟨.inl rfl, rfl⟩
 ·
  replace hR := of_false h1 hR
  refine Awp.consP C ?_
  refine rvP C (.pv (.lit (.bool (k.kind == 2)))) ?_
  refine rvP C (.pv (.lit (.bool (k.kind == 2)))) ?_
  refine rvc_nil ?_
  refine Awp.cond (b := (k.kind == 2)) rfl (fun h2 => ?_) (fun h2 => ?_)
  ·
   replace hR := of_true h2 hR
   refine Awp.consP C ?_
   refine rvP C (.agg [.pv (.lit (.int .i64 c.epoch)), sS (some c.members.nil) eMember c.members.D]) ?_
   refine rvP C (.ptr 3 1) ?_
   refine rvP C (.pv (.lit (.int .i64 k.node))) ?_
   refine rvP C (.ptr 3 2) ?_
   refine rvP C (.pv (.lit (.int .i64 k.site))) ?_
   refine rvP C (.agg [.pv (.lit (.int .i64 k.node)), .pv (.lit (.int .i64 k.site)), .pv (.lit (.bool false))]) ?_
   refine rvc_un (rexec_call hP C rfl rfl rfl (join_calls c (Member.mk k.node k.site false) hn hl1) ?_)
   refine rvP C (.tup [.agg [.pv (.lit (.int .i64 ((join c (Member.mk k.node k.site false)).1.epoch))), sS (some (join c (Member.mk k.node k.site false)).1.members.nil) eMember ((join c (Member.mk k.node k.site false)).1.members.D)], .pv (.lit (.int .i64 ((join c (Member.mk k.node k.site false)).2)))]) ?_
   refine rvP C (.agg [.pv (.lit (.int .i64 ((join c (Member.mk k.node k.site false)).1.epoch))), sS (some (join c (Member.mk k.node k.site false)).1.members.nil) eMember ((join c (Member.mk k.node k.site false)).1.members.D)]) ?_
   refine rvP C (.pv (.lit (.int .i64 ((join c (Member.mk k.node k.site false)).2)))) ?_
   refine rvc_un (rexec_prim C (δ := { v := .ptr 7 0, new := [(7, .cells [.pv (.lit (.int .i64 0)), sS (some true) eMember []])] }) rfl rfl rfl rfl trivial rfl ?_)
   refine rvc_un (rexec_prim C (δ := { v := .undef, wr := [(7, some (.cells [.pv (.lit (.int .i64 ((join c (Member.mk k.node k.site false)).1.epoch))), sS (some (join c (Member.mk k.node k.site false)).1.members.nil) eMember ((join c (Member.mk k.node k.site false)).1.members.D)]))] }) rfl rfl rfl rfl trivial rfl ?_)
   refine rvP C (.pv (.lit (.int .i64 ((join c (Member.mk k.node k.site false)).2)))) ?_
   refine rvc_nil ?_
   refine Awp.consP C ?_
   refine rvP C (.pv (.lit (.int .i64 ((join c (Member.mk k.node k.site false)).2)))) ?_
   refine rvP C (.pv (.lit (.bool (((join c (Member.mk k.node k.site false)).2) == 0)))) ?_
   refine rvP C (.pv (.lit (.bool (((join c (Member.mk k.node k.site false)).2) == 0)))) ?_
   refine rvc_nil ?_
   refine Awp.ret ?_
   subst hR
   exact ⟨.inl rfl, rfl⟩
  ·
   replace hR := of_false h2 hR
   refine Awp.skip ?_
   refine Awp.consP C ?_
   refine rvP C (.pv (.lit (.bool false))) ?_
   refine rvc_nil ?_
   refine Awp.ret ?_
   subst hR
   exact ⟨.inl rfl, rfl⟩
end Go.Proofs.Ytaffaalpgpepeaa
/- Readers made, and asked for small numbers. No conditions. -/
namespace Go.Proofs.Ytaffaalpgpepeaa
open Go.Am
def rdNew (b : (Sl Int)) : Reader :=
  (Reader.mk (Sl.mk false b.D) 0 0 true)
theorem rdNew_calls (b : (Sl Int)) (hl1 : b.D.length ≤ 1000000) : OCalls Try.prog 68 [sS (some b.nil) (eI .u8) b.D] (.ptr 0 0) (.cells [sS (some (rdNew b).b.nil) (eI .u8) ((rdNew b).b.D), .pv (.lit (.int .i64 ((rdNew b).at_))), .pv (.lit (.int .i64 ((rdNew b).err))), .pv (.lit (.bool ((rdNew b).made)))]) := by
 generalize hR : rdNew b = R
 refine OCalls.of_body tabOk Try.func68 rfl rfl rfl rfl rfl rfl mixed fun E hP C hI => ?_
 refine Awp.consP C ?_
 refine rvP C (.pv (.lit (.pointer none))) ?_
 refine rvc_nil ?_
 refine Awp.consP C ?_
 refine rvc_un (rexec_prim C (δ := { v := .sl 3 0 0 1 true, new := [(3, .cells (encC (eI .u8) []))] }) rfl rfl rfl rfl trivial rfl ?_)
 refine rvP C (sS (some b.nil) (eI .u8) b.D) ?_
 refine rvc_un (rexec_append C rfl rfl rfl rfl rfl rfl rfl rfl (fun _ h => by cases h) rfl (en := (eI .u8)) (D0 := []) (D := b.D) rfl rfl rfl rfl (by first | omega | (simp <;> omega)) (by decide) (nn := b.D.length) (by simp) ?_)
 refine rvP C (.agg [.sl 5 0 b.D.length 1 false, .pv (.lit (.int .i64 0)), .pv (.lit (.int .i64 0)), .pv (.lit (.bool true))]) ?_
 refine rvc_un (rexec_prim C (δ := { v := .ptr 7 0, new := [(7, .cells [.sl 5 0 b.D.length 1 false, .pv (.lit (.int .i64 0)), .pv (.lit (.int .i64 0)), .pv (.lit (.bool true))])] }) rfl rfl rfl rfl trivial rfl ?_)
 refine rvP C (.ptr 7 0) ?_
 refine rvc_nil ?_
 refine Awp.freezeW 5 (encL (eI .u8) b.D) ?_ [(2, .ptr 7 0)] [(7, .cells [sS (some false) (eI .u8) b.D, .pv (.lit (.int .i64 0)), .pv (.lit (.int .i64 0)), .pv (.lit (.bool true))])] ?_ ?_ ?_
 · rfl
 · exact ⟨⟨_, rfl, .inl (.inl rfl)⟩, trivial⟩
 · exact ⟨⟨(by show (7 : Nat) ≠ 5; decide), .inr ⟨_, _, rfl, rfl, ⟨.inr ⟨_, _, _, rfl, rfl⟩, .inl rfl, .inl rfl, .inl rfl, trivial⟩⟩⟩, trivial⟩
 refine Awp.weakenR (S := [(2, .ptr 0 0)]) (H := [(0, .cells [sS (some false) (eI .u8) b.D, .pv (.lit (.int .i64 0)), .pv (.lit (.int .i64 0)), .pv (.lit (.bool true))])]) (U := [0]) (fun x => bif x == 0 then 7 else x) (WeakerR.ofL (Ks := [0]) hI ⟨⟨rfl, rfl⟩, trivial⟩ (okH_cons rfl rfl rfl rfl okH_nil) rfl) ?_
 refine Awp.ret ?_
 subst hR
 exact ⟨.inl rfl, rfl, rfl⟩
def rdIn (r : Reader) (lo : Int) (hi : Int) : Reader × Int :=
  (bif ((rdErr (rdNum r).1) != 0) then ((rdNum r).1, 0) else (bif (decide ((rdNum r).2 > 4611686018427387904)) then ((rdStop (rdNum r).1 (IntKind.i64.wrap (((rdNum r).1.b.D.length : Int) - (rdLeft r))) 5), 0) else (bif (decide ((IntKind.i64.wrap (rdNum r).2) < lo)) then ((rdStop (rdNum r).1 (IntKind.i64.wrap (((rdNum r).1.b.D.length : Int) - (rdLeft r))) 5), 0) else (bif (decide ((IntKind.i64.wrap (rdNum r).2) > hi)) then ((rdStop (rdNum r).1 (IntKind.i64.wrap (((rdNum r).1.b.D.length : Int) - (rdLeft r))) 5), 0) else ((rdNum r).1, (IntKind.i64.wrap (rdNum r).2))))))
theorem rdIn_calls (r : Reader) (lo : Int) (hi : Int) (hk : (0 ≤ r.at_ ∧ r.at_ ≤ (r.b.D.length : Int)) ∧ r.b.D.length ≤ 1000000) : MCalls Try.prog 69 [.ptr 0 0, .pv (.lit (.int .i64 lo)), .pv (.lit (.int .i64 hi))] (.cells [sS (some r.b.nil) (eI .u8) r.b.D, .pv (.lit (.int .i64 r.at_)), .pv (.lit (.int .i64 r.err)), .pv (.lit (.bool r.made))]) (.pv (.lit (.int .i64 ((rdIn r lo hi).2)))) (.cells [sS (some (rdIn r lo hi).1.b.nil) (eI .u8) ((rdIn r lo hi).1.b.D), .pv (.lit (.int .i64 ((rdIn r lo hi).1.at_))), .pv (.lit (.int .i64 ((rdIn r lo hi).1.err))), .pv (.lit (.bool ((rdIn r lo hi).1.made)))]) := by
 generalize hR : rdIn r lo hi = R
 refine MCalls.of_body tabOk Try.func69 rfl rfl rfl rfl rfl rfl rfl mixed fun E hP C hI => ?_
 refine Awp.consP C ?_
 refine rvP C (.pv (.lit (.int .i64 0))) ?_
 refine rvc_nil ?_
 refine Awp.cons C (fun _ => .writer) (by kernel_rfl) ?_
 refine rvP C (.ptr 0 0) ?_
 refine rvc_un (rexec_callM hP C (b := 0) rfl rfl rfl (rdLeft_calls r) rfl rfl ?_)
 refine rvP C (.pv (.lit (.int .i64 (rdLeft r)))) ?_
 refine rvc_nil ?_
 refine Awp.cons C (fun _ => .writer) (by kernel_rfl) ?_
 refine rvP C (.ptr 0 0) ?_
 obtain ⟨nu, hq_nu⟩ : ∃ q_, q_ = (rdNum r) := ⟨_, rfl⟩
 have hc_nu := (rdNum_calls r hk)
 first | rw [← hq_nu] at hR hc_nu | (unfold rdIn at hR; rw [← hq_nu] at hR hc_nu)
 refine rvc_un (rexec_callM hP C (b := 0) rfl rfl rfl hc_nu rfl rfl ?_)
 refine rvP C (.pv (.lit (.int .u64 nu.2))) ?_
 refine rvc_nil ?_
 refine Awp.seq ?_
 refine Awp.cons C (fun _ => .writer) (by kernel_rfl) ?_
 refine rvP C (.ptr 0 0) ?_
 refine rvc_un (rexec_callM hP C (b := 0) rfl rfl rfl (rdErr_calls nu.1) rfl rfl ?_)
 refine rvP C (.pv (.lit (.bool ((rdErr nu.1) != 0)))) ?_
 refine rvc_nil ?_
 refine Awp.cond (b := ((rdErr nu.1) != 0)) rfl (fun h1 => ?_) (fun h1 => ?_)
 ·
  replace hR := of_true h1 hR
  refine Awp.consP C ?_
  refine rvP C (.pv (.lit (.int .i64 0))) ?_
  refine rvc_nil ?_
  refine Awp.ret ?_
  subst hR
  exact ⟨.inl rfl, rfl, rfl⟩
 ·
  replace hR := of_false h1 hR
  refine Awp.skip ?_
  refine Awp.seq ?_
  refine Awp.consP C ?_
  refine rvP C (.pv (.lit (.int .u64 nu.2))) ?_
  refine rvP C (.pv (.lit (.bool (decide (nu.2 > 4611686018427387904))))) ?_
  refine rvP C (.pv (.lit (.bool (decide (nu.2 > 4611686018427387904))))) ?_
  refine rvc_case 18 (decide (nu.2 > 4611686018427387904)) rfl (fun h2 => ?_) (fun h2 => ?_)
  ·
   replace hR := of_true h2 hR
   refine rvS ?_
   refine rvS ?_
   refine rvS ?_
   refine rvS ?_
   refine rvP C (.pv (.lit (.bool true))) ?_
   refine rvP C (.pv (.lit (.bool true))) ?_
   refine rvS ?_
   refine rvS ?_
   refine rvS ?_
   refine rvS ?_
   refine rvP C (.pv (.lit (.bool true))) ?_
   refine rvc_nil ?_
   refine Awp.condT (b := true) rfl rfl ?_
   refine Awp.cons C (fun _ => .writer) (by kernel_rfl) ?_
   refine rvP C (.ptr 0 0) ?_
   refine rvP C (.ptr 0 0) ?_
   refine rvP C (.ptr 0 0) ?_
   refine rvP C (.ptr 0 0) ?_
   refine rvP C (sS (some nu.1.b.nil) (eI .u8) nu.1.b.D) ?_
   refine rvP C (.pv (.lit (.int .i64 (nu.1.b.D.length : Int)))) ?_
   refine rvP C (.pv (.lit (.int .i64 (rdLeft r)))) ?_
   refine rvP C (.pv (.lit (.int .i64 (IntKind.i64.wrap ((nu.1.b.D.length : Int) - (rdLeft r)))))) ?_
   refine rvc_un (rexec_callM hP C (b := 0) rfl rfl rfl (rdStop_calls nu.1 (IntKind.i64.wrap ((nu.1.b.D.length : Int) - (rdLeft r))) 5) rfl rfl ?_)
   refine rvc_nil ?_
   refine Awp.consP C ?_
   refine rvP C (.pv (.lit (.int .i64 0))) ?_
   refine rvc_nil ?_
   refine Awp.ret ?_
   subst hR
   exact ⟨.inl rfl, rfl, rfl⟩
  ·
   replace hR := of_false h2 hR
   refine rvO C (.pv (.lit (.int .u64 nu.2))) ?_
   refine rvO C (.pv (.lit (.int .i64 (IntKind.i64.wrap nu.2)))) ?_
   refine rvO C (.pv (.lit (.int .i64 lo))) ?_
   refine rvO C (.pv (.lit (.bool (decide ((IntKind.i64.wrap nu.2) < lo))))) ?_
   refine rvP C (.pv (.lit (.bool (decide ((IntKind.i64.wrap nu.2) < lo))))) ?_
   refine rvP C (.pv (.lit (.bool (decide ((IntKind.i64.wrap nu.2) < lo))))) ?_
   refine rvc_case 24 (decide ((IntKind.i64.wrap nu.2) < lo)) rfl (fun h3 => ?_) (fun h3 => ?_)
   ·
    replace hR := of_true h3 hR
    refine rvS ?_
    refine rvS ?_
    refine rvS ?_
    refine rvS ?_
    refine rvP C (.pv (.lit (.bool true))) ?_
    refine rvc_nil ?_
    refine Awp.condT (b := true) rfl rfl ?_
    refine Awp.cons C (fun _ => .writer) (by kernel_rfl) ?_
    refine rvP C (.ptr 0 0) ?_
    refine rvP C (.ptr 0 0) ?_
    refine rvP C (.ptr 0 0) ?_
    refine rvP C (.ptr 0 0) ?_
    refine rvP C (sS (some nu.1.b.nil) (eI .u8) nu.1.b.D) ?_
    refine rvP C (.pv (.lit (.int .i64 (nu.1.b.D.length : Int)))) ?_
    refine rvP C (.pv (.lit (.int .i64 (rdLeft r)))) ?_
    refine rvP C (.pv (.lit (.int .i64 (IntKind.i64.wrap ((nu.1.b.D.length : Int) - (rdLeft r)))))) ?_
    refine rvc_un (rexec_callM hP C (b := 0) rfl rfl rfl (rdStop_calls nu.1 (IntKind.i64.wrap ((nu.1.b.D.length : Int) - (rdLeft r))) 5) rfl rfl ?_)
    refine rvc_nil ?_
    refine Awp.consP C ?_
    refine rvP C (.pv (.lit (.int .i64 0))) ?_
    refine rvc_nil ?_
    refine Awp.ret ?_
    subst hR
    exact ⟨.inl rfl, rfl, rfl⟩
   ·
    replace hR := of_false h3 hR
    refine rvO C (.pv (.lit (.int .u64 nu.2))) ?_
    refine rvO C (.pv (.lit (.int .i64 (IntKind.i64.wrap nu.2)))) ?_
    refine rvO C (.pv (.lit (.int .i64 hi))) ?_
    refine rvO C (.pv (.lit (.bool (decide ((IntKind.i64.wrap nu.2) > hi))))) ?_
    refine rvP C (.pv (.lit (.bool (decide ((IntKind.i64.wrap nu.2) > hi))))) ?_
    refine rvc_nil ?_
    refine Awp.cond (b := (decide ((IntKind.i64.wrap nu.2) > hi))) rfl (fun h4 => ?_) (fun h4 => ?_)
    ·
     replace hR := of_true h4 hR
     refine Awp.cons C (fun _ => .writer) (by kernel_rfl) ?_
     refine rvP C (.ptr 0 0) ?_
     refine rvP C (.ptr 0 0) ?_
     refine rvP C (.ptr 0 0) ?_
     refine rvP C (.ptr 0 0) ?_
     refine rvP C (sS (some nu.1.b.nil) (eI .u8) nu.1.b.D) ?_
     refine rvP C (.pv (.lit (.int .i64 (nu.1.b.D.length : Int)))) ?_
     refine rvP C (.pv (.lit (.int .i64 (rdLeft r)))) ?_
     refine rvP C (.pv (.lit (.int .i64 (IntKind.i64.wrap ((nu.1.b.D.length : Int) - (rdLeft r)))))) ?_
     refine rvc_un (rexec_callM hP C (b := 0) rfl rfl rfl (rdStop_calls nu.1 (IntKind.i64.wrap ((nu.1.b.D.length : Int) - (rdLeft r))) 5) rfl rfl ?_)
     refine rvc_nil ?_
     refine Awp.consP C ?_
     refine rvP C (.pv (.lit (.int .i64 0))) ?_
     refine rvc_nil ?_
     refine Awp.ret ?_
     subst hR
     exact ⟨.inl rfl, rfl, rfl⟩
    ·
     replace hR := of_false h4 hR
     refine Awp.skip ?_
     refine Awp.consP C ?_
     refine rvP C (.pv (.lit (.int .u64 nu.2))) ?_
     refine rvP C (.pv (.lit (.int .i64 (IntKind.i64.wrap nu.2)))) ?_
     refine rvP C (.pv (.lit (.int .i64 (IntKind.i64.wrap nu.2)))) ?_
     refine rvc_nil ?_
     refine Awp.ret ?_
     subst hR
     exact ⟨.inl rfl, rfl, rfl⟩
end Go.Proofs.Ytaffaalpgpepeaa
/- Readers are kept right; how many bytes a number takes. No conditions. -/
namespace Go.Proofs.Ytaffaalpgpepeaa
open Go.Am
def okR (r : Reader) : Prop := (0 ≤ r.at_ ∧ r.at_ ≤ (r.b.D.length : Int)) ∧ r.b.D.length ≤ 1000000
theorem rdNew_ok (b : Sl Int) (h : b.D.length ≤ 1000000) : okR (rdNew b) := ⟨⟨Int.le_refl _, Int.natCast_nonneg _⟩, h⟩
theorem rdStop_ok {r : Reader} {a e : Int} (h : okR r) (ha : 0 ≤ a ∧ a ≤ (r.b.D.length : Int)) : okR (rdStop r a e) := by
  unfold rdStop
  cases r.err == 0
  · exact h
  · exact ⟨ha, h.2⟩
theorem bif_pair {P : Reader → Prop} {a : Bool} {x y : Reader × Int} (hx : P x.1) (hy : P y.1) : P (bif a then x else y).1 := by cases a <;> assumption
theorem rdNum_l0_ok (r : Reader) (h : okR r) : ∀ (f : Nat) (n s : Int) (v : Reader), f = v.b.D.length - v.at_.toNat + 1 → v.b = r.b → okR v → okR (rdNum_l0 r f n s v).1
  | 0, _, _, _, hf, _, _ => by omega
  | f + 1, n, s, v, hf, hb, hv => by
    have hw : 0 ≤ r.at_ ∧ r.at_ ≤ (v.b.D.length : Int) := by rw [hb]; exact h.1
    have h1 := hv.1
    have h2 := hv.2
    unfold rdNum_l0
    cases e1 : v.at_ == (v.b.D.length : Int)
    · have hne := ne_of_beq_false e1
      have hv' : okR (Reader.mk v.b (IntKind.i64.wrap (v.at_ + 1)) v.err v.made) := by
        have := wrapI (v.at_ + 1)
        refine ⟨⟨?_, ?_⟩, hv.2⟩ <;> (dsimp only; omega)
      have ih : ∀ n s, okR (rdNum_l0 r f n s (Reader.mk v.b (IntKind.i64.wrap (v.at_ + 1)) v.err v.made)).1 := fun n s => by
        refine rdNum_l0_ok r h f n s _ ?_ hb hv'
        have := wrapI (v.at_ + 1)
        dsimp only
        omega
      simp only [cond_false]
      repeat' (first | exact ih _ _ | exact rdStop_ok hv' hw | exact hv' | (apply bif_pair))
    · exact rdStop_ok hv hw
theorem rdNum_ok (r : Reader) (h : okR r) : okR (rdNum r).1 := by
  unfold rdNum
  refine bif_pair (P := okR) h ?_
  exact rdNum_l0_ok r h _ _ _ _ rfl rfl h
theorem rdNum_b_l0 (r : Reader) : ∀ (f : Nat) (n s : Int) (v : Reader), f = v.b.D.length - v.at_.toNat + 1 → okR v → v.b = r.b → (rdNum_l0 r f n s v).1.b = r.b
  | 0, _, _, _, hf, _, _ => by omega
  | f + 1, n, s, v, hf, hv, hb => by
    have st : ∀ {x : Reader} {a e : Int}, x.b = r.b → (rdStop x a e).b = r.b := fun {x a e} hx => by
      unfold rdStop; cases x.err == 0 <;> exact hx
    have h1 := hv.1
    have h2 := hv.2
    unfold rdNum_l0
    cases e1 : v.at_ == (v.b.D.length : Int)
    · have hne := ne_of_beq_false e1
      have hv' : okR (Reader.mk v.b (IntKind.i64.wrap (v.at_ + 1)) v.err v.made) := by
        have := wrapI (v.at_ + 1)
        refine ⟨⟨?_, ?_⟩, hv.2⟩ <;> (dsimp only; omega)
      have ih : ∀ n s, (rdNum_l0 r f n s (Reader.mk v.b (IntKind.i64.wrap (v.at_ + 1)) v.err v.made)).1.b = r.b := fun n s => by
        refine rdNum_b_l0 r f n s _ ?_ hv' hb
        have := wrapI (v.at_ + 1)
        dsimp only
        omega
      simp only [cond_false]
      repeat' (first | exact ih _ _ | exact st hb | exact hb | (apply bif_pair (P := fun x => x.b = r.b)))
    · exact st hb
theorem rdNum_b (r : Reader) (h : okR r) : (rdNum r).1.b = r.b := by
  unfold rdNum
  refine bif_pair (P := fun x => x.b = r.b) rfl ?_
  exact rdNum_b_l0 r _ _ _ _ rfl h rfl
theorem rdNum_err (r : Reader) (h : (rdErr r != 0) = true) : rdNum r = (r, 0) := by unfold rdNum; rw [h]; rfl
theorem rdLeft_eq (r : Reader) (h : okR r) (e : rdErr r = 0) : rdLeft r = (r.b.D.length : Int) - r.at_ := by
  unfold rdLeft
  rw [e]
  have := wrapI ((r.b.D.length : Int) - r.at_)
  have h1 := h.1
  have h2 := h.2
  show IntKind.i64.wrap _ = _
  omega
theorem rdIn_back (r : Reader) (h : okR r) (e : rdErr r = 0) : IntKind.i64.wrap (((rdNum r).1.b.D.length : Int) - rdLeft r) = r.at_ := by
  rw [rdLeft_eq r h e, rdNum_b r h]
  have := wrapI ((r.b.D.length : Int) - ((r.b.D.length : Int) - r.at_))
  have h1 := h.1
  have h2 := h.2
  omega
theorem rdIn_ok (r : Reader) (lo hi : Int) (h : okR r) : okR (rdIn r lo hi).1 := by
  have h1 := rdNum_ok r h
  cases e0 : rdErr r != 0
  · have hs : okR (rdStop (rdNum r).1 (IntKind.i64.wrap (((rdNum r).1.b.D.length : Int) - rdLeft r)) 5) := by
      rw [rdIn_back r h (eq_of_bne_false e0)]
      exact rdStop_ok h1 (by rw [rdNum_b r h]; exact h.1)
    unfold rdIn
    repeat' (first | exact h1 | exact hs | (apply bif_pair))
  · unfold rdIn
    rw [rdNum_err r e0]
    dsimp only
    rw [e0]
    exact h
theorem wrapU (n : Int) : IntKind.u64.wrap n = n % 18446744073709551616 := by
  simp [IntKind.wrap, IntKind.bits, IntKind.signed]
theorem wrap_lt64 (n : Int) : IntKind.u64.wrap n < 18446744073709551616 := by rw [wrapU]; omega
theorem wPut_l1_len {b : Nat} {x : Int} (hx : x < 18446744073709551616) : ∀ (f : Nat) (b1 : List Int) (n : Int), n.toNat < f → putInv b x b1 n → (wPut_l1 (fun b1 n => (Sl.mk false (b1 ++ [(IntKind.u8.wrap n)]))) f b1 n).D.length ≤ b + 10
  | 0, _, _, h, _ => by omega
  | f + 1, b1, n, h, hI => by
    unfold wPut_l1
    cases e1 : decide (n ≥ 128)
    · have := putInv_le hI hx
      show (b1 ++ [_]).length ≤ _
      rw [List.length_append, List.length_singleton]; omega
    · have hn := of_decide_eq_true e1
      exact wPut_l1_len hx f _ _ (by rw [shr7]; omega) (putInv_step hI hn)
theorem wPut_len (b : Sl Int) (x : Int) (hx : x < 18446744073709551616) : (wPut b x).D.length ≤ b.D.length + 10 := by
  unfold wPut
  cases e1 : decide (x ≥ 128)
  · show (b.D ++ [_]).length ≤ _
    rw [List.length_append, List.length_singleton]; omega
  · exact wPut_l1_len hx _ _ _ (by rw [shr7]; omega) (putInv_start (of_decide_eq_true e1))
end Go.Proofs.Ytaffaalpgpepeaa
/- Commands as bytes. No conditions. -/
namespace Go.Proofs.Ytaffaalpgpepeaa
open Go.Am
def cmdPut (c : Command) : (Sl Int) × Int :=
  (bif ((cmdCheck c) != 0) then ((Sl.mk true []), (cmdCheck c)) else ((wPut (wPut (wPut (wPut (Sl.mk true []) (IntKind.u64.wrap c.kind)) (IntKind.u64.wrap c.node)) (IntKind.u64.wrap c.site)) (IntKind.u64.wrap c.epoch)), 0))
theorem cmdPut_calls (c : Command)  : PCalls Try.prog 31 [.agg [.pv (.lit (.int .i64 c.kind)), .pv (.lit (.int .i64 c.node)), .pv (.lit (.int .i64 c.site)), .pv (.lit (.int .i64 c.epoch))]] (.tup [sS (some (cmdPut c).1.nil) (eI .u8) ((cmdPut c).1.D), .pv (.lit (.int .i64 ((cmdPut c).2)))]) := by
 generalize hR : cmdPut c = R
 refine PCalls.of_body tabOk Try.func31 rfl rfl rfl rfl rfl mixed fun E hP C hI => ?_
 refine Awp.consP C ?_
 refine rvc_un (rexec_prim C (δ := { v := .ptr 1 0, new := [(1, .cells [.pv (.lit (.int .i64 c.kind)), .pv (.lit (.int .i64 c.node)), .pv (.lit (.int .i64 c.site)), .pv (.lit (.int .i64 c.epoch))])] }) rfl rfl rfl rfl trivial rfl ?_)
 refine rvP C (sS (some true) (eI .u8) []) ?_
 refine rvP C (.pv (.lit (.int .i64 0))) ?_
 refine rvc_nil ?_
 refine Awp.seq ?_
 refine Awp.consP C ?_
 refine rvP C (.agg [.pv (.lit (.int .i64 c.kind)), .pv (.lit (.int .i64 c.node)), .pv (.lit (.int .i64 c.site)), .pv (.lit (.int .i64 c.epoch))]) ?_
 refine rvc_un (rexec_call hP C rfl rfl rfl (cmdCheck_calls c) ?_)
 refine rvP C (.pv (.lit (.int .i64 (cmdCheck c)))) ?_
 refine rvc_nil ?_
 refine Awp.consP C ?_
 refine rvP C (.pv (.lit (.int .i64 (cmdCheck c)))) ?_
 refine rvP C (.pv (.lit (.bool ((cmdCheck c) != 0)))) ?_
 refine rvc_nil ?_
 refine Awp.cond (b := ((cmdCheck c) != 0)) rfl (fun h1 => ?_) (fun h1 => ?_)
 ·
  replace hR := of_true h1 hR
  refine Awp.consP C ?_
  refine rvP C (.pv (.lit (.int .i64 (cmdCheck c)))) ?_
  refine rvP C (sS (some true) (eI .u8) []) ?_
  refine rvP C (.pv (.lit (.int .i64 (cmdCheck c)))) ?_
  refine rvc_nil ?_
  refine Awp.ret ?_
  subst hR
  exact ⟨.inl rfl, rfl⟩
 ·
  replace hR := of_false h1 hR
  refine Awp.skip ?_
  refine Awp.consP C ?_
  refine rvP C (sS (some true) (eI .u8) []) ?_
  refine rvc_nil ?_
  refine Awp.seq ?_
  refine Awp.consP C ?_
  refine rvP C (.ptr 1 0) ?_
  refine rvP C (.pv (.lit (.int .i64 c.kind))) ?_
  refine rvP C (.ptr 1 1) ?_
  refine rvP C (.pv (.lit (.int .i64 c.node))) ?_
  refine rvP C (.ptr 1 2) ?_
  refine rvP C (.pv (.lit (.int .i64 c.site))) ?_
  refine rvP C (.ptr 1 3) ?_
  refine rvP C (.pv (.lit (.int .i64 c.epoch))) ?_
  refine rvc_un (rexec_buildSliceF C (eI .i64) [c.kind, c.node, c.site, c.epoch] rfl rfl rfl rfl rfl rfl rfl (by decide) rfl ?_)
  refine rvP C (.pv (.lit (.int .i64 4))) ?_
  refine rvP C (.pv (.lit (.int .i64 0))) ?_
  refine rvc_nil ?_
  refine Awp.block ?_
  refine Awp.rounds 5 ?_
  refine Arounds.succ ?_
  refine Awp.consP C ?_
  refine rvP C (.pv (.lit (.bool true))) ?_
  refine rvc_nil ?_
  refine Awp.seq ?_
  refine Awp.condT (b := true) rfl rfl ?_
  refine Awp.skip ?_
  refine Awp.seq ?_
  refine Awp.block ?_
  refine Awp.consP C ?_
  have h2 : [c.kind, c.node, c.site, c.epoch][0]? = some c.kind := rfl
  refine rvc_un (rexec_idxS C rfl rfl rfl rfl rfl rfl c.kind (Int.natCast_nonneg _) h2 ?_)
  refine rvP C (.pv (.lit (.int .i64 c.kind))) ?_
  refine rvP C (.pv (.lit (.int .i64 c.kind))) ?_
  refine rvc_nil ?_
  refine Awp.regionP C ?_
  refine rvP C (sS (some true) (eI .u8) []) ?_
  refine rvP C (.pv (.lit (.int .i64 c.kind))) ?_
  refine rvP C (.pv (.lit (.int .u64 (IntKind.u64.wrap c.kind)))) ?_
  refine rvc_un (rexec_buildSliceF C (eI .u64) [(IntKind.u64.wrap c.kind)] rfl rfl rfl rfl rfl rfl rfl (by decide) rfl ?_)
  refine rvc_un (rexec_call hP C rfl rfl rfl (wPut_calls (Sl.mk true []) (IntKind.u64.wrap c.kind) (wrap_lt64 _) (by simp)) ?_)
  refine rvP C (sS (some (wPut (Sl.mk true []) (IntKind.u64.wrap c.kind)).nil) (eI .u8) ((wPut (Sl.mk true []) (IntKind.u64.wrap c.kind)).D)) ?_
  refine rvc_nil ?_
  refine Awp.regionP C ?_
  refine rvP C (.pv (.lit (.int .i64 1))) ?_
  refine rvP C (.pv (.lit (.int .i64 1))) ?_
  refine rvc_nil ?_
  refine Arounds.succ ?_
  refine Awp.consP C ?_
  refine rvP C (.pv (.lit (.bool true))) ?_
  refine rvc_nil ?_
  refine Awp.seq ?_
  refine Awp.condT (b := true) rfl rfl ?_
  refine Awp.skip ?_
  refine Awp.seq ?_
  refine Awp.block ?_
  refine Awp.consP C ?_
  have h3 : [c.kind, c.node, c.site, c.epoch][1]? = some c.node := rfl
  refine rvc_un (rexec_idxS C rfl rfl rfl rfl rfl rfl c.node (Int.natCast_nonneg _) h3 ?_)
  refine rvP C (.pv (.lit (.int .i64 c.node))) ?_
  refine rvP C (.pv (.lit (.int .i64 c.node))) ?_
  refine rvc_nil ?_
  refine Awp.regionP C ?_
  refine rvP C (sS (some (wPut (Sl.mk true []) (IntKind.u64.wrap c.kind)).nil) (eI .u8) ((wPut (Sl.mk true []) (IntKind.u64.wrap c.kind)).D)) ?_
  refine rvP C (.pv (.lit (.int .i64 c.node))) ?_
  refine rvP C (.pv (.lit (.int .u64 (IntKind.u64.wrap c.node)))) ?_
  refine rvc_un (rexec_buildSliceF C (eI .u64) [(IntKind.u64.wrap c.node)] rfl rfl rfl rfl rfl rfl rfl (by decide) rfl ?_)
  refine rvc_un (rexec_call hP C rfl rfl rfl (wPut_calls (wPut (Sl.mk true []) (IntKind.u64.wrap c.kind)) (IntKind.u64.wrap c.node) (wrap_lt64 _) (by show ((wPut (Sl.mk true []) (IntKind.u64.wrap c.kind)).D).length ≤ 1000000; have := wPut_len (Sl.mk true []) (IntKind.u64.wrap c.kind) (wrap_lt64 _); (try dsimp only [List.length_nil] at this); have := eq_of_bne_false h1; omega)) ?_)
  refine rvP C (sS (some (wPut (wPut (Sl.mk true []) (IntKind.u64.wrap c.kind)) (IntKind.u64.wrap c.node)).nil) (eI .u8) ((wPut (wPut (Sl.mk true []) (IntKind.u64.wrap c.kind)) (IntKind.u64.wrap c.node)).D)) ?_
  refine rvc_nil ?_
  refine Awp.regionP C ?_
  refine rvP C (.pv (.lit (.int .i64 2))) ?_
  refine rvP C (.pv (.lit (.int .i64 2))) ?_
  refine rvc_nil ?_
  refine Arounds.succ ?_
  refine Awp.consP C ?_
  refine rvP C (.pv (.lit (.bool true))) ?_
  refine rvc_nil ?_
  refine Awp.seq ?_
  refine Awp.condT (b := true) rfl rfl ?_
  refine Awp.skip ?_
  refine Awp.seq ?_
  refine Awp.block ?_
  refine Awp.consP C ?_
  have h4 : [c.kind, c.node, c.site, c.epoch][2]? = some c.site := rfl
  refine rvc_un (rexec_idxS C rfl rfl rfl rfl rfl rfl c.site (Int.natCast_nonneg _) h4 ?_)
  refine rvP C (.pv (.lit (.int .i64 c.site))) ?_
  refine rvP C (.pv (.lit (.int .i64 c.site))) ?_
  refine rvc_nil ?_
  refine Awp.regionP C ?_
  refine rvP C (sS (some (wPut (wPut (Sl.mk true []) (IntKind.u64.wrap c.kind)) (IntKind.u64.wrap c.node)).nil) (eI .u8) ((wPut (wPut (Sl.mk true []) (IntKind.u64.wrap c.kind)) (IntKind.u64.wrap c.node)).D)) ?_
  refine rvP C (.pv (.lit (.int .i64 c.site))) ?_
  refine rvP C (.pv (.lit (.int .u64 (IntKind.u64.wrap c.site)))) ?_
  refine rvc_un (rexec_buildSliceF C (eI .u64) [(IntKind.u64.wrap c.site)] rfl rfl rfl rfl rfl rfl rfl (by decide) rfl ?_)
  refine rvc_un (rexec_call hP C rfl rfl rfl (wPut_calls (wPut (wPut (Sl.mk true []) (IntKind.u64.wrap c.kind)) (IntKind.u64.wrap c.node)) (IntKind.u64.wrap c.site) (wrap_lt64 _) (by show ((wPut (wPut (Sl.mk true []) (IntKind.u64.wrap c.kind)) (IntKind.u64.wrap c.node)).D).length ≤ 1000000; have := wPut_len (Sl.mk true []) (IntKind.u64.wrap c.kind) (wrap_lt64 _); (try dsimp only [List.length_nil] at this); have := wPut_len (wPut (Sl.mk true []) (IntKind.u64.wrap c.kind)) (IntKind.u64.wrap c.node) (wrap_lt64 _); (try dsimp only [List.length_nil] at this); have := eq_of_bne_false h1; omega)) ?_)
  refine rvP C (sS (some (wPut (wPut (wPut (Sl.mk true []) (IntKind.u64.wrap c.kind)) (IntKind.u64.wrap c.node)) (IntKind.u64.wrap c.site)).nil) (eI .u8) ((wPut (wPut (wPut (Sl.mk true []) (IntKind.u64.wrap c.kind)) (IntKind.u64.wrap c.node)) (IntKind.u64.wrap c.site)).D)) ?_
  refine rvc_nil ?_
  refine Awp.regionP C ?_
  refine rvP C (.pv (.lit (.int .i64 3))) ?_
  refine rvP C (.pv (.lit (.int .i64 3))) ?_
  refine rvc_nil ?_
  refine Arounds.succ ?_
  refine Awp.consP C ?_
  refine rvP C (.pv (.lit (.bool true))) ?_
  refine rvc_nil ?_
  refine Awp.seq ?_
  refine Awp.condT (b := true) rfl rfl ?_
  refine Awp.skip ?_
  refine Awp.seq ?_
  refine Awp.block ?_
  refine Awp.consP C ?_
  have h5 : [c.kind, c.node, c.site, c.epoch][3]? = some c.epoch := rfl
  refine rvc_un (rexec_idxS C rfl rfl rfl rfl rfl rfl c.epoch (Int.natCast_nonneg _) h5 ?_)
  refine rvP C (.pv (.lit (.int .i64 c.epoch))) ?_
  refine rvP C (.pv (.lit (.int .i64 c.epoch))) ?_
  refine rvc_nil ?_
  refine Awp.regionP C ?_
  refine rvP C (sS (some (wPut (wPut (wPut (Sl.mk true []) (IntKind.u64.wrap c.kind)) (IntKind.u64.wrap c.node)) (IntKind.u64.wrap c.site)).nil) (eI .u8) ((wPut (wPut (wPut (Sl.mk true []) (IntKind.u64.wrap c.kind)) (IntKind.u64.wrap c.node)) (IntKind.u64.wrap c.site)).D)) ?_
  refine rvP C (.pv (.lit (.int .i64 c.epoch))) ?_
  refine rvP C (.pv (.lit (.int .u64 (IntKind.u64.wrap c.epoch)))) ?_
  refine rvc_un (rexec_buildSliceF C (eI .u64) [(IntKind.u64.wrap c.epoch)] rfl rfl rfl rfl rfl rfl rfl (by decide) rfl ?_)
  refine rvc_un (rexec_call hP C rfl rfl rfl (wPut_calls (wPut (wPut (wPut (Sl.mk true []) (IntKind.u64.wrap c.kind)) (IntKind.u64.wrap c.node)) (IntKind.u64.wrap c.site)) (IntKind.u64.wrap c.epoch) (wrap_lt64 _) (by show ((wPut (wPut (wPut (Sl.mk true []) (IntKind.u64.wrap c.kind)) (IntKind.u64.wrap c.node)) (IntKind.u64.wrap c.site)).D).length ≤ 1000000; have := wPut_len (Sl.mk true []) (IntKind.u64.wrap c.kind) (wrap_lt64 _); (try dsimp only [List.length_nil] at this); have := wPut_len (wPut (Sl.mk true []) (IntKind.u64.wrap c.kind)) (IntKind.u64.wrap c.node) (wrap_lt64 _); (try dsimp only [List.length_nil] at this); have := wPut_len (wPut (wPut (Sl.mk true []) (IntKind.u64.wrap c.kind)) (IntKind.u64.wrap c.node)) (IntKind.u64.wrap c.site) (wrap_lt64 _); (try dsimp only [List.length_nil] at this); have := eq_of_bne_false h1; omega)) ?_)
  refine rvP C (sS (some (wPut (wPut (wPut (wPut (Sl.mk true []) (IntKind.u64.wrap c.kind)) (IntKind.u64.wrap c.node)) (IntKind.u64.wrap c.site)) (IntKind.u64.wrap c.epoch)).nil) (eI .u8) ((wPut (wPut (wPut (wPut (Sl.mk true []) (IntKind.u64.wrap c.kind)) (IntKind.u64.wrap c.node)) (IntKind.u64.wrap c.site)) (IntKind.u64.wrap c.epoch)).D)) ?_
  refine rvc_nil ?_
  refine Awp.regionP C ?_
  refine rvP C (.pv (.lit (.int .i64 4))) ?_
  refine rvP C (.pv (.lit (.int .i64 4))) ?_
  refine rvc_nil ?_
  refine Arounds.succ ?_
  refine Awp.consP C ?_
  refine rvP C (.pv (.lit (.bool false))) ?_
  refine rvc_nil ?_
  refine Awp.seq ?_
  refine Awp.condF (b := false) rfl rfl ?_
  refine Awp.exit ?_
  refine Awp.consP C ?_
  refine rvP C (sS (some (wPut (wPut (wPut (wPut (Sl.mk true []) (IntKind.u64.wrap c.kind)) (IntKind.u64.wrap c.node)) (IntKind.u64.wrap c.site)) (IntKind.u64.wrap c.epoch)).nil) (eI .u8) ((wPut (wPut (wPut (wPut (Sl.mk true []) (IntKind.u64.wrap c.kind)) (IntKind.u64.wrap c.node)) (IntKind.u64.wrap c.site)) (IntKind.u64.wrap c.epoch)).D)) ?_
  refine rvP C (sS (some (wPut (wPut (wPut (wPut (Sl.mk true []) (IntKind.u64.wrap c.kind)) (IntKind.u64.wrap c.node)) (IntKind.u64.wrap c.site)) (IntKind.u64.wrap c.epoch)).nil) (eI .u8) ((wPut (wPut (wPut (wPut (Sl.mk true []) (IntKind.u64.wrap c.kind)) (IntKind.u64.wrap c.node)) (IntKind.u64.wrap c.site)) (IntKind.u64.wrap c.epoch)).D)) ?_
  refine rvP C (.pv (.lit (.int .i64 0))) ?_
  refine rvc_nil ?_
  refine Awp.ret ?_
  subst hR
  exact ⟨.inl rfl, rfl⟩
def cmdGet (b : (Sl Int)) : Command × Int :=
  (bif ((rdEnd (rdIn (rdIn (rdIn (rdIn (rdNew b) 0 99).1 0 6).1 0 3).1 0 1099511627776).1) != 0) then ((Command.mk 0 0 0 0), 120) else (bif ((cmdCheck (Command.mk (rdIn (rdNew b) 0 99).2 (rdIn (rdIn (rdNew b) 0 99).1 0 6).2 (rdIn (rdIn (rdIn (rdNew b) 0 99).1 0 6).1 0 3).2 (rdIn (rdIn (rdIn (rdIn (rdNew b) 0 99).1 0 6).1 0 3).1 0 1099511627776).2)) != 0) then ((Command.mk 0 0 0 0), 120) else ((Command.mk (rdIn (rdNew b) 0 99).2 (rdIn (rdIn (rdNew b) 0 99).1 0 6).2 (rdIn (rdIn (rdIn (rdNew b) 0 99).1 0 6).1 0 3).2 (rdIn (rdIn (rdIn (rdIn (rdNew b) 0 99).1 0 6).1 0 3).1 0 1099511627776).2), 0)))
theorem cmdGet_calls (b : (Sl Int)) (hl1 : b.D.length ≤ 1000000) : PCalls Try.prog 58 [sS (some b.nil) (eI .u8) b.D] (.tup [.agg [.pv (.lit (.int .i64 ((cmdGet b).1.kind))), .pv (.lit (.int .i64 ((cmdGet b).1.node))), .pv (.lit (.int .i64 ((cmdGet b).1.site))), .pv (.lit (.int .i64 ((cmdGet b).1.epoch)))], .pv (.lit (.int .i64 ((cmdGet b).2)))]) := by
 generalize hR : cmdGet b = R
 refine PCalls.of_body tabOk Try.func58 rfl rfl rfl rfl rfl mixed fun E hP C hI => ?_
 refine Awp.consP C ?_
 refine rvc_un (rexec_prim C (δ := { v := .ptr 2 0, new := [(2, .cells [.pv (.lit (.int .i64 0)), .pv (.lit (.int .i64 0)), .pv (.lit (.int .i64 0)), .pv (.lit (.int .i64 0))])] }) rfl rfl rfl rfl trivial rfl ?_)
 refine rvP C (.pv (.lit (.int .i64 0))) ?_
 refine rvc_nil ?_
 refine Awp.cons C (fun _ => .quiet) (by kernel_rfl) ?_
 refine rvP C (sS (some b.nil) (eI .u8) b.D) ?_
 refine rvc_un (rexec_callO hP C rfl rfl rfl rfl (rdNew_calls b hl1) ?_)
 refine rvP C (.ptr 7 0) ?_
 refine rvc_nil ?_
 refine Awp.cons C (fun _ => .writer) (by kernel_rfl) ?_
 refine rvP C (.ptr 7 0) ?_
 obtain ⟨q1, hq_q1⟩ : ∃ q_, q_ = (rdIn (rdNew b) 0 99) := ⟨_, rfl⟩
 have hc_q1 := (rdIn_calls (rdNew b) 0 99 (rdNew_ok b hl1))
 first | rw [← hq_q1] at hR hc_q1 | (unfold cmdGet at hR; rw [← hq_q1] at hR hc_q1)
 have hf0_q1 := rdIn_ok (rdNew b) 0 99 (rdNew_ok b hl1)
 rw [← hq_q1] at hf0_q1
 refine rvc_un (rexec_callM hP C (b := 7) rfl rfl rfl hc_q1 rfl rfl ?_)
 refine rvP C (.ptr 7 0) ?_
 obtain ⟨q2, hq_q2⟩ : ∃ q_, q_ = (rdIn q1.1 0 6) := ⟨_, rfl⟩
 have hc_q2 := (rdIn_calls q1.1 0 6 hf0_q1)
 first | rw [← hq_q2] at hR hc_q2 | (unfold cmdGet at hR; rw [← hq_q2] at hR hc_q2)
 have hf0_q2 := rdIn_ok q1.1 0 6 hf0_q1
 rw [← hq_q2] at hf0_q2
 refine rvc_un (rexec_callM hP C (b := 7) rfl rfl rfl hc_q2 rfl rfl ?_)
 refine rvP C (.ptr 7 0) ?_
 obtain ⟨q3, hq_q3⟩ : ∃ q_, q_ = (rdIn q2.1 0 3) := ⟨_, rfl⟩
 have hc_q3 := (rdIn_calls q2.1 0 3 hf0_q2)
 first | rw [← hq_q3] at hR hc_q3 | (unfold cmdGet at hR; rw [← hq_q3] at hR hc_q3)
 have hf0_q3 := rdIn_ok q2.1 0 3 hf0_q2
 rw [← hq_q3] at hf0_q3
 refine rvc_un (rexec_callM hP C (b := 7) rfl rfl rfl hc_q3 rfl rfl ?_)
 refine rvP C (.ptr 7 0) ?_
 obtain ⟨q4, hq_q4⟩ : ∃ q_, q_ = (rdIn q3.1 0 1099511627776) := ⟨_, rfl⟩
 have hc_q4 := (rdIn_calls q3.1 0 1099511627776 hf0_q3)
 first | rw [← hq_q4] at hR hc_q4 | (unfold cmdGet at hR; rw [← hq_q4] at hR hc_q4)
 have hf0_q4 := rdIn_ok q3.1 0 1099511627776 hf0_q3
 rw [← hq_q4] at hf0_q4
 refine rvc_un (rexec_callM hP C (b := 7) rfl rfl rfl hc_q4 rfl rfl ?_)
 refine rvP C (.agg [.pv (.lit (.int .i64 q1.2)), .pv (.lit (.int .i64 q2.2)), .pv (.lit (.int .i64 q3.2)), .pv (.lit (.int .i64 q4.2))]) ?_
 refine rvc_un (rexec_prim C (δ := { v := .ptr 5 0, new := [(5, .cells [.pv (.lit (.int .i64 0)), .pv (.lit (.int .i64 0)), .pv (.lit (.int .i64 0)), .pv (.lit (.int .i64 0))])] }) rfl rfl rfl rfl trivial rfl ?_)
 refine rvc_un (rexec_prim C (δ := { v := .undef, wr := [(5, some (.cells [.pv (.lit (.int .i64 q1.2)), .pv (.lit (.int .i64 q2.2)), .pv (.lit (.int .i64 q3.2)), .pv (.lit (.int .i64 q4.2))]))] }) rfl rfl rfl rfl trivial rfl ?_)
 refine rvc_nil ?_
 refine Awp.seq ?_
 refine Awp.cons C (fun _ => .writer) (by kernel_rfl) ?_
 refine rvP C (.ptr 7 0) ?_
 refine rvc_un (rexec_callM hP C (b := 7) rfl rfl rfl (rdEnd_calls q4.1) rfl rfl ?_)
 refine rvP C (.pv (.lit (.bool ((rdEnd q4.1) != 0)))) ?_
 refine rvP C (.pv (.lit (.bool ((rdEnd q4.1) != 0)))) ?_
 refine rvc_case 20 ((rdEnd q4.1) != 0) rfl (fun h1 => ?_) (fun h1 => ?_)
 ·
  replace hR := of_true h1 hR
  refine rvS ?_
  refine rvS ?_
  refine rvS ?_
  refine rvP C (.pv (.lit (.bool true))) ?_
  refine rvc_nil ?_
  refine Awp.condT (b := true) rfl rfl ?_
  refine Awp.consP C ?_
  refine rvP C (.agg [.pv (.lit (.int .i64 0)), .pv (.lit (.int .i64 0)), .pv (.lit (.int .i64 0)), .pv (.lit (.int .i64 0))]) ?_
  refine rvc_un (rexec_prim C (δ := { v := .undef, wr := [(2, some (.cells [.pv (.lit (.int .i64 0)), .pv (.lit (.int .i64 0)), .pv (.lit (.int .i64 0)), .pv (.lit (.int .i64 0))]))] }) rfl rfl rfl rfl trivial rfl ?_)
  refine rvP C (.pv (.lit (.int .i64 120))) ?_
  refine rvc_nil ?_
  refine Awp.ret ?_
  subst hR
  exact ⟨.inl rfl, rfl⟩
 ·
  replace hR := of_false h1 hR
  refine rvO C (.agg [.pv (.lit (.int .i64 q1.2)), .pv (.lit (.int .i64 q2.2)), .pv (.lit (.int .i64 q3.2)), .pv (.lit (.int .i64 q4.2))]) ?_
  refine rvc_open rfl rfl rfl (rexec_call hP C rfl rfl rfl (cmdCheck_calls (Command.mk q1.2 q2.2 q3.2 q4.2)) ?_)
  refine rvO C (.pv (.lit (.bool ((cmdCheck (Command.mk q1.2 q2.2 q3.2 q4.2)) != 0)))) ?_
  refine rvP C (.pv (.lit (.bool ((cmdCheck (Command.mk q1.2 q2.2 q3.2 q4.2)) != 0)))) ?_
  refine rvc_nil ?_
  refine Awp.cond (b := ((cmdCheck (Command.mk q1.2 q2.2 q3.2 q4.2)) != 0)) rfl (fun h2 => ?_) (fun h2 => ?_)
  ·
   replace hR := of_true h2 hR
   refine Awp.consP C ?_
   refine rvP C (.agg [.pv (.lit (.int .i64 0)), .pv (.lit (.int .i64 0)), .pv (.lit (.int .i64 0)), .pv (.lit (.int .i64 0))]) ?_
   refine rvc_un (rexec_prim C (δ := { v := .undef, wr := [(2, some (.cells [.pv (.lit (.int .i64 0)), .pv (.lit (.int .i64 0)), .pv (.lit (.int .i64 0)), .pv (.lit (.int .i64 0))]))] }) rfl rfl rfl rfl trivial rfl ?_)
   refine rvP C (.pv (.lit (.int .i64 120))) ?_
   refine rvc_nil ?_
   refine Awp.ret ?_
   subst hR
   exact ⟨.inl rfl, rfl⟩
  ·
   replace hR := of_false h2 hR
   refine Awp.skip ?_
   refine Awp.consP C ?_
   refine rvP C (.agg [.pv (.lit (.int .i64 q1.2)), .pv (.lit (.int .i64 q2.2)), .pv (.lit (.int .i64 q3.2)), .pv (.lit (.int .i64 q4.2))]) ?_
   refine rvc_un (rexec_prim C (δ := { v := .undef, wr := [(2, some (.cells [.pv (.lit (.int .i64 q1.2)), .pv (.lit (.int .i64 q2.2)), .pv (.lit (.int .i64 q3.2)), .pv (.lit (.int .i64 q4.2))]))] }) rfl rfl rfl rfl trivial rfl ?_)
   refine rvP C (.pv (.lit (.int .i64 0))) ?_
   refine rvc_nil ?_
   refine Awp.ret ?_
   subst hR
   exact ⟨.inl rfl, rfl⟩
end Go.Proofs.Ytaffaalpgpepeaa
/- More changes of chains. No conditions. -/
namespace Go.Proofs.Ytaffaalpgpepeaa
open Go.Am
def dropSite_l0 (c : Chain) (site : Int) : List Member → Nat → Int → Chain × Int
  | [], _, gone => ((without c gone).1, (without c gone).2)
  | x :: xs, i, gone => (bif (x.site == site) then dropSite_l0 c site xs (i + 1) (mWith gone x.node) else dropSite_l0 c site xs (i + 1) gone)
def dropSite (c : Chain) (site : Int) : Chain × Int :=
  (bif ((check c) != 0) then ((Chain.mk 0 (Sl.mk true [])), (check c)) else dropSite_l0 c site c.members.D 0 0)
theorem dropSite_calls (c : Chain) (site : Int) (hl1 : c.members.D.length ≤ 1000000) : PCalls Try.prog 71 [.agg [.pv (.lit (.int .i64 c.epoch)), sS (some c.members.nil) eMember c.members.D], .pv (.lit (.int .i64 site))] (.tup [.agg [.pv (.lit (.int .i64 ((dropSite c site).1.epoch))), sS (some (dropSite c site).1.members.nil) eMember ((dropSite c site).1.members.D)], .pv (.lit (.int .i64 ((dropSite c site).2)))]) := by
 generalize hR : dropSite c site = R
 refine PCalls.of_body tabOk Try.func71 rfl rfl rfl rfl rfl mixed fun E hP C hI => ?_
 refine Awp.consP C ?_
 refine rvc_un (rexec_prim C (δ := { v := .ptr 2 0, new := [(2, .cells [.pv (.lit (.int .i64 c.epoch)), sS (some c.members.nil) eMember c.members.D])] }) rfl rfl rfl rfl trivial rfl ?_)
 refine rvc_un (rexec_prim C (δ := { v := .ptr 4 0, new := [(4, .cells [.pv (.lit (.int .i64 0)), sS (some true) eMember []])] }) rfl rfl rfl rfl trivial rfl ?_)
 refine rvP C (.pv (.lit (.int .i64 0))) ?_
 refine rvc_nil ?_
 refine Awp.seq ?_
 refine Awp.consP C ?_
 refine rvP C (.agg [.pv (.lit (.int .i64 c.epoch)), sS (some c.members.nil) eMember c.members.D]) ?_
 refine rvc_un (rexec_call hP C rfl rfl rfl (check_calls c (Nat.le_trans hl1 (by decide))) ?_)
 refine rvP C (.pv (.lit (.int .i64 (check c)))) ?_
 refine rvc_nil ?_
 refine Awp.consP C ?_
 refine rvP C (.pv (.lit (.int .i64 (check c)))) ?_
 refine rvP C (.pv (.lit (.bool ((check c) != 0)))) ?_
 refine rvc_nil ?_
 refine Awp.cond (b := ((check c) != 0)) rfl (fun h1 => ?_) (fun h1 => ?_)
 ·
  replace hR := of_true h1 hR
  refine Awp.consP C ?_
  refine rvP C (.agg [.pv (.lit (.int .i64 0)), sS (some true) eMember []]) ?_
  refine rvP C (.pv (.lit (.int .i64 (check c)))) ?_
  refine rvc_un (rexec_prim C (δ := { v := .undef, wr := [(4, some (.cells [.pv (.lit (.int .i64 0)), sS (some true) eMember []]))] }) rfl rfl rfl rfl trivial rfl ?_)
  refine rvP C (.pv (.lit (.int .i64 (check c)))) ?_
  refine rvc_nil ?_
  refine Awp.ret ?_
  subst hR
  exact ⟨.inl rfl, rfl⟩
 ·
  replace hR := of_false h1 hR
  refine Awp.skip ?_
  refine Awp.consP C ?_
  refine rvP C (.pv (.lit (.int .u64 0))) ?_
  refine rvc_nil ?_
  refine Awp.seq ?_
  refine Awp.consP C ?_
  refine rvP C (.ptr 2 1) ?_
  refine rvP C (sS (some c.members.nil) eMember c.members.D) ?_
  refine rvP C (.pv (.lit (.int .i64 (c.members.D.length : Int)))) ?_
  refine rvP C (.pv (.lit (.int .i64 0))) ?_
  refine rvc_nil ?_
  refine Awp.block ?_
  refine Awp.forR (σ := Int) (c.members.D.length) (fun i v => [(1, .pv (.lit (.int .i64 site))), (2, .ptr 2 0), (4, .ptr 4 0), (7, .pv (.lit (.int .u64 v))), (17, sS (some c.members.nil) eMember c.members.D), (18, .pv (.lit (.int .i64 (c.members.D.length : Int)))), (19, .pv (.lit (.int .i64 (i : Int))))]) (fun i v => [(2, .cells [.pv (.lit (.int .i64 c.epoch)), sS (some c.members.nil) eMember c.members.D]), (4, .cells [.pv (.lit (.int .i64 0)), sS (some true) eMember []])]) [2, 4] (fun i v => dropSite_l0 c site (c.members.D.drop i) i v = R) 0 ?_ ?_ (fun i gone h2 hR => ?_)
  · exact hR
  · exact ⟨fun b => b, WeakerR.ofL (Ks := [2, 4]) hI ⟨⟨rfl, rfl⟩, ⟨rfl, rfl⟩, ⟨rfl, rfl⟩, ⟨rfl, rfl⟩, ⟨rfl, rfl⟩, ⟨rfl, rfl⟩, ⟨rfl, rfl⟩, trivial⟩ (okH_cons rfl rfl rfl rfl (okH_cons rfl rfl rfl rfl (okH_nil))) rfl⟩
  refine Awp.consP C ?_
  refine rvP C (.pv (.lit (.bool (decide ((i : Int) < (c.members.D.length : Int)))))) ?_
  refine rvc_nil ?_
  refine Awp.seq ?_
  refine Awp.cond (b := (decide ((i : Int) < (c.members.D.length : Int)))) rfl (fun h3 => ?_) (fun h3 => ?_)
  ·
   have h4 : i < c.members.D.length := by have := of_decide_eq_true h3; omega
   obtain ⟨x, h5⟩ := getX h4
   rw [drop_at h5] at hR
   refine Awp.skip ?_
   refine Awp.seq ?_
   refine Awp.block ?_
   refine Awp.consP C ?_
   refine rvc_un (rexec_idxS C rfl rfl rfl rfl rfl rfl x (Int.natCast_nonneg _) h5 ?_)
   refine rvP C (.agg [.pv (.lit (.int .i64 x.node)), .pv (.lit (.int .i64 x.site)), .pv (.lit (.bool x.fresh))]) ?_
   refine rvc_un (rexec_prim C (δ := { v := .ptr 9 0, new := [(9, .cells [.pv (.lit (.int .i64 0)), .pv (.lit (.int .i64 0)), .pv (.lit (.bool false))])] }) rfl rfl rfl rfl trivial rfl ?_)
   refine rvc_un (rexec_prim C (δ := { v := .undef, wr := [(9, some (.cells [.pv (.lit (.int .i64 x.node)), .pv (.lit (.int .i64 x.site)), .pv (.lit (.bool x.fresh))]))] }) rfl rfl rfl rfl trivial rfl ?_)
   refine rvc_nil ?_
   refine Awp.consP C ?_
   refine rvP C (.ptr 9 1) ?_
   refine rvP C (.pv (.lit (.int .i64 x.site))) ?_
   refine rvP C (.pv (.lit (.int .i64 site))) ?_
   refine rvP C (.pv (.lit (.bool (x.site == site)))) ?_
   refine rvc_nil ?_
   refine Awp.cond (b := (x.site == site)) rfl (fun h6 => ?_) (fun h6 => ?_)
   ·
    replace hR := of_true h6 hR
    refine Awp.regionP C ?_
    refine rvP C (.pv (.lit (.int .u64 gone))) ?_
    refine rvP C (.ptr 9 0) ?_
    refine rvP C (.pv (.lit (.int .i64 x.node))) ?_
    refine rvc_un (rexec_call hP C rfl rfl rfl (mWith_calls gone x.node) ?_)
    refine rvP C (.pv (.lit (.int .u64 (mWith gone x.node)))) ?_
    refine rvc_nil ?_
    refine Awp.regionP C ?_
    refine rvP C (.pv (.lit (.int .i64 (IntKind.i64.wrap ((i : Int) + 1))))) ?_
    refine rvP C (.pv (.lit (.int .i64 (IntKind.i64.wrap ((i : Int) + 1))))) ?_
    refine rvc_nil ?_
    refine ⟨h4, (mWith gone x.node), ?_, ?_⟩
    · exact hR
    · exact ⟨fun b => b, WeakerR.ofL (Ks := [2, 4]) hI ⟨⟨rfl, rfl⟩, ⟨rfl, rfl⟩, ⟨rfl, rfl⟩, ⟨rfl, rfl⟩, ⟨rfl, rfl⟩, ⟨rfl, rfl⟩, ⟨lit_cast (wrap_i64 (by omega) (by omega)), rfl⟩, trivial⟩ (okH_cons rfl rfl rfl rfl (okH_cons rfl rfl rfl rfl (okH_nil))) rfl⟩
   ·
    replace hR := of_false h6 hR
    refine Awp.skip ?_
    refine Awp.regionP C ?_
    refine rvP C (.pv (.lit (.int .i64 (IntKind.i64.wrap ((i : Int) + 1))))) ?_
    refine rvP C (.pv (.lit (.int .i64 (IntKind.i64.wrap ((i : Int) + 1))))) ?_
    refine rvc_nil ?_
    refine ⟨h4, gone, ?_, ?_⟩
    · exact hR
    · exact ⟨fun b => b, WeakerR.ofL (Ks := [2, 4]) hI ⟨⟨rfl, rfl⟩, ⟨rfl, rfl⟩, ⟨rfl, rfl⟩, ⟨rfl, rfl⟩, ⟨rfl, rfl⟩, ⟨rfl, rfl⟩, ⟨lit_cast (wrap_i64 (by omega) (by omega)), rfl⟩, trivial⟩ (okH_cons rfl rfl rfl rfl (okH_cons rfl rfl rfl rfl (okH_nil))) rfl⟩
  ·
   have h4 : ¬ i < c.members.D.length := by have := of_decide_eq_false h3; omega
   rw [drop_end h4] at hR
   refine Awp.exit ?_
   refine Awp.consP C ?_
   refine rvP C (.agg [.pv (.lit (.int .i64 c.epoch)), sS (some c.members.nil) eMember c.members.D]) ?_
   refine rvP C (.pv (.lit (.int .u64 gone))) ?_
   refine rvc_un (rexec_call hP C rfl rfl rfl (without_calls c gone hl1) ?_)
   refine rvP C (.agg [.pv (.lit (.int .i64 ((without c gone).1.epoch))), sS (some (without c gone).1.members.nil) eMember ((without c gone).1.members.D)]) ?_
   refine rvP C (.pv (.lit (.int .i64 ((without c gone).2)))) ?_
   refine rvc_un (rexec_prim C (δ := { v := .undef, wr := [(4, some (.cells [.pv (.lit (.int .i64 ((without c gone).1.epoch))), sS (some (without c gone).1.members.nil) eMember ((without c gone).1.members.D)]))] }) rfl rfl rfl rfl trivial rfl ?_)
   refine rvP C (.pv (.lit (.int .i64 ((without c gone).2)))) ?_
   refine rvc_nil ?_
   refine Awp.ret ?_
   subst hR
   exact ⟨.inl rfl, rfl⟩
def again (c : Chain) (node : Int) : Chain × Int :=
  (bif ((check c) != 0) then ((Chain.mk 0 (Sl.mk true [])), (check c)) else (bif (decide ((placeIn c node) < 0)) then ((Chain.mk 0 (Sl.mk true [])), 81) else (bif (decide (c.epoch ≥ 1099511627776)) then ((Chain.mk 0 (Sl.mk true [])), 5) else ((after c (cloneMembers c.members)), 0))))
theorem again_calls (c : Chain) (node : Int) (hl1 : c.members.D.length ≤ 1000000) : PCalls Try.prog 72 [.agg [.pv (.lit (.int .i64 c.epoch)), sS (some c.members.nil) eMember c.members.D], .pv (.lit (.int .i64 node))] (.tup [.agg [.pv (.lit (.int .i64 ((again c node).1.epoch))), sS (some (again c node).1.members.nil) eMember ((again c node).1.members.D)], .pv (.lit (.int .i64 ((again c node).2)))]) := by
 generalize hR : again c node = R
 refine PCalls.of_body tabOk Try.func72 rfl rfl rfl rfl rfl mixed fun E hP C hI => ?_
 refine Awp.consP C ?_
 refine rvc_un (rexec_prim C (δ := { v := .ptr 2 0, new := [(2, .cells [.pv (.lit (.int .i64 c.epoch)), sS (some c.members.nil) eMember c.members.D])] }) rfl rfl rfl rfl trivial rfl ?_)
 refine rvc_un (rexec_prim C (δ := { v := .ptr 4 0, new := [(4, .cells [.pv (.lit (.int .i64 0)), sS (some true) eMember []])] }) rfl rfl rfl rfl trivial rfl ?_)
 refine rvP C (.pv (.lit (.int .i64 0))) ?_
 refine rvc_nil ?_
 refine Awp.seq ?_
 refine Awp.consP C ?_
 refine rvP C (.agg [.pv (.lit (.int .i64 c.epoch)), sS (some c.members.nil) eMember c.members.D]) ?_
 refine rvc_un (rexec_call hP C rfl rfl rfl (check_calls c (Nat.le_trans hl1 (by decide))) ?_)
 refine rvP C (.pv (.lit (.int .i64 (check c)))) ?_
 refine rvc_nil ?_
 refine Awp.consP C ?_
 refine rvP C (.pv (.lit (.int .i64 (check c)))) ?_
 refine rvP C (.pv (.lit (.bool ((check c) != 0)))) ?_
 refine rvc_nil ?_
 refine Awp.cond (b := ((check c) != 0)) rfl (fun h1 => ?_) (fun h1 => ?_)
 ·
  replace hR := of_true h1 hR
  refine Awp.consP C ?_
  refine rvP C (.agg [.pv (.lit (.int .i64 0)), sS (some true) eMember []]) ?_
  refine rvP C (.pv (.lit (.int .i64 (check c)))) ?_
  refine rvc_un (rexec_prim C (δ := { v := .undef, wr := [(4, some (.cells [.pv (.lit (.int .i64 0)), sS (some true) eMember []]))] }) rfl rfl rfl rfl trivial rfl ?_)
  refine rvP C (.pv (.lit (.int .i64 (check c)))) ?_
  refine rvc_nil ?_
  refine Awp.ret ?_
  subst hR
  exact ⟨.inl rfl, rfl⟩
 ·
  replace hR := of_false h1 hR
  refine Awp.skip ?_
  refine Awp.seq ?_
  refine Awp.block ?_
  refine Awp.consP C ?_
  refine rvP C (.agg [.pv (.lit (.int .i64 c.epoch)), sS (some c.members.nil) eMember c.members.D]) ?_
  refine rvP C (.pv (.lit (.int .i64 node))) ?_
  refine rvc_un (rexec_call hP C rfl rfl rfl (placeIn_calls c node (Nat.le_trans hl1 (by decide))) ?_)
  refine rvP C (.pv (.lit (.bool (decide ((placeIn c node) < 0))))) ?_
  refine rvP C (.pv (.lit (.bool (decide ((placeIn c node) < 0))))) ?_
  refine rvc_nil ?_
  refine Awp.cond (b := (decide ((placeIn c node) < 0))) rfl (fun h2 => ?_) (fun h2 => ?_)
  ·
   replace hR := of_true h2 hR
   refine Awp.consP C ?_
   refine rvP C (.agg [.pv (.lit (.int .i64 0)), sS (some true) eMember []]) ?_
   refine rvc_un (rexec_prim C (δ := { v := .undef, wr := [(4, some (.cells [.pv (.lit (.int .i64 0)), sS (some true) eMember []]))] }) rfl rfl rfl rfl trivial rfl ?_)
   refine rvP C (.pv (.lit (.int .i64 81))) ?_
   refine rvc_nil ?_
   refine Awp.ret ?_
   subst hR
   exact ⟨.inl rfl, rfl⟩
  ·
   replace hR := of_false h2 hR
   refine Awp.consP C ?_
   refine rvP C (.ptr 2 0) ?_
   refine rvP C (.pv (.lit (.int .i64 c.epoch))) ?_
   refine rvP C (.pv (.lit (.bool (decide (c.epoch ≥ 1099511627776))))) ?_
   refine rvP C (.pv (.lit (.bool (decide (c.epoch ≥ 1099511627776))))) ?_
   refine rvc_nil ?_
   refine Awp.cond (b := (decide (c.epoch ≥ 1099511627776))) rfl (fun h3 => ?_) (fun h3 => ?_)
   ·
    replace hR := of_true h3 hR
    refine Awp.consP C ?_
    refine rvP C (.agg [.pv (.lit (.int .i64 0)), sS (some true) eMember []]) ?_
    refine rvc_un (rexec_prim C (δ := { v := .undef, wr := [(4, some (.cells [.pv (.lit (.int .i64 0)), sS (some true) eMember []]))] }) rfl rfl rfl rfl trivial rfl ?_)
    refine rvP C (.pv (.lit (.int .i64 5))) ?_
    refine rvc_nil ?_
    refine Awp.ret ?_
    subst hR
    exact ⟨.inl rfl, rfl⟩
   ·
    replace hR := of_false h3 hR
    refine Awp.skip ?_
    refine Awp.consP C ?_
    refine rvP C (.agg [.pv (.lit (.int .i64 c.epoch)), sS (some c.members.nil) eMember c.members.D]) ?_
    refine rvP C (.ptr 2 1) ?_
    refine rvP C (sS (some c.members.nil) eMember c.members.D) ?_
    refine rvc_un (rexec_call hP C rfl rfl rfl (cloneMembers_calls c.members hl1) ?_)
    refine rvc_un (rexec_call hP C rfl rfl rfl (after_calls c (cloneMembers c.members)) ?_)
    refine rvc_un (rexec_prim C (δ := { v := .undef, wr := [(4, some (.cells [.pv (.lit (.int .i64 ((after c (cloneMembers c.members)).epoch))), sS (some (after c (cloneMembers c.members)).members.nil) eMember ((after c (cloneMembers c.members)).members.D)]))] }) rfl rfl rfl rfl trivial rfl ?_)
    refine rvP C (.pv (.lit (.int .i64 0))) ?_
    refine rvc_nil ?_
    refine Awp.ret ?_
    subst hR
    exact ⟨.inl rfl, rfl⟩
end Go.Proofs.Ytaffaalpgpepeaa
/- The ledger: small functions. No conditions. -/
namespace Go.Proofs.Ytaffaalpgpepeaa
open Go.Am
structure Past where
  all : (Sl Chain)
  deriving Inhabited
structure Ledger where
  past : Past
  chain : Chain
  at_ : Int
  deriving Inhabited
def copied (c : Chain) : Chain :=
  (Chain.mk c.epoch (cloneMembers c.members))
theorem copied_calls (c : Chain) (hl1 : c.members.D.length ≤ 1000000) : PCalls Try.prog 56 [.agg [.pv (.lit (.int .i64 c.epoch)), sS (some c.members.nil) eMember c.members.D]] (.agg [.pv (.lit (.int .i64 ((copied c).epoch))), sS (some (copied c).members.nil) eMember ((copied c).members.D)]) := by
 generalize hR : copied c = R
 refine PCalls.of_body tabOk Try.func56 rfl rfl rfl rfl rfl mixed fun E hP C hI => ?_
 refine Awp.consP C ?_
 refine rvc_un (rexec_prim C (δ := { v := .ptr 1 0, new := [(1, .cells [.pv (.lit (.int .i64 c.epoch)), sS (some c.members.nil) eMember c.members.D])] }) rfl rfl rfl rfl trivial rfl ?_)
 refine rvc_un (rexec_prim C (δ := { v := .ptr 2 0, new := [(2, .cells [.pv (.lit (.int .i64 0)), sS (some true) eMember []])] }) rfl rfl rfl rfl trivial rfl ?_)
 refine rvc_nil ?_
 refine Awp.consP C ?_
 refine rvP C (.ptr 1 1) ?_
 refine rvP C (sS (some c.members.nil) eMember c.members.D) ?_
 refine rvc_un (rexec_call hP C rfl rfl rfl (cloneMembers_calls c.members hl1) ?_)
 refine rvP C (.ptr 1 1) ?_
 refine rvc_un (rexec_prim C (δ := { v := .undef, wr := [(1, some (.cells [.pv (.lit (.int .i64 c.epoch)), sS (some (cloneMembers c.members).nil) eMember ((cloneMembers c.members).D)]))] }) rfl rfl rfl rfl trivial rfl ?_)
 refine rvc_nil ?_
 refine Awp.consP C ?_
 refine rvP C (.agg [.pv (.lit (.int .i64 c.epoch)), sS (some (cloneMembers c.members).nil) eMember ((cloneMembers c.members).D)]) ?_
 refine rvc_un (rexec_prim C (δ := { v := .undef, wr := [(2, some (.cells [.pv (.lit (.int .i64 c.epoch)), sS (some (cloneMembers c.members).nil) eMember ((cloneMembers c.members).D)]))] }) rfl rfl rfl rfl trivial rfl ?_)
 refine rvc_nil ?_
 refine Awp.ret ?_
 subst hR
 exact ⟨.inl rfl, rfl⟩
def nextL (c : Chain) (k : Command) : Chain × Int :=
  (bif (k.epoch != c.epoch) then ((Chain.mk 0 (Sl.mk true [])), 150) else (bif (k.kind == 1) then ((drop c k.node).1, (drop c k.node).2) else (bif (k.kind == 5) then ((dropSite c k.site).1, (dropSite c k.site).2) else (bif (k.kind == 2) then ((join c (Member.mk k.node k.site false)).1, (join c (Member.mk k.node k.site false)).2) else (bif (k.kind == 3) then ((again c k.node).1, (again c k.node).2) else ((ready c k.node).1, (ready c k.node).2))))))
theorem nextL_calls (c : Chain) (k : Command) (hn : c.members.nil = true → c.members.D = []) (hl1 : c.members.D.length ≤ 1000000) : PCalls Try.prog 59 [.agg [.pv (.lit (.int .i64 c.epoch)), sS (some c.members.nil) eMember c.members.D], .agg [.pv (.lit (.int .i64 k.kind)), .pv (.lit (.int .i64 k.node)), .pv (.lit (.int .i64 k.site)), .pv (.lit (.int .i64 k.epoch))]] (.tup [.agg [.pv (.lit (.int .i64 ((nextL c k).1.epoch))), sS (some (nextL c k).1.members.nil) eMember ((nextL c k).1.members.D)], .pv (.lit (.int .i64 ((nextL c k).2)))]) := by
 generalize hR : nextL c k = R
 refine PCalls.of_body tabOk Try.func59 rfl rfl rfl rfl rfl mixed fun E hP C hI => ?_
 refine Awp.consP C ?_
 refine rvc_un (rexec_prim C (δ := { v := .ptr 2 0, new := [(2, .cells [.pv (.lit (.int .i64 c.epoch)), sS (some c.members.nil) eMember c.members.D])] }) rfl rfl rfl rfl trivial rfl ?_)
 refine rvc_un (rexec_prim C (δ := { v := .ptr 3 0, new := [(3, .cells [.pv (.lit (.int .i64 k.kind)), .pv (.lit (.int .i64 k.node)), .pv (.lit (.int .i64 k.site)), .pv (.lit (.int .i64 k.epoch))])] }) rfl rfl rfl rfl trivial rfl ?_)
 refine rvc_un (rexec_prim C (δ := { v := .ptr 4 0, new := [(4, .cells [.pv (.lit (.int .i64 0)), sS (some true) eMember []])] }) rfl rfl rfl rfl trivial rfl ?_)
 refine rvP C (.pv (.lit (.int .i64 0))) ?_
 refine rvc_nil ?_
 refine Awp.seq ?_
 refine Awp.consP C ?_
 refine rvP C (.ptr 3 3) ?_
 refine rvP C (.pv (.lit (.int .i64 k.epoch))) ?_
 refine rvP C (.ptr 2 0) ?_
 refine rvP C (.pv (.lit (.int .i64 c.epoch))) ?_
 refine rvP C (.pv (.lit (.bool (k.epoch != c.epoch)))) ?_
 refine rvc_nil ?_
 refine Awp.cond (b := (k.epoch != c.epoch)) rfl (fun h1 => ?_) (fun h1 => ?_)
 ·
  replace hR := of_true h1 hR
  refine Awp.consP C ?_
  refine rvP C (.agg [.pv (.lit (.int .i64 0)), sS (some true) eMember []]) ?_
  refine rvc_un (rexec_prim C (δ := { v := .undef, wr := [(4, some (.cells [.pv (.lit (.int .i64 0)), sS (some true) eMember []]))] }) rfl rfl rfl rfl trivial rfl ?_)
  refine rvP C (.pv (.lit (.int .i64 150))) ?_
  refine rvc_nil ?_
  refine Awp.ret ?_
  subst hR
  exact ⟨.inl rfl, rfl⟩
 ·
  replace hR := of_false h1 hR
  refine Awp.skip ?_
  refine Awp.seq ?_
  refine Awp.consP C ?_
  refine rvP C (.ptr 3 0) ?_
  refine rvP C (.pv (.lit (.int .i64 k.kind))) ?_
  refine rvc_nil ?_
  refine Awp.block ?_
  refine Awp.consP C ?_
  refine rvP C (.pv (.lit (.bool (k.kind == 1)))) ?_
  refine rvP C (.pv (.lit (.bool (k.kind == 1)))) ?_
  refine rvc_nil ?_
  refine Awp.cond (b := (k.kind == 1)) rfl (fun h2 => ?_) (fun h2 => ?_)
  ·
   replace hR := of_true h2 hR
   refine Awp.consP C ?_
   refine rvP C (.agg [.pv (.lit (.int .i64 c.epoch)), sS (some c.members.nil) eMember c.members.D]) ?_
   refine rvP C (.ptr 3 1) ?_
   refine rvP C (.pv (.lit (.int .i64 k.node))) ?_
   refine rvc_un (rexec_call hP C rfl rfl rfl (drop_calls c k.node hl1) ?_)
   refine rvP C (.agg [.pv (.lit (.int .i64 ((drop c k.node).1.epoch))), sS (some (drop c k.node).1.members.nil) eMember ((drop c k.node).1.members.D)]) ?_
   refine rvP C (.pv (.lit (.int .i64 ((drop c k.node).2)))) ?_
   refine rvc_un (rexec_prim C (δ := { v := .undef, wr := [(4, some (.cells [.pv (.lit (.int .i64 ((drop c k.node).1.epoch))), sS (some (drop c k.node).1.members.nil) eMember ((drop c k.node).1.members.D)]))] }) rfl rfl rfl rfl trivial rfl ?_)
   refine rvP C (.pv (.lit (.int .i64 ((drop c k.node).2)))) ?_
   refine rvc_nil ?_
   refine Awp.ret ?_
   subst hR
   exact ⟨.inl rfl, rfl⟩
  ·
   replace hR := of_false h2 hR
   refine Awp.consP C ?_
   refine rvP C (.pv (.lit (.bool (k.kind == 5)))) ?_
   refine rvP C (.pv (.lit (.bool (k.kind == 5)))) ?_
   refine rvc_nil ?_
   refine Awp.cond (b := (k.kind == 5)) rfl (fun h3 => ?_) (fun h3 => ?_)
   ·
    replace hR := of_true h3 hR
    refine Awp.consP C ?_
    refine rvP C (.agg [.pv (.lit (.int .i64 c.epoch)), sS (some c.members.nil) eMember c.members.D]) ?_
    refine rvP C (.ptr 3 2) ?_
    refine rvP C (.pv (.lit (.int .i64 k.site))) ?_
    refine rvc_un (rexec_call hP C rfl rfl rfl (dropSite_calls c k.site hl1) ?_)
    refine rvP C (.agg [.pv (.lit (.int .i64 ((dropSite c k.site).1.epoch))), sS (some (dropSite c k.site).1.members.nil) eMember ((dropSite c k.site).1.members.D)]) ?_
    refine rvP C (.pv (.lit (.int .i64 ((dropSite c k.site).2)))) ?_
    refine rvc_un (rexec_prim C (δ := { v := .undef, wr := [(4, some (.cells [.pv (.lit (.int .i64 ((dropSite c k.site).1.epoch))), sS (some (dropSite c k.site).1.members.nil) eMember ((dropSite c k.site).1.members.D)]))] }) rfl rfl rfl rfl trivial rfl ?_)
    refine rvP C (.pv (.lit (.int .i64 ((dropSite c k.site).2)))) ?_
    refine rvc_nil ?_
    refine Awp.ret ?_
    subst hR
    exact ⟨.inl rfl, rfl⟩
   ·
    replace hR := of_false h3 hR
    refine Awp.consP C ?_
    refine rvP C (.pv (.lit (.bool (k.kind == 2)))) ?_
    refine rvP C (.pv (.lit (.bool (k.kind == 2)))) ?_
    refine rvc_nil ?_
    refine Awp.cond (b := (k.kind == 2)) rfl (fun h4 => ?_) (fun h4 => ?_)
    ·
     replace hR := of_true h4 hR
     refine Awp.consP C ?_
     refine rvP C (.agg [.pv (.lit (.int .i64 c.epoch)), sS (some c.members.nil) eMember c.members.D]) ?_
     refine rvP C (.ptr 3 1) ?_
     refine rvP C (.pv (.lit (.int .i64 k.node))) ?_
     refine rvP C (.ptr 3 2) ?_
     refine rvP C (.pv (.lit (.int .i64 k.site))) ?_
     refine rvP C (.agg [.pv (.lit (.int .i64 k.node)), .pv (.lit (.int .i64 k.site)), .pv (.lit (.bool false))]) ?_
     refine rvc_un (rexec_call hP C rfl rfl rfl (join_calls c (Member.mk k.node k.site false) hn hl1) ?_)
     refine rvP C (.agg [.pv (.lit (.int .i64 ((join c (Member.mk k.node k.site false)).1.epoch))), sS (some (join c (Member.mk k.node k.site false)).1.members.nil) eMember ((join c (Member.mk k.node k.site false)).1.members.D)]) ?_
     refine rvP C (.pv (.lit (.int .i64 ((join c (Member.mk k.node k.site false)).2)))) ?_
     refine rvc_un (rexec_prim C (δ := { v := .undef, wr := [(4, some (.cells [.pv (.lit (.int .i64 ((join c (Member.mk k.node k.site false)).1.epoch))), sS (some (join c (Member.mk k.node k.site false)).1.members.nil) eMember ((join c (Member.mk k.node k.site false)).1.members.D)]))] }) rfl rfl rfl rfl trivial rfl ?_)
     refine rvP C (.pv (.lit (.int .i64 ((join c (Member.mk k.node k.site false)).2)))) ?_
     refine rvc_nil ?_
     refine Awp.ret ?_
     subst hR
     exact ⟨.inl rfl, rfl⟩
    ·
     replace hR := of_false h4 hR
     refine Awp.consP C ?_
     refine rvP C (.pv (.lit (.bool (k.kind == 3)))) ?_
     refine rvP C (.pv (.lit (.bool (k.kind == 3)))) ?_
     refine rvc_nil ?_
     refine Awp.cond (b := (k.kind == 3)) rfl (fun h5 => ?_) (fun h5 => ?_)
     ·
      replace hR := of_true h5 hR
      refine Awp.consP C ?_
      refine rvP C (.agg [.pv (.lit (.int .i64 c.epoch)), sS (some c.members.nil) eMember c.members.D]) ?_
      refine rvP C (.ptr 3 1) ?_
      refine rvP C (.pv (.lit (.int .i64 k.node))) ?_
      refine rvc_un (rexec_call hP C rfl rfl rfl (again_calls c k.node hl1) ?_)
      refine rvP C (.agg [.pv (.lit (.int .i64 ((again c k.node).1.epoch))), sS (some (again c k.node).1.members.nil) eMember ((again c k.node).1.members.D)]) ?_
      refine rvP C (.pv (.lit (.int .i64 ((again c k.node).2)))) ?_
      refine rvc_un (rexec_prim C (δ := { v := .undef, wr := [(4, some (.cells [.pv (.lit (.int .i64 ((again c k.node).1.epoch))), sS (some (again c k.node).1.members.nil) eMember ((again c k.node).1.members.D)]))] }) rfl rfl rfl rfl trivial rfl ?_)
      refine rvP C (.pv (.lit (.int .i64 ((again c k.node).2)))) ?_
      refine rvc_nil ?_
      refine Awp.ret ?_
      subst hR
      exact ⟨.inl rfl, rfl⟩
     ·
      replace hR := of_false h5 hR
      refine Awp.skip ?_
      refine Awp.consP C ?_
      refine rvP C (.agg [.pv (.lit (.int .i64 c.epoch)), sS (some c.members.nil) eMember c.members.D]) ?_
      refine rvP C (.ptr 3 1) ?_
      refine rvP C (.pv (.lit (.int .i64 k.node))) ?_
      refine rvc_un (rexec_call hP C rfl rfl rfl (ready_calls c k.node hn hl1) ?_)
      refine rvP C (.agg [.pv (.lit (.int .i64 ((ready c k.node).1.epoch))), sS (some (ready c k.node).1.members.nil) eMember ((ready c k.node).1.members.D)]) ?_
      refine rvP C (.pv (.lit (.int .i64 ((ready c k.node).2)))) ?_
      refine rvc_un (rexec_prim C (δ := { v := .undef, wr := [(4, some (.cells [.pv (.lit (.int .i64 ((ready c k.node).1.epoch))), sS (some (ready c k.node).1.members.nil) eMember ((ready c k.node).1.members.D)]))] }) rfl rfl rfl rfl trivial rfl ?_)
      refine rvP C (.pv (.lit (.int .i64 ((ready c k.node).2)))) ?_
      refine rvc_nil ?_
      refine Awp.ret ?_
      subst hR
      exact ⟨.inl rfl, rfl⟩
def lDead (l : Ledger) : Bool :=
  (l.chain.epoch == 0)
theorem lDead_calls (l : Ledger)  : MCalls Try.prog 55 [.ptr 0 0] (.cells [sS (some l.past.all.nil) eChain l.past.all.D, .pv (.lit (.int .i64 l.chain.epoch)), sS (some l.chain.members.nil) eMember l.chain.members.D, .pv (.lit (.int .i64 l.at_))]) (.pv (.lit (.bool (lDead l)))) (.cells [sS (some l.past.all.nil) eChain l.past.all.D, .pv (.lit (.int .i64 l.chain.epoch)), sS (some l.chain.members.nil) eMember l.chain.members.D, .pv (.lit (.int .i64 l.at_))]) := by
 generalize hR : lDead l = R
 refine MCalls.of_body tabOk Try.func55 rfl rfl rfl rfl rfl rfl rfl mixed fun E hP C hI => ?_
 refine Awp.consP C ?_
 refine rvP C (.pv (.lit (.bool false))) ?_
 refine rvc_nil ?_
 refine Awp.consP C ?_
 refine rvP C (.ptr 0 0) ?_
 refine rvc_un (rexec_eqPtr C false true (z := .pv (.lit (.bool false))) rfl rfl rfl rfl rfl rfl rfl rfl rfl ?_)
 refine rvP C (.pv (.lit (.bool false))) ?_
 refine rvO C (.ptr 0 0) ?_
 refine rvO C (.ptr 0 0) ?_
 refine rvO C (.ptr 0 1) ?_
 refine rvO C (.ptr 0 1) ?_
 refine rvO C (.pv (.lit (.int .i64 l.chain.epoch))) ?_
 refine rvO C (.pv (.lit (.bool (l.chain.epoch == 0)))) ?_
 refine rvP C (.pv (.lit (.bool (l.chain.epoch == 0)))) ?_
 refine rvP C (.pv (.lit (.bool (l.chain.epoch == 0)))) ?_
 refine rvc_nil ?_
 refine Awp.ret ?_
 subst hR
 exact ⟨.inl rfl, rfl, rfl⟩
def lAt (l : Ledger) : Int :=
  (bif (lDead l) then 0 else l.at_)
theorem lAt_calls (l : Ledger)  : MCalls Try.prog 33 [.ptr 0 0] (.cells [sS (some l.past.all.nil) eChain l.past.all.D, .pv (.lit (.int .i64 l.chain.epoch)), sS (some l.chain.members.nil) eMember l.chain.members.D, .pv (.lit (.int .i64 l.at_))]) (.pv (.lit (.int .i64 (lAt l)))) (.cells [sS (some l.past.all.nil) eChain l.past.all.D, .pv (.lit (.int .i64 l.chain.epoch)), sS (some l.chain.members.nil) eMember l.chain.members.D, .pv (.lit (.int .i64 l.at_))]) := by
 generalize hR : lAt l = R
 refine MCalls.of_body tabOk Try.func33 rfl rfl rfl rfl rfl rfl rfl mixed fun E hP C hI => ?_
 refine Awp.consP C ?_
 refine rvP C (.pv (.lit (.int .i64 0))) ?_
 refine rvc_nil ?_
 refine Awp.seq ?_
 refine Awp.cons C (fun _ => .writer) (by kernel_rfl) ?_
 refine rvP C (.ptr 0 0) ?_
 refine rvc_un (rexec_callM hP C (b := 0) rfl rfl rfl (lDead_calls l) rfl rfl ?_)
 refine rvc_nil ?_
 refine Awp.cond (b := (lDead l)) rfl (fun h1 => ?_) (fun h1 => ?_)
 ·
  replace hR := of_true h1 hR
  refine Awp.consP C ?_
  refine rvP C (.pv (.lit (.int .i64 0))) ?_
  refine rvc_nil ?_
  refine Awp.ret ?_
  subst hR
  exact ⟨.inl rfl, rfl, rfl⟩
 ·
  replace hR := of_false h1 hR
  refine Awp.skip ?_
  refine Awp.consP C ?_
  refine rvP C (.ptr 0 0) ?_
  refine rvP C (.ptr 0 0) ?_
  refine rvP C (.ptr 0 3) ?_
  refine rvP C (.pv (.lit (.int .i64 l.at_))) ?_
  refine rvP C (.pv (.lit (.int .i64 l.at_))) ?_
  refine rvc_nil ?_
  refine Awp.ret ?_
  subst hR
  exact ⟨.inl rfl, rfl, rfl⟩
def lChain (l : Ledger) : Chain :=
  (bif (lDead l) then (Chain.mk 0 (Sl.mk true [])) else (copied l.chain))
theorem lChain_calls (l : Ledger) (hl1 : l.chain.members.D.length ≤ 1000000) : MCalls Try.prog 30 [.ptr 0 0] (.cells [sS (some l.past.all.nil) eChain l.past.all.D, .pv (.lit (.int .i64 l.chain.epoch)), sS (some l.chain.members.nil) eMember l.chain.members.D, .pv (.lit (.int .i64 l.at_))]) (.agg [.pv (.lit (.int .i64 ((lChain l).epoch))), sS (some (lChain l).members.nil) eMember ((lChain l).members.D)]) (.cells [sS (some l.past.all.nil) eChain l.past.all.D, .pv (.lit (.int .i64 l.chain.epoch)), sS (some l.chain.members.nil) eMember l.chain.members.D, .pv (.lit (.int .i64 l.at_))]) := by
 generalize hR : lChain l = R
 refine MCalls.of_body tabOk Try.func30 rfl rfl rfl rfl rfl rfl rfl mixed fun E hP C hI => ?_
 refine Awp.consP C ?_
 refine rvc_un (rexec_prim C (δ := { v := .ptr 2 0, new := [(2, .cells [.pv (.lit (.int .i64 0)), sS (some true) eMember []])] }) rfl rfl rfl rfl trivial rfl ?_)
 refine rvc_nil ?_
 refine Awp.seq ?_
 refine Awp.cons C (fun _ => .writer) (by kernel_rfl) ?_
 refine rvP C (.ptr 0 0) ?_
 refine rvc_un (rexec_callM hP C (b := 0) rfl rfl rfl (lDead_calls l) rfl rfl ?_)
 refine rvc_nil ?_
 refine Awp.cond (b := (lDead l)) rfl (fun h1 => ?_) (fun h1 => ?_)
 ·
  replace hR := of_true h1 hR
  refine Awp.consP C ?_
  refine rvP C (.agg [.pv (.lit (.int .i64 0)), sS (some true) eMember []]) ?_
  refine rvc_un (rexec_prim C (δ := { v := .undef, wr := [(2, some (.cells [.pv (.lit (.int .i64 0)), sS (some true) eMember []]))] }) rfl rfl rfl rfl trivial rfl ?_)
  refine rvc_nil ?_
  refine Awp.ret ?_
  subst hR
  exact ⟨.inl rfl, rfl, rfl⟩
 ·
  replace hR := of_false h1 hR
  refine Awp.skip ?_
  refine Awp.consP C ?_
  refine rvP C (.ptr 0 0) ?_
  refine rvP C (.ptr 0 0) ?_
  refine rvP C (.ptr 0 1) ?_
  refine rvP C (.agg [.pv (.lit (.int .i64 l.chain.epoch)), sS (some l.chain.members.nil) eMember l.chain.members.D]) ?_
  refine rvc_un (rexec_call hP C rfl rfl rfl (copied_calls l.chain hl1) ?_)
  refine rvc_un (rexec_prim C (δ := { v := .undef, wr := [(2, some (.cells [.pv (.lit (.int .i64 ((copied l.chain).epoch))), sS (some (copied l.chain).members.nil) eMember ((copied l.chain).members.D)]))] }) rfl rfl rfl rfl trivial rfl ?_)
  refine rvc_nil ?_
  refine Awp.ret ?_
  subst hR
  exact ⟨.inl rfl, rfl, rfl⟩
end Go.Proofs.Ytaffaalpgpepeaa
/- Going through the bits of a set ends. No conditions. -/
namespace Go.Proofs.Ytaffaalpgpepeaa
open Go.Am
/-- How many bits are set. -/
def bitsN (n : Nat) : Nat := (List.range 64).countP fun k => n.testBit k
def allM (s : Int) : Nat := if 0 ≤ s ∧ s < 18446744073709551616 then bitsN s.toNat else 65
theorem bit_range (op : BinOp) (a b : Int) : 0 ≤ bitI op .u64 a b ∧ bitI op .u64 a b < 18446744073709551616 := by
  show 0 ≤ IntKind.u64.wrap _ ∧ IntKind.u64.wrap _ < _
  rw [wrap64]; omega
theorem count_lt {α : Type} (p q : α → Bool) : ∀ (l : List α), (∀ x ∈ l, p x = true → q x = true) → (∃ x ∈ l, q x = true ∧ p x = false) → l.countP p < l.countP q
  | [], _, h => by obtain ⟨_, h, _⟩ := h; cases h
  | y :: l, h1, h2 => by
    have hle := List.countP_mono_left fun x hx => h1 x (List.mem_cons_of_mem y hx)
    obtain ⟨x, hx, hq, hp⟩ := h2
    rw [List.countP_cons, List.countP_cons]
    cases hx with
    | head => rw [hq, hp]; simp; omega
    | tail _ hx =>
      have ih := count_lt p q l (fun z hz => h1 z (List.mem_cons_of_mem y hz)) ⟨x, hx, hq, hp⟩
      have := h1 y (List.mem_cons_self ..)
      cases hpy : p y
      · simp; omega
      · rw [this hpy]; simp; omega
theorem bitsN_le (n : Nat) : bitsN n ≤ 64 := by
  have := List.countP_le_length (p := fun k => n.testBit k) (l := List.range 64)
  rw [List.length_range] at this
  exact this
theorem allM_le (s : Int) : allM s ≤ 65 := by
  unfold allM
  split
  · have := bitsN_le s.toNat; omega
  · omega
theorem allM_lt {s : Int} (h : (s != 0) = true) : allM (bitI .and .u64 s (IntKind.u64.wrap (s - 1))) < allM s := by
  have hr := bit_range .and s (IntKind.u64.wrap (s - 1))
  unfold allM
  rw [if_pos hr]
  by_cases h0 : 0 ≤ s ∧ s < 18446744073709551616
  · rw [if_pos h0]
    have hne : s ≠ 0 := by simpa using h
    obtain ⟨n, rfl⟩ : ∃ n : Nat, s = (n : Int) := ⟨s.toNat, by omega⟩
    have e : IntKind.u64.wrap ((n : Int) - 1) = ((n - 1 : Nat) : Int) := by rw [wrap64]; omega
    rw [e, and64 (by omega) (by omega), Int.toNat_natCast, Int.toNat_natCast]
    have hlt : n &&& (n - 1) ≤ n - 1 := Nat.and_le_right
    refine count_lt _ _ _ (fun k _ hk => ?_) ?_
    · rw [Nat.testBit_and, Bool.and_eq_true] at hk; exact hk.1
    · apply Classical.byContradiction
      intro hno
      have : n &&& (n - 1) = n := Nat.eq_of_testBit_eq fun k => by
        by_cases hk : k < 64
        · cases hq : n.testBit k
          · rw [Nat.testBit_and, hq]; rfl
          · cases hp : (n &&& (n - 1)).testBit k
            · exact absurd ⟨k, List.mem_range.2 hk, hq, hp⟩ hno
            · rfl
        · have h64 : (2 : Nat) ^ 64 ≤ 2 ^ k := Nat.pow_le_pow_right (by decide) (by omega)
          have h' : (2 : Nat) ^ 64 = 18446744073709551616 := by decide
          rw [Nat.testBit_lt_two_pow (x := n) (by omega), Nat.testBit_lt_two_pow (by omega)]
      omega
  · rw [if_neg h0]
    have := bitsN_le (bitI .and .u64 s (IntKind.u64.wrap (s - 1))).toNat
    omega
end Go.Proofs.Ytaffaalpgpepeaa
/- What is lacking; all of a set. No conditions. -/
namespace Go.Proofs.Ytaffaalpgpepeaa
open Go.Am
def allOf_l0 : Nat → Int → (List Int) → (Sl Int)
  | 0, _, _ => default
  | nn + 1, s1, l => (bif (s1 != 0) then allOf_l0 nn (bitI .and .u64 s1 (IntKind.u64.wrap (s1 - 1))) (l ++ [(lowOf s1)]) else (Sl.mk l.isEmpty l))
def allOf (s : Int) : (Sl Int) :=
  allOf_l0 ((allM s) + 1) s []
theorem allOf_calls (s : Int)  : PCalls Try.prog 36 [.pv (.lit (.int .u64 s))] (sS (some (allOf s).nil) (eI .i64) ((allOf s).D)) := by
 generalize hR : allOf s = R
 refine PCalls.of_body tabOk Try.func36 rfl rfl rfl rfl rfl mixed fun E hP C hI => ?_
 refine Awp.consP C ?_
 refine rvP C (sS (some true) (eI .i64) []) ?_
 refine rvc_nil ?_
 refine Awp.consP C ?_
 refine rvP C (sS (some true) (eI .i64) []) ?_
 refine rvc_nil ?_
 refine Awp.seq ?_
 refine Awp.block ?_
 refine Awp.forM (σ := Int × ((List Int))) (fun v => [(0, .pv (.lit (.int .u64 v.1))), (3, grow 900 (eI .i64) v.2)]) (fun v => (growH 900 (eI .i64) v.2 ++ ([]))) [900] (fun n v => (allM v.1) ≤ n ∧ allOf_l0 (n + 1) v.1 v.2 = R ∧ (v.2.length + allM v.1 ≤ 65)) ((allM s)) (s, []) ?_ ?_ (fun n_ v h1 => ?_)
 · exact ⟨Nat.le_refl _, hR, (by have := allM_le s; show 0 + allM s ≤ 65; omega)⟩
 · exact ⟨fun b => b, WeakerR.ofL (Ks := [900]) hI ⟨⟨rfl, rfl⟩, ⟨rfl, rfl⟩, trivial⟩ (okH_grow (fun hne => absurd rfl hne) rfl rfl (okH_nil)) rfl⟩
 obtain ⟨s1, l⟩ := v
 obtain ⟨hm_, hR, hV⟩ := h1
 replace hm_ : (allM s1) ≤ n_ := hm_
 replace hV : l.length + allM s1 ≤ 65 := hV
 by_cases h3 : l = []
 ·
  refine Awp.wordsR [(0, .pv (.lit (.int .u64 s1))), (3, sS (some l.isEmpty) (eI .i64) l)] [] [] (WeakerR.ofL (Ks := []) hI ⟨⟨rfl, rfl⟩, ⟨(by exact grow_at_nil (b := 900) (e := (eI .i64)) (l := l) rfl h3), rfl⟩, trivial⟩ (okH_nil) rfl) ?_
  refine Awp.seq ?_
  refine Awp.consP C ?_
  refine rvP C (.pv (.lit (.int .u64 s1))) ?_
  refine rvP C (.pv (.lit (.bool (s1 != 0)))) ?_
  refine rvc_nil ?_
  refine Awp.cond (b := (s1 != 0)) rfl (fun h4 => ?_) (fun h4 => ?_)
  ·
   replace hR := of_true h4 hR
   refine Awp.skip ?_
   refine Awp.seq ?_
   refine Awp.block ?_
   refine Awp.regionP C ?_
   refine rvP C (sS (some l.isEmpty) (eI .i64) l) ?_
   refine rvP C (.pv (.lit (.int .u64 s1))) ?_
   refine rvc_un (rexec_call hP C rfl rfl rfl (lowOf_calls s1) ?_)
   refine rvc_un (rexec_buildSliceF C (eI .i64) [(lowOf s1)] rfl rfl rfl rfl rfl rfl rfl (by decide) rfl ?_)
   refine rvc_un (rexec_appendG C rfl rfl rfl rfl rfl rfl rfl rfl (fun _ h => by cases h) rfl (en := (eI .i64)) (l := l) (D := [(lowOf s1)]) rfl rfl h3 (by rw [h3]; rfl) (by simp) (by have := bne_iff_ne.1 h4; first | omega | (simp <;> omega)) (by decide) (nn := (l ++ [(lowOf s1)]).length) (by simp) ?_)
   refine rvP C (.sl 14 0 ((l ++ [(lowOf s1)]).length) 1 false) ?_
   refine rvc_nil ?_
   refine Awp.regionP C ?_
   refine rvP C (.pv (.lit (.int .u64 s1))) ?_
   refine rvP C (.pv (.lit (.int .u64 s1))) ?_
   refine rvP C (.pv (.lit (.int .u64 (IntKind.u64.wrap (s1 - 1))))) ?_
   refine rvP C (.pv (.lit (.int .u64 (bitI .and .u64 s1 (IntKind.u64.wrap (s1 - 1)))))) ?_
   refine rvP C (.pv (.lit (.int .u64 (bitI .and .u64 s1 (IntKind.u64.wrap (s1 - 1)))))) ?_
   refine rvc_nil ?_
   have h5 : (allM (bitI .and .u64 s1 (IntKind.u64.wrap (s1 - 1)))) < (allM s1) := by exact allM_lt (by assumption)
   obtain ⟨nn, rfl⟩ : ∃ nn, n_ = nn + 1 := ⟨n_ - 1, by omega⟩
   refine ⟨nn, ((bitI .and .u64 s1 (IntKind.u64.wrap (s1 - 1))), (l ++ [(lowOf s1)])), by omega, ⟨by show (allM (bitI .and .u64 s1 (IntKind.u64.wrap (s1 - 1)))) ≤ nn; omega, hR, (by show (l ++ [(lowOf s1)]).length + allM (bitI .and .u64 s1 (IntKind.u64.wrap (s1 - 1))) ≤ 65; rw [List.length_append, List.length_singleton]; omega)⟩, ?_⟩
   · exact ⟨fun b => bif b == 900 then 14 else (fun b => b) b, WeakerR.ofL (Ks := [900]) hI ⟨⟨rfl, rfl⟩, ⟨grow_to rfl rfl app_ne rfl rfl, grow_within rfl⟩, trivial⟩ (okH_grow (fun _ => rfl) rfl rfl (okH_nil)) rfl⟩
  ·
   replace hR := of_false h4 hR
   refine Awp.exit ?_
   refine Awp.consP C ?_
   refine rvP C (sS (some l.isEmpty) (eI .i64) l) ?_
   refine rvP C (sS (some l.isEmpty) (eI .i64) l) ?_
   refine rvc_nil ?_
   refine Awp.ret ?_
   subst hR
   exact ⟨.inl rfl, rfl⟩
 ·
  refine Awp.wordsR [(0, .pv (.lit (.int .u64 s1))), (3, .sl 900 0 l.length 1 false)] [(900, .cells (encC (eI .i64) l))] [900] (WeakerR.ofL (Ks := [900]) hI ⟨⟨rfl, rfl⟩, ⟨(by exact grow_at_cons (b := 900) (b' := 900) (e := (eI .i64)) (l := l) rfl h3 rfl rfl rfl), rfl⟩, trivial⟩ (okH_list (look_cons h3 rfl) rfl rfl (okH_nil)) rfl) ?_
  refine Awp.seq ?_
  refine Awp.consP C ?_
  refine rvP C (.pv (.lit (.int .u64 s1))) ?_
  refine rvP C (.pv (.lit (.bool (s1 != 0)))) ?_
  refine rvc_nil ?_
  refine Awp.cond (b := (s1 != 0)) rfl (fun h6 => ?_) (fun h6 => ?_)
  ·
   replace hR := of_true h6 hR
   refine Awp.skip ?_
   refine Awp.seq ?_
   refine Awp.block ?_
   refine Awp.regionP C ?_
   refine rvP C (.sl 900 0 l.length 1 false) ?_
   refine rvP C (.pv (.lit (.int .u64 s1))) ?_
   refine rvc_un (rexec_call hP C rfl rfl rfl (lowOf_calls s1) ?_)
   refine rvc_un (rexec_buildSliceF C (eI .i64) [(lowOf s1)] rfl rfl rfl rfl rfl rfl rfl (by decide) rfl ?_)
   refine rvc_un (rexec_append C rfl rfl rfl rfl rfl rfl rfl rfl (fun _ h => by cases h) rfl (en := (eI .i64)) (D0 := l) (D := [(lowOf s1)]) rfl rfl rfl rfl (by have := bne_iff_ne.1 h6; first | omega | (simp <;> omega)) (by decide) (nn := (l ++ [(lowOf s1)]).length) (by simp) ?_)
   refine rvP C (.sl 14 0 ((l ++ [(lowOf s1)]).length) 1 false) ?_
   refine rvc_nil ?_
   refine Awp.regionP C ?_
   refine rvP C (.pv (.lit (.int .u64 s1))) ?_
   refine rvP C (.pv (.lit (.int .u64 s1))) ?_
   refine rvP C (.pv (.lit (.int .u64 (IntKind.u64.wrap (s1 - 1))))) ?_
   refine rvP C (.pv (.lit (.int .u64 (bitI .and .u64 s1 (IntKind.u64.wrap (s1 - 1)))))) ?_
   refine rvP C (.pv (.lit (.int .u64 (bitI .and .u64 s1 (IntKind.u64.wrap (s1 - 1)))))) ?_
   refine rvc_nil ?_
   have h7 : (allM (bitI .and .u64 s1 (IntKind.u64.wrap (s1 - 1)))) < (allM s1) := by exact allM_lt (by assumption)
   obtain ⟨nn, rfl⟩ : ∃ nn, n_ = nn + 1 := ⟨n_ - 1, by omega⟩
   refine ⟨nn, ((bitI .and .u64 s1 (IntKind.u64.wrap (s1 - 1))), (l ++ [(lowOf s1)])), by omega, ⟨by show (allM (bitI .and .u64 s1 (IntKind.u64.wrap (s1 - 1)))) ≤ nn; omega, hR, (by show (l ++ [(lowOf s1)]).length + allM (bitI .and .u64 s1 (IntKind.u64.wrap (s1 - 1))) ≤ 65; rw [List.length_append, List.length_singleton]; omega)⟩, ?_⟩
   · exact ⟨fun b => bif b == 900 then 14 else (fun b => b) b, WeakerR.ofL (Ks := [900]) hI ⟨⟨rfl, rfl⟩, ⟨grow_to rfl rfl app_ne rfl rfl, grow_within rfl⟩, trivial⟩ (okH_grow (fun _ => rfl) rfl rfl (okH_nil)) rfl⟩
  ·
   replace hR := of_false h6 hR
   refine Awp.exit ?_
   refine Awp.consP C ?_
   refine rvP C (.sl 900 0 l.length 1 false) ?_
   refine rvP C (.sl 900 0 l.length 1 false) ?_
   refine rvc_nil ?_
   refine Awp.freezeW 900 (encL (eI .i64) l) ?_ [(2, sS (some l.isEmpty) (eI .i64) l)] [] ?_ ?_ ?_
   · rfl
   · exact ⟨⟨_, rfl, .inl (.inr ⟨_, _, _, rfl, by rw [ne_isEmpty h3]; rfl⟩)⟩, trivial⟩
   · exact trivial
   refine Awp.ret ?_
   subst hR
   exact ⟨.inl rfl, rfl⟩
end Go.Proofs.Ytaffaalpgpepeaa
/- Who is in a set, from the least on; chains in which nodes are ready: what the walks need. No conditions. -/
namespace Go.Proofs.Ytaffaalpgpepeaa
open Go.Am
theorem shr_nn (x : Int) : 0 ≤ IntKind.i64.wrap (shrI .u64 (IntKind.u64.wrap x) 56) := by
  have h1 : 0 ≤ IntKind.u64.wrap x ∧ IntKind.u64.wrap x < 18446744073709551616 := by rw [wrap64]; omega
  revert h1
  generalize IntKind.u64.wrap x = y
  intro h1
  obtain ⟨a, rfl⟩ : ∃ a : Nat, y = (a : Int) := ⟨y.toNat, by omega⟩
  have h := shr64 (a := a) (n := 56) (by decide)
  rw [show ((56 : Nat) : Int) = (56 : Int) from rfl] at h
  have h2 : a >>> 56 ≤ a := by rw [Nat.shiftRight_eq_div_pow]; exact Nat.div_le_self ..
  have h3 : a >>> 56 < 256 := by rw [Nat.shiftRight_eq_div_pow]; omega
  rw [h, wrapI _ (by omega)]
  omega
theorem mLen_nn (s : Int) : 0 ≤ mLen s := shr_nn _
theorem lowOf_nn {s : Int} (h : (s != 0) = true) : 0 ≤ lowOf s := by
  have : (s == 0) = false := by simpa using h
  unfold lowOf
  rw [this, cond_false]; exact mLen_nn _
theorem allOf_l0_nn : ∀ (n : Nat) (s : Int) (l : List Int), (∀ x ∈ l, 0 ≤ x) → ∀ x ∈ (allOf_l0 n s l).D, 0 ≤ x
  | 0, _, _, _, x, hx => by cases hx
  | n + 1, s, l, h, x, hx => by
    unfold allOf_l0 at hx
    cases hs : s != 0
    · rw [hs] at hx; exact h x hx
    · rw [hs] at hx
      refine allOf_l0_nn n _ _ (fun y hy => ?_) x hx
      rcases List.mem_append.1 hy with hy | hy
      · exact h y hy
      · rw [List.mem_singleton.1 hy]; exact lowOf_nn hs
theorem allOf_nn (s x : Int) (h : x ∈ (allOf s).D) : 0 ≤ x := allOf_l0_nn _ _ _ (fun _ h => (by cases h)) x h
theorem allOf_l0_len : ∀ (n : Nat) (s : Int) (l : List Int), l.length + allM s ≤ 65 → (allOf_l0 n s l).D.length ≤ 65
  | 0, _, _, _ => Nat.zero_le _
  | n + 1, s, l, h => by
    unfold allOf_l0
    cases hs : s != 0
    · show l.length ≤ 65; omega
    · have := allM_lt hs
      exact allOf_l0_len n _ _ (by rw [List.length_append, List.length_singleton]; omega)
theorem allOf_len (s : Int) : (allOf s).D.length ≤ 65 := allOf_l0_len _ _ _ (by have := allM_le s; show 0 + allM s ≤ 65; omega)
theorem ready_hn (c : Chain) (n : Int) : (ready c n).1.members.nil = true → (ready c n).1.members.D = [] := by
  unfold ready
  cases check c != 0
  case true => exact fun _ => rfl
  cases decide (placeIn c n < 0)
  case true => exact fun _ => rfl
  cases !(c.members.D[(placeIn c n).toNat]!.fresh)
  case true => exact fun _ => rfl
  intro h; cases h
theorem ready_len (c : Chain) (n : Int) : (ready c n).1.members.D.length ≤ c.members.D.length := by
  unfold ready
  cases check c != 0
  case true => exact Nat.zero_le _
  cases decide (placeIn c n < 0)
  case true => exact Nat.zero_le _
  cases !(c.members.D[(placeIn c n).toNat]!.fresh)
  case true => exact Nat.zero_le _
  show (List.set _ _ _).length ≤ _
  rw [List.length_set]; omega
end Go.Proofs.Ytaffaalpgpepeaa
