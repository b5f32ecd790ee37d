import Derived.Test.YtpeeofofagfooaaM3
import Derived.Test.YtpeeofofagfooaaM2
import Derived.Sort.Row
import Derived.Sort.Grow
import Derived.Deep.Draws
import Derived.Shelf.GgSortFunc.RowK
import Derived.Shelf.SlSortCmp.WholeK
/- An abstract machine over the kit's calls, part 57: the bytes of a constant: a row that was just made bears the mark of a string's bytes, and will not change. No conditions. -/
namespace Go.Am
section
variable {E : Env} {T : Tab}
theorem freeze_other (w : World) (r n : Nat) {k : Nat} (h : k ≠ r) : (w.freeze ⟨r, n, none⟩ 1).heap[k]? = w.heap[k]? := by
  unfold World.freeze
  rw [if_neg (by decide)]
  simp only [Array.getElem?_modify]
  rw [if_neg (Ne.symm h)]
theorem freeze_this (w : World) (r n : Nat) {c : Array Value} {e : TypeId} {f : Nat × Nat} (h : w.heap[r]? = some (.cells c e f)) : ∃ f', (w.freeze ⟨r, n, none⟩ 1).heap[r]? = some (.cells c e f') := by
  unfold World.freeze
  rw [if_neg (by decide)]
  simp only [Array.getElem?_modify, if_true, h, Option.map_some]
  exact ⟨_, rfl⟩
theorem freeze_rest (w : World) (r n : Nat) : (w.freeze ⟨r, n, none⟩ 1).heap.size = w.heap.size ∧ (w.freeze ⟨r, n, none⟩ 1).os = w.os ∧ (w.freeze ⟨r, n, none⟩ 1).tape = w.tape ∧ (w.freeze ⟨r, n, none⟩ 1).output = w.output ∧ (w.freeze ⟨r, n, none⟩ 1).drawn = w.drawn := by
  unfold World.freeze
  rw [if_neg (by decide)]
  exact ⟨by simp, rfl, rfl, rfl, rfl⟩
theorem does_convOwn (hT : TabOk E.P T) {o : Oper} {t : TypeId} {x : Operand} (ho : o.op = .convert t t x) (hd : ∀ d, o.dst = some d → d < E.n) {r re : TyRow} (hr : T.lookup t = some r) {e : TypeId} (hdesc : r.desc = .slice e) (hre : T.lookup e = some re) (hu : re.desc = .int .u8) {b m s : Nat} {tt : Bool} {ps : List PV} :
    Does E o [.sl b 0 m s tt] [(b, .cells (ps.map .pv))] { v := .pv (.sl (some false) m ps), wr := [(b, none)] } := by
  intro ι imm st a w Q h hv hh _
  have hv := h.evls hv
  rw [ho] at hv
  simp only [Op.operands, List.map_cons, List.map_nil] at hv
  have hv1 := hv.one
  have hb := hh _ (List.mem_cons_self ..)
  obtain ⟨r0, z, q1, q2, q3, c, ec, f, q4, q5, q6, q7⟩ := h.heap.blk b _ hb
  simp only [VH] at hv1
  obtain ⟨r', z', cap, i1, i2, i3, _⟩ := hv1
  rw [q1] at i1
  simp only [Option.some.injEq, Prod.mk.injEq] at i1
  obtain ⟨rfl, rfl⟩ := i1
  have hlt : r0 < w.heap.size := by
    rcases Nat.lt_or_ge r0 w.heap.size with h' | h'
    · exact h'
    · rw [Array.getElem?_eq_none h'] at q4; cases q4
  have hsh : w.shape? r0 = some (ec, c.size) := by unfold World.shape?; rw [q4]
  have hun := run_underlying hT hr w
  have hue := run_underlying hT hre w
  rw [hdesc] at hun
  rw [hu] at hue
  have hrun : (execOp a.eval o).run E.P w = .ok (.value (.slice (some ⟨r0, z + 0, none⟩) m cap)) (w.freeze ⟨r0, c.size, none⟩ 1) := by
    simp only [execOp, ho, convert, i2, run_bind', hun, hue, beq_self_eq_true, markStringish, shape, freeze, Sem.run, hsh, run_pure']
  obtain ⟨f', p1⟩ := freeze_this w r0 c.size q4
  have p2 : ∀ k, k ≠ r0 → (w.freeze ⟨r0, c.size, none⟩ 1).heap[k]? = w.heap[k]? := fun k hk => freeze_other w r0 c.size hk
  obtain ⟨p3, p4, p5, p6, p7⟩ := freeze_rest w r0 c.size
  generalize w.freeze ⟨r0, c.size, none⟩ 1 = w' at hrun p1 p2 p3 p4 p5 p6 p7
  let imm' : Nat → Prop := fun k => imm k ∨ k = r0
  have stay : Stays imm imm' w w' := ⟨fun _ hk => .inl hk, fun k hk => p2 k (fun e => q2 (e ▸ hk))⟩
  have g : Grows ι ι imm imm' w w' := ⟨fun _ _ h => h, stay, fun r c1 e1 f1 hr => by
    by_cases hrr : r = r0
    · subst hrr; rw [q4] at hr; cases hr; exact ⟨c, f', p1, rfl⟩
    · exact ⟨c1, f1, (p2 r hrr).trans hr, rfl⟩⟩
  have hH : ∀ x k, (Delta.mk (.pv (.sl (some false) m ps)) [] [(b, none)]).H st.H x = some k → x ≠ b ∧ st.H x = some k := fun x k hx => by
    rw [Delta.H_wr] at hx
    dsimp only at hx
    split at hx
    · cases hx
    · rename_i hne; exact ⟨hne, hx⟩
  have hs : SR E ι imm' ⟨st.S, (Delta.mk (.pv (.sl (some false) m ps)) [] [(b, none)]).H st.H, (Delta.mk (.pv (.sl (some false) m ps)) [] [(b, none)]).U st.U⟩ a w' := by
    refine h.turn g p4 p5 p6 (by omega) (by omega) (fun k _ hM => p2 k (fun e => hM (e ▸ q3))) ⟨fun x k hx => ?_, fun x x' k k' r z z' hx hx' => h.heap.inj x x' k k' r z z' (hH x k hx).2 (hH x' k' hx').2⟩ (fun x y hx => ?_) (fun k hk => ?_) (fun k hk => ?_)
    · obtain ⟨hne, hx⟩ := hH x k hx
      obtain ⟨r', z', p1', p2', p3', p4'⟩ := h.heap.blk x k hx
      have hrr : r' ≠ r0 := fun e => by
        subst e
        exact hne (h.heap.inj x b k _ r' z' z hx hb p1' q1)
      exact ⟨r', z', p1', fun hi => hi.elim p2' hrr, p3', p4'.grows g (p2 r' hrr)⟩
    · simp only [Delta.U, List.lookup, Option.isSome_none, Bool.false_or]; exact h.used x y hx
    · rcases hk with hk | rfl
      · exact .inl hk
      · exact .inr q3
    · rw [p3]
      rcases hk with hk | rfl
      · exact h.immlt k hk
      · exact hlt
  unfold Oper.wp
  rw [hrun, Oper.upon_value]
  refine ⟨ι, imm', hs.put o.dst hd ?_⟩
  simp only [VH, PH]
  refine ⟨_, cap, rfl, i3, fun h => (by simp at h), fun _ h => (by simp at h), fun h => (by simp at h), fun A hA _ => ?_⟩
  simp only [Option.some.injEq] at hA
  subst hA
  exact ⟨rfl, .inr rfl, PHs.of_cells (i := imm) (ι := ι) (w := w) stay (fun o => cell_of_heap p1 o) q7⟩
variable {cq : Oper → Cls} {n : Nat}
theorem rexec_convOwn (C : Cx E T n) {d : Nat} {t ty : TypeId} {x : Operand} {pos : String} {af : Array Edge} {g : Option (Nat × Bool)} {st : St} {K : St → Prop} (h1 : dstB n ⟨some d, .convert t t x, ty, pos, af, g⟩ = true) {b m s : Nat} {tt : Bool} (D : List Int)
    (hx : evl st.S x = some (.sl b 0 m s tt)) (hb : st.H b = some (.cells (encC (eI .u8) D))) (hm : m = D.length) {r re : TyRow} (hr : T.lookup t = some r) {e : TypeId} (hdesc : r.desc = .slice e) (hre : T.lookup e = some re) (hu : re.desc = .int .u8)
    (h7 : K (st.after (some d) { v := sS (some false) (eI .u8) D, wr := [(b, none)] }))
    (hp : clsOf cq ⟨some d, .convert t t x, ty, pos, af, g⟩ ≠ .pure := by decide) (hq : clsOf cq ⟨some d, .convert t t x, ty, pos, af, g⟩ ≠ .quiet := by decide) (hft : footB (clsOf cq ⟨some d, .convert t t x, ty, pos, af, g⟩) [(b, .cells (encC (eI .u8) D))] { v := sS (some false) (eI .u8) D, wr := [(b, none)] } = true := by rfl) : rexec E cq n ⟨some d, .convert t t x, ty, pos, af, g⟩ st K := by
  subst hm
  refine ⟨h1, [.sl b 0 D.length s tt], [(b, .cells (encC (eI .u8) D))], _, { vals := ?_, deps := ?_, fresh := fun _ h => (by cases h), does := does_convOwn C.tab rfl (dst_lt C h1) hr hdesc hre hu (ps := encL (eI .u8) D), reach := ?_, inV := rfl, inN := fun _ h => (by cases h), inW := ?_, wr := ?_, pure := fun h => absurd h hp, quiet := fun h => absurd h hq, foot := hft }, h7⟩
  · show evls st.S [x] = _
    simp only [evls, hx]
  · intro q hq; simp only [List.mem_singleton] at hq; subst hq; exact hb
  · simp [reachB, refs, AV.withinL, AV.within]
  · intro q hq k' hk'
    simp only [List.mem_singleton] at hq
    subst hq
    cases hk'
  · intro q hq
    simp only [List.mem_singleton] at hq
    subst hq
    simp [refs, AV.withinL, AV.within]
end
end Go.Am
/- The example. No conditions. -/
namespace Go.Proofs.Ytpeeofofagfooaa
open Go.Am
def awake  : Bool :=
  (bif (((nSend newN (Link.mk 0 1) (Sl.mk false [97])).2) != 0) then false else (bif (((nSend ((nSend newN (Link.mk 0 1) (Sl.mk false [97])).1) (Link.mk 0 1) (Sl.mk false [98])).2) != 0) then false else (bif ((strOf ((nTake ((nSend ((nSend newN (Link.mk 0 1) (Sl.mk false [97])).1) (Link.mk 0 1) (Sl.mk false [98])).1) (Link.mk 0 1) 1).2.1.D)).toList == (⟨#[98]⟩ : ByteArray).toList) then (bif (nTake ((nSend ((nSend newN (Link.mk 0 1) (Sl.mk false [97])).1) (Link.mk 0 1) (Sl.mk false [98])).1) (Link.mk 0 1) 1).2.2.1 then (bif (((nTake ((nSend ((nSend newN (Link.mk 0 1) (Sl.mk false [97])).1) (Link.mk 0 1) (Sl.mk false [98])).1) (Link.mk 0 1) 1).2.2.2) == 0) then (bif (!((nTake ((nWall ((nTake ((nSend ((nSend newN (Link.mk 0 1) (Sl.mk false [97])).1) (Link.mk 0 1) (Sl.mk false [98])).1) (Link.mk 0 1) 1).1) (maskOf (Sl.mk false [1]))).1) (Link.mk 0 1) 0).2.2.1)) then (bif (((nTake ((nWall ((nTake ((nSend ((nSend newN (Link.mk 0 1) (Sl.mk false [97])).1) (Link.mk 0 1) (Sl.mk false [98])).1) (Link.mk 0 1) 1).1) (maskOf (Sl.mk false [1]))).1) (Link.mk 0 1) 0).2.2.2) == 0) then (bif ((nLen ((nTake ((nWall ((nTake ((nSend ((nSend newN (Link.mk 0 1) (Sl.mk false [97])).1) (Link.mk 0 1) (Sl.mk false [98])).1) (Link.mk 0 1) 1).1) (maskOf (Sl.mk false [1]))).1) (Link.mk 0 1) 0).1) (Link.mk 0 1)) == 0) then (((nSend ((nTake ((nWall ((nTake ((nSend ((nSend newN (Link.mk 0 1) (Sl.mk false [97])).1) (Link.mk 0 1) (Sl.mk false [98])).1) (Link.mk 0 1) 1).1) (maskOf (Sl.mk false [1]))).1) (Link.mk 0 1) 0).1) (Link.mk 0 0) (Sl.mk true [])).2) == 40) else false) else false) else false) else false) else false) else false)))
theorem awake_calls   : PCalls Try.prog 11 [] (.pv (.lit (.bool (awake )))) := by
 generalize hR : awake  = R
 refine PCalls.of_body tabOk Try.func11 rfl rfl rfl rfl rfl mixed fun E hP C hI => ?_
 refine Awp.consP C ?_
 refine rvP C (.pv (.lit (.bool false))) ?_
 refine rvc_nil ?_
 refine Awp.cons C (fun _ => .quiet) (by kernel_rfl) ?_
 refine rvc_un (rexec_callNew hP C 509 rfl rfl rfl rfl rfl rfl newN_calls ?_)
 refine rvP C (.ptr 9 0) ?_
 refine rvc_nil ?_
 refine Awp.consP C ?_
 refine rvP C (.agg [.pv (.lit (.int .i64 0)), .pv (.lit (.int .i64 1))]) ?_
 refine rvc_un (rexec_prim C (δ := { v := .ptr 2 0, new := [(2, .cells [.pv (.lit (.int .i64 0)), .pv (.lit (.int .i64 0))])] }) rfl rfl rfl rfl trivial rfl ?_)
 refine rvc_un (rexec_prim C (δ := { v := .undef, wr := [(2, some (.cells [.pv (.lit (.int .i64 0)), .pv (.lit (.int .i64 1))]))] }) rfl rfl rfl rfl trivial rfl ?_)
 refine rvc_nil ?_
 refine Awp.seq ?_
 refine Awp.cons C (fun o => match o.dst with | some 14 => .writes [13] | some 21 => .writes [20] | _ => .writer) (by kernel_rfl) ?_
 refine rvP C (.ptr 9 0) ?_
 refine rvP C (.agg [.pv (.lit (.int .i64 0)), .pv (.lit (.int .i64 1))]) ?_
 refine rvc_un (rexec_prim C (δ := { v := .sl 13 0 ([97].length) 1 true, new := [(13, .cells (encC (eI .u8) [97]))] }) rfl rfl rfl rfl trivial rfl ?_)
 refine rvc_un (rexec_convOwn C rfl [97] rfl rfl rfl rfl rfl rfl rfl ?_)
 refine rvc_un (rexec_callObj hP C (fun b => bif b == 0 then 9 else bif b == 1 then 509 else b) [] rfl rfl rfl (nSend_calls newN (Link.mk 0 1) (Sl.mk false [97]) (by decide)) rfl rfl ⟨rfl, trivial⟩ (of_decide_eq_true rfl) rfl (of_decide_eq_true rfl) (of_decide_eq_true rfl) allB_nil allB_nil (allB_cons rfl allB_nil) ?_ rfl (allB_cons rfl allB_nil))
 refine rvP C (.pv (.lit (.bool (((nSend newN (Link.mk 0 1) (Sl.mk false [97])).2) != 0)))) ?_
 refine rvP C (.pv (.lit (.bool (((nSend newN (Link.mk 0 1) (Sl.mk false [97])).2) != 0)))) ?_
 refine rvc_case 17 (((nSend newN (Link.mk 0 1) (Sl.mk false [97])).2) != 0) rfl (fun h1 => ?_) (fun h1 => ?_)
 ·
  replace hR := of_true h1 hR
  refine rvS ?_
  refine rvS ?_
  refine rvS ?_
  refine rvS ?_
  refine rvS ?_
  refine rvS ?_
  refine rvP C (.pv (.lit (.bool true))) ?_
  refine rvc_nil ?_
  refine Awp.condT (b := true) rfl rfl ?_
  refine Awp.consP C ?_
  refine rvP C (.pv (.lit (.bool false))) ?_
  refine rvc_nil ?_
  refine Awp.ret ?_
  subst hR
  exact ⟨.inl rfl, rfl⟩
 ·
  replace hR := of_false h1 hR
  refine rvO C (.ptr 9 0) ?_
  refine rvO C (.agg [.pv (.lit (.int .i64 0)), .pv (.lit (.int .i64 1))]) ?_
  refine rvc_open rfl rfl rfl (rexec_prim C (δ := { v := .sl 20 0 ([98].length) 1 true, new := [(20, .cells (encC (eI .u8) [98]))] }) rfl rfl rfl rfl trivial rfl ?_)
  refine rvc_open rfl rfl rfl (rexec_convOwn C rfl [98] rfl rfl rfl rfl rfl rfl rfl ?_)
  refine rvc_open rfl rfl rfl (rexec_callObj hP C (fun b => bif b == 0 then 9 else bif b == 1 then 509 else b) [] rfl rfl rfl (nSend_calls ((nSend newN (Link.mk 0 1) (Sl.mk false [97])).1) (Link.mk 0 1) (Sl.mk false [98]) (by decide)) rfl rfl ⟨rfl, trivial⟩ (of_decide_eq_true rfl) rfl (of_decide_eq_true rfl) (of_decide_eq_true rfl) allB_nil allB_nil (allB_cons rfl allB_nil) ?_ rfl (allB_cons rfl allB_nil))
  refine rvO C (.pv (.lit (.bool (((nSend ((nSend newN (Link.mk 0 1) (Sl.mk false [97])).1) (Link.mk 0 1) (Sl.mk false [98])).2) != 0)))) ?_
  refine rvP C (.pv (.lit (.bool (((nSend ((nSend newN (Link.mk 0 1) (Sl.mk false [97])).1) (Link.mk 0 1) (Sl.mk false [98])).2) != 0)))) ?_
  refine rvc_nil ?_
  refine Awp.cond (b := (((nSend ((nSend newN (Link.mk 0 1) (Sl.mk false [97])).1) (Link.mk 0 1) (Sl.mk false [98])).2) != 0)) rfl (fun h2 => ?_) (fun h2 => ?_)
  ·
   replace hR := of_true h2 hR
   refine Awp.consP C ?_
   refine rvP C (.pv (.lit (.bool false))) ?_
   refine rvc_nil ?_
   refine Awp.ret ?_
   subst hR
   exact ⟨.inl rfl, rfl⟩
  ·
   replace hR := of_false h2 hR
   refine Awp.skip ?_
   refine Awp.cons C (fun _ => .writer) (by kernel_rfl) ?_
   refine rvP C (.ptr 9 0) ?_
   refine rvP C (.agg [.pv (.lit (.int .i64 0)), .pv (.lit (.int .i64 1))]) ?_
   refine rvc_un (rexec_callObj hP C (fun b => bif b == 0 then 9 else bif b == 1 then 509 else b) [] rfl rfl rfl (nTake_calls ((nSend ((nSend newN (Link.mk 0 1) (Sl.mk false [97])).1) (Link.mk 0 1) (Sl.mk false [98])).1) (Link.mk 0 1) 1 (send_ok (send_ok newN_ok _ _) _ _)) rfl rfl ⟨rfl, trivial⟩ (of_decide_eq_true rfl) rfl (of_decide_eq_true rfl) (of_decide_eq_true rfl) allB_nil allB_nil (allB_cons rfl allB_nil) ?_ rfl (allB_cons rfl allB_nil))
   refine rvP C (.tup [sS (some (nTake ((nSend ((nSend newN (Link.mk 0 1) (Sl.mk false [97])).1) (Link.mk 0 1) (Sl.mk false [98])).1) (Link.mk 0 1) 1).2.1.nil) (eI .u8) ((nTake ((nSend ((nSend newN (Link.mk 0 1) (Sl.mk false [97])).1) (Link.mk 0 1) (Sl.mk false [98])).1) (Link.mk 0 1) 1).2.1.D), .pv (.lit (.bool ((nTake ((nSend ((nSend newN (Link.mk 0 1) (Sl.mk false [97])).1) (Link.mk 0 1) (Sl.mk false [98])).1) (Link.mk 0 1) 1).2.2.1))), .pv (.lit (.int .i64 ((nTake ((nSend ((nSend newN (Link.mk 0 1) (Sl.mk false [97])).1) (Link.mk 0 1) (Sl.mk false [98])).1) (Link.mk 0 1) 1).2.2.2)))]) ?_
   refine rvP C (sS (some (nTake ((nSend ((nSend newN (Link.mk 0 1) (Sl.mk false [97])).1) (Link.mk 0 1) (Sl.mk false [98])).1) (Link.mk 0 1) 1).2.1.nil) (eI .u8) ((nTake ((nSend ((nSend newN (Link.mk 0 1) (Sl.mk false [97])).1) (Link.mk 0 1) (Sl.mk false [98])).1) (Link.mk 0 1) 1).2.1.D)) ?_
   refine rvP C (.pv (.lit (.bool ((nTake ((nSend ((nSend newN (Link.mk 0 1) (Sl.mk false [97])).1) (Link.mk 0 1) (Sl.mk false [98])).1) (Link.mk 0 1) 1).2.2.1)))) ?_
   refine rvP C (.pv (.lit (.int .i64 ((nTake ((nSend ((nSend newN (Link.mk 0 1) (Sl.mk false [97])).1) (Link.mk 0 1) (Sl.mk false [98])).1) (Link.mk 0 1) 1).2.2.2)))) ?_
   refine rvP C (sS (some (nTake ((nSend ((nSend newN (Link.mk 0 1) (Sl.mk false [97])).1) (Link.mk 0 1) (Sl.mk false [98])).1) (Link.mk 0 1) 1).2.1.nil) (eI .u8) ((nTake ((nSend ((nSend newN (Link.mk 0 1) (Sl.mk false [97])).1) (Link.mk 0 1) (Sl.mk false [98])).1) (Link.mk 0 1) 1).2.1.D)) ?_
   refine rvP C (.pv (.lit (.bool ((nTake ((nSend ((nSend newN (Link.mk 0 1) (Sl.mk false [97])).1) (Link.mk 0 1) (Sl.mk false [98])).1) (Link.mk 0 1) 1).2.2.1)))) ?_
   refine rvP C (.pv (.lit (.int .i64 ((nTake ((nSend ((nSend newN (Link.mk 0 1) (Sl.mk false [97])).1) (Link.mk 0 1) (Sl.mk false [98])).1) (Link.mk 0 1) 1).2.2.2)))) ?_
   refine rvc_nil ?_
   refine Awp.cons C (fun _ => .writer) (by kernel_rfl) ?_
   refine rvP C (.ptr 9 0) ?_
   refine rvc_un (rexec_buildSliceF C (eI .i64) [1] rfl rfl rfl rfl rfl rfl rfl (by decide) rfl ?_)
   refine rvc_un (rexec_call hP C rfl rfl rfl (maskOf_calls (Sl.mk false [1]) (of_decide_eq_true (by kernel_rfl))) ?_)
   refine rvc_un (rexec_callObj hP C (fun b => bif b == 0 then 9 else bif b == 1 then 509 else b) [] rfl rfl rfl (nWall_calls ((nTake ((nSend ((nSend newN (Link.mk 0 1) (Sl.mk false [97])).1) (Link.mk 0 1) (Sl.mk false [98])).1) (Link.mk 0 1) 1).1) (maskOf (Sl.mk false [1]))) rfl rfl ⟨rfl, trivial⟩ (of_decide_eq_true rfl) rfl (of_decide_eq_true rfl) (of_decide_eq_true rfl) allB_nil allB_nil (allB_cons rfl allB_nil) ?_ rfl (allB_cons rfl allB_nil))
   refine rvc_nil ?_
   refine Awp.cons C (fun _ => .writer) (by kernel_rfl) ?_
   refine rvP C (.ptr 9 0) ?_
   refine rvP C (.agg [.pv (.lit (.int .i64 0)), .pv (.lit (.int .i64 1))]) ?_
   refine rvc_un (rexec_callObj hP C (fun b => bif b == 0 then 9 else bif b == 1 then 509 else b) [] rfl rfl rfl (nTake_calls ((nWall ((nTake ((nSend ((nSend newN (Link.mk 0 1) (Sl.mk false [97])).1) (Link.mk 0 1) (Sl.mk false [98])).1) (Link.mk 0 1) 1).1) (maskOf (Sl.mk false [1]))).1) (Link.mk 0 1) 0 (wall_ok (take_ok (send_ok (send_ok newN_ok _ _) _ _) _ _) _)) rfl rfl ⟨rfl, trivial⟩ (of_decide_eq_true rfl) rfl (of_decide_eq_true rfl) (of_decide_eq_true rfl) allB_nil allB_nil (allB_cons rfl allB_nil) ?_ rfl (allB_cons rfl allB_nil))
   refine rvP C (.tup [sS (some (nTake ((nWall ((nTake ((nSend ((nSend newN (Link.mk 0 1) (Sl.mk false [97])).1) (Link.mk 0 1) (Sl.mk false [98])).1) (Link.mk 0 1) 1).1) (maskOf (Sl.mk false [1]))).1) (Link.mk 0 1) 0).2.1.nil) (eI .u8) ((nTake ((nWall ((nTake ((nSend ((nSend newN (Link.mk 0 1) (Sl.mk false [97])).1) (Link.mk 0 1) (Sl.mk false [98])).1) (Link.mk 0 1) 1).1) (maskOf (Sl.mk false [1]))).1) (Link.mk 0 1) 0).2.1.D), .pv (.lit (.bool ((nTake ((nWall ((nTake ((nSend ((nSend newN (Link.mk 0 1) (Sl.mk false [97])).1) (Link.mk 0 1) (Sl.mk false [98])).1) (Link.mk 0 1) 1).1) (maskOf (Sl.mk false [1]))).1) (Link.mk 0 1) 0).2.2.1))), .pv (.lit (.int .i64 ((nTake ((nWall ((nTake ((nSend ((nSend newN (Link.mk 0 1) (Sl.mk false [97])).1) (Link.mk 0 1) (Sl.mk false [98])).1) (Link.mk 0 1) 1).1) (maskOf (Sl.mk false [1]))).1) (Link.mk 0 1) 0).2.2.2)))]) ?_
   refine rvP C (sS (some (nTake ((nWall ((nTake ((nSend ((nSend newN (Link.mk 0 1) (Sl.mk false [97])).1) (Link.mk 0 1) (Sl.mk false [98])).1) (Link.mk 0 1) 1).1) (maskOf (Sl.mk false [1]))).1) (Link.mk 0 1) 0).2.1.nil) (eI .u8) ((nTake ((nWall ((nTake ((nSend ((nSend newN (Link.mk 0 1) (Sl.mk false [97])).1) (Link.mk 0 1) (Sl.mk false [98])).1) (Link.mk 0 1) 1).1) (maskOf (Sl.mk false [1]))).1) (Link.mk 0 1) 0).2.1.D)) ?_
   refine rvP C (.pv (.lit (.bool ((nTake ((nWall ((nTake ((nSend ((nSend newN (Link.mk 0 1) (Sl.mk false [97])).1) (Link.mk 0 1) (Sl.mk false [98])).1) (Link.mk 0 1) 1).1) (maskOf (Sl.mk false [1]))).1) (Link.mk 0 1) 0).2.2.1)))) ?_
   refine rvP C (.pv (.lit (.int .i64 ((nTake ((nWall ((nTake ((nSend ((nSend newN (Link.mk 0 1) (Sl.mk false [97])).1) (Link.mk 0 1) (Sl.mk false [98])).1) (Link.mk 0 1) 1).1) (maskOf (Sl.mk false [1]))).1) (Link.mk 0 1) 0).2.2.2)))) ?_
   refine rvP C (sS (some (nTake ((nWall ((nTake ((nSend ((nSend newN (Link.mk 0 1) (Sl.mk false [97])).1) (Link.mk 0 1) (Sl.mk false [98])).1) (Link.mk 0 1) 1).1) (maskOf (Sl.mk false [1]))).1) (Link.mk 0 1) 0).2.1.nil) (eI .u8) ((nTake ((nWall ((nTake ((nSend ((nSend newN (Link.mk 0 1) (Sl.mk false [97])).1) (Link.mk 0 1) (Sl.mk false [98])).1) (Link.mk 0 1) 1).1) (maskOf (Sl.mk false [1]))).1) (Link.mk 0 1) 0).2.1.D)) ?_
   refine rvP C (.pv (.lit (.bool ((nTake ((nWall ((nTake ((nSend ((nSend newN (Link.mk 0 1) (Sl.mk false [97])).1) (Link.mk 0 1) (Sl.mk false [98])).1) (Link.mk 0 1) 1).1) (maskOf (Sl.mk false [1]))).1) (Link.mk 0 1) 0).2.2.1)))) ?_
   refine rvP C (.pv (.lit (.int .i64 ((nTake ((nWall ((nTake ((nSend ((nSend newN (Link.mk 0 1) (Sl.mk false [97])).1) (Link.mk 0 1) (Sl.mk false [98])).1) (Link.mk 0 1) 1).1) (maskOf (Sl.mk false [1]))).1) (Link.mk 0 1) 0).2.2.2)))) ?_
   refine rvc_nil ?_
   refine Awp.cons C (fun _ => .writer) (by kernel_rfl) ?_
   refine rvP C (sS (some (nTake ((nSend ((nSend newN (Link.mk 0 1) (Sl.mk false [97])).1) (Link.mk 0 1) (Sl.mk false [98])).1) (Link.mk 0 1) 1).2.1.nil) (eI .u8) ((nTake ((nSend ((nSend newN (Link.mk 0 1) (Sl.mk false [97])).1) (Link.mk 0 1) (Sl.mk false [98])).1) (Link.mk 0 1) 1).2.1.D)) ?_
   refine rvc_un (rexec_convS C rfl rfl rfl rfl rfl rfl rfl rfl ?_)
   refine rvP C (.pv (.lit (.bool ((strOf ((nTake ((nSend ((nSend newN (Link.mk 0 1) (Sl.mk false [97])).1) (Link.mk 0 1) (Sl.mk false [98])).1) (Link.mk 0 1) 1).2.1.D)).toList == (⟨#[98]⟩ : ByteArray).toList)))) ?_
   refine rvP C (.pv (.lit (.bool ((strOf ((nTake ((nSend ((nSend newN (Link.mk 0 1) (Sl.mk false [97])).1) (Link.mk 0 1) (Sl.mk false [98])).1) (Link.mk 0 1) 1).2.1.D)).toList == (⟨#[98]⟩ : ByteArray).toList)))) ?_
   refine rvc_case 46 ((strOf ((nTake ((nSend ((nSend newN (Link.mk 0 1) (Sl.mk false [97])).1) (Link.mk 0 1) (Sl.mk false [98])).1) (Link.mk 0 1) 1).2.1.D)).toList == (⟨#[98]⟩ : ByteArray).toList) rfl (fun h3 => ?_) (fun h3 => ?_)
   ·
    replace hR := of_true h3 hR
    refine rvO C (.pv (.lit (.bool ((nTake ((nSend ((nSend newN (Link.mk 0 1) (Sl.mk false [97])).1) (Link.mk 0 1) (Sl.mk false [98])).1) (Link.mk 0 1) 1).2.2.1)))) ?_
    refine rvP C (.pv (.lit (.bool ((nTake ((nSend ((nSend newN (Link.mk 0 1) (Sl.mk false [97])).1) (Link.mk 0 1) (Sl.mk false [98])).1) (Link.mk 0 1) 1).2.2.1)))) ?_
    refine rvP C (.pv (.lit (.bool ((nTake ((nSend ((nSend newN (Link.mk 0 1) (Sl.mk false [97])).1) (Link.mk 0 1) (Sl.mk false [98])).1) (Link.mk 0 1) 1).2.2.1)))) ?_
    refine rvc_case 49 ((nTake ((nSend ((nSend newN (Link.mk 0 1) (Sl.mk false [97])).1) (Link.mk 0 1) (Sl.mk false [98])).1) (Link.mk 0 1) 1).2.2.1) rfl (fun h4 => ?_) (fun h4 => ?_)
    ·
     replace hR := of_true h4 hR
     refine rvO C (.pv (.lit (.int .i64 ((nTake ((nSend ((nSend newN (Link.mk 0 1) (Sl.mk false [97])).1) (Link.mk 0 1) (Sl.mk false [98])).1) (Link.mk 0 1) 1).2.2.2)))) ?_
     refine rvO C (.pv (.lit (.bool (((nTake ((nSend ((nSend newN (Link.mk 0 1) (Sl.mk false [97])).1) (Link.mk 0 1) (Sl.mk false [98])).1) (Link.mk 0 1) 1).2.2.2) == 0)))) ?_
     refine rvP C (.pv (.lit (.bool (((nTake ((nSend ((nSend newN (Link.mk 0 1) (Sl.mk false [97])).1) (Link.mk 0 1) (Sl.mk false [98])).1) (Link.mk 0 1) 1).2.2.2) == 0)))) ?_
     refine rvP C (.pv (.lit (.bool (((nTake ((nSend ((nSend newN (Link.mk 0 1) (Sl.mk false [97])).1) (Link.mk 0 1) (Sl.mk false [98])).1) (Link.mk 0 1) 1).2.2.2) == 0)))) ?_
     refine rvc_case 53 (((nTake ((nSend ((nSend newN (Link.mk 0 1) (Sl.mk false [97])).1) (Link.mk 0 1) (Sl.mk false [98])).1) (Link.mk 0 1) 1).2.2.2) == 0) rfl (fun h5 => ?_) (fun h5 => ?_)
     ·
      replace hR := of_true h5 hR
      refine rvO C (.pv (.lit (.bool ((nTake ((nWall ((nTake ((nSend ((nSend newN (Link.mk 0 1) (Sl.mk false [97])).1) (Link.mk 0 1) (Sl.mk false [98])).1) (Link.mk 0 1) 1).1) (maskOf (Sl.mk false [1]))).1) (Link.mk 0 1) 0).2.2.1)))) ?_
      refine rvO C (.pv (.lit (.bool (!((nTake ((nWall ((nTake ((nSend ((nSend newN (Link.mk 0 1) (Sl.mk false [97])).1) (Link.mk 0 1) (Sl.mk false [98])).1) (Link.mk 0 1) 1).1) (maskOf (Sl.mk false [1]))).1) (Link.mk 0 1) 0).2.2.1))))) ?_
      refine rvP C (.pv (.lit (.bool (!((nTake ((nWall ((nTake ((nSend ((nSend newN (Link.mk 0 1) (Sl.mk false [97])).1) (Link.mk 0 1) (Sl.mk false [98])).1) (Link.mk 0 1) 1).1) (maskOf (Sl.mk false [1]))).1) (Link.mk 0 1) 0).2.2.1))))) ?_
      refine rvP C (.pv (.lit (.bool (!((nTake ((nWall ((nTake ((nSend ((nSend newN (Link.mk 0 1) (Sl.mk false [97])).1) (Link.mk 0 1) (Sl.mk false [98])).1) (Link.mk 0 1) 1).1) (maskOf (Sl.mk false [1]))).1) (Link.mk 0 1) 0).2.2.1))))) ?_
      refine rvc_case 57 (!((nTake ((nWall ((nTake ((nSend ((nSend newN (Link.mk 0 1) (Sl.mk false [97])).1) (Link.mk 0 1) (Sl.mk false [98])).1) (Link.mk 0 1) 1).1) (maskOf (Sl.mk false [1]))).1) (Link.mk 0 1) 0).2.2.1)) rfl (fun h6 => ?_) (fun h6 => ?_)
      ·
       replace hR := of_true h6 hR
       refine rvO C (.pv (.lit (.int .i64 ((nTake ((nWall ((nTake ((nSend ((nSend newN (Link.mk 0 1) (Sl.mk false [97])).1) (Link.mk 0 1) (Sl.mk false [98])).1) (Link.mk 0 1) 1).1) (maskOf (Sl.mk false [1]))).1) (Link.mk 0 1) 0).2.2.2)))) ?_
       refine rvO C (.pv (.lit (.bool (((nTake ((nWall ((nTake ((nSend ((nSend newN (Link.mk 0 1) (Sl.mk false [97])).1) (Link.mk 0 1) (Sl.mk false [98])).1) (Link.mk 0 1) 1).1) (maskOf (Sl.mk false [1]))).1) (Link.mk 0 1) 0).2.2.2) == 0)))) ?_
       refine rvP C (.pv (.lit (.bool (((nTake ((nWall ((nTake ((nSend ((nSend newN (Link.mk 0 1) (Sl.mk false [97])).1) (Link.mk 0 1) (Sl.mk false [98])).1) (Link.mk 0 1) 1).1) (maskOf (Sl.mk false [1]))).1) (Link.mk 0 1) 0).2.2.2) == 0)))) ?_
       refine rvP C (.pv (.lit (.bool (((nTake ((nWall ((nTake ((nSend ((nSend newN (Link.mk 0 1) (Sl.mk false [97])).1) (Link.mk 0 1) (Sl.mk false [98])).1) (Link.mk 0 1) 1).1) (maskOf (Sl.mk false [1]))).1) (Link.mk 0 1) 0).2.2.2) == 0)))) ?_
       refine rvc_case 61 (((nTake ((nWall ((nTake ((nSend ((nSend newN (Link.mk 0 1) (Sl.mk false [97])).1) (Link.mk 0 1) (Sl.mk false [98])).1) (Link.mk 0 1) 1).1) (maskOf (Sl.mk false [1]))).1) (Link.mk 0 1) 0).2.2.2) == 0) rfl (fun h7 => ?_) (fun h7 => ?_)
       ·
        replace hR := of_true h7 hR
        refine rvO C (.ptr 9 0) ?_
        refine rvO C (.agg [.pv (.lit (.int .i64 0)), .pv (.lit (.int .i64 1))]) ?_
        refine rvc_open rfl rfl rfl (rexec_callObj hP C (fun b => bif b == 0 then 9 else bif b == 1 then 509 else b) [] rfl rfl rfl (nLen_calls ((nTake ((nWall ((nTake ((nSend ((nSend newN (Link.mk 0 1) (Sl.mk false [97])).1) (Link.mk 0 1) (Sl.mk false [98])).1) (Link.mk 0 1) 1).1) (maskOf (Sl.mk false [1]))).1) (Link.mk 0 1) 0).1) (Link.mk 0 1)) rfl rfl ⟨rfl, trivial⟩ (of_decide_eq_true rfl) rfl (of_decide_eq_true rfl) (of_decide_eq_true rfl) allB_nil allB_nil (allB_cons rfl allB_nil) ?_ rfl (allB_cons rfl allB_nil))
        refine rvO C (.pv (.lit (.bool ((nLen ((nTake ((nWall ((nTake ((nSend ((nSend newN (Link.mk 0 1) (Sl.mk false [97])).1) (Link.mk 0 1) (Sl.mk false [98])).1) (Link.mk 0 1) 1).1) (maskOf (Sl.mk false [1]))).1) (Link.mk 0 1) 0).1) (Link.mk 0 1)) == 0)))) ?_
        refine rvP C (.pv (.lit (.bool ((nLen ((nTake ((nWall ((nTake ((nSend ((nSend newN (Link.mk 0 1) (Sl.mk false [97])).1) (Link.mk 0 1) (Sl.mk false [98])).1) (Link.mk 0 1) 1).1) (maskOf (Sl.mk false [1]))).1) (Link.mk 0 1) 0).1) (Link.mk 0 1)) == 0)))) ?_
        refine rvP C (.pv (.lit (.bool ((nLen ((nTake ((nWall ((nTake ((nSend ((nSend newN (Link.mk 0 1) (Sl.mk false [97])).1) (Link.mk 0 1) (Sl.mk false [98])).1) (Link.mk 0 1) 1).1) (maskOf (Sl.mk false [1]))).1) (Link.mk 0 1) 0).1) (Link.mk 0 1)) == 0)))) ?_
        refine rvc_case 67 ((nLen ((nTake ((nWall ((nTake ((nSend ((nSend newN (Link.mk 0 1) (Sl.mk false [97])).1) (Link.mk 0 1) (Sl.mk false [98])).1) (Link.mk 0 1) 1).1) (maskOf (Sl.mk false [1]))).1) (Link.mk 0 1) 0).1) (Link.mk 0 1)) == 0) rfl (fun h8 => ?_) (fun h8 => ?_)
        ·
         replace hR := of_true h8 hR
         refine rvO C (.ptr 9 0) ?_
         refine rvO C (.agg [.pv (.lit (.int .i64 0)), .pv (.lit (.int .i64 0))]) ?_
         refine rvc_open rfl rfl rfl (rexec_callObj hP C (fun b => bif b == 0 then 9 else bif b == 1 then 509 else b) [] rfl rfl rfl (nSend_calls ((nTake ((nWall ((nTake ((nSend ((nSend newN (Link.mk 0 1) (Sl.mk false [97])).1) (Link.mk 0 1) (Sl.mk false [98])).1) (Link.mk 0 1) 1).1) (maskOf (Sl.mk false [1]))).1) (Link.mk 0 1) 0).1) (Link.mk 0 0) (Sl.mk true []) (by decide)) rfl rfl ⟨rfl, trivial⟩ (of_decide_eq_true rfl) rfl (of_decide_eq_true rfl) (of_decide_eq_true rfl) allB_nil allB_nil (allB_cons rfl allB_nil) ?_ rfl (allB_cons rfl allB_nil))
         refine rvO C (.pv (.lit (.bool (((nSend ((nTake ((nWall ((nTake ((nSend ((nSend newN (Link.mk 0 1) (Sl.mk false [97])).1) (Link.mk 0 1) (Sl.mk false [98])).1) (Link.mk 0 1) 1).1) (maskOf (Sl.mk false [1]))).1) (Link.mk 0 1) 0).1) (Link.mk 0 0) (Sl.mk true [])).2) == 40)))) ?_
         refine rvP C (.pv (.lit (.bool (((nSend ((nTake ((nWall ((nTake ((nSend ((nSend newN (Link.mk 0 1) (Sl.mk false [97])).1) (Link.mk 0 1) (Sl.mk false [98])).1) (Link.mk 0 1) 1).1) (maskOf (Sl.mk false [1]))).1) (Link.mk 0 1) 0).1) (Link.mk 0 0) (Sl.mk true [])).2) == 40)))) ?_
         refine rvP C (.pv (.lit (.bool (((nSend ((nTake ((nWall ((nTake ((nSend ((nSend newN (Link.mk 0 1) (Sl.mk false [97])).1) (Link.mk 0 1) (Sl.mk false [98])).1) (Link.mk 0 1) 1).1) (maskOf (Sl.mk false [1]))).1) (Link.mk 0 1) 0).1) (Link.mk 0 0) (Sl.mk true [])).2) == 40)))) ?_
         refine rvc_nil ?_
         refine Awp.ret ?_
         subst hR
         exact ⟨.inl rfl, rfl⟩
        ·
         replace hR := of_false h8 hR
         refine rvS ?_
         refine rvS ?_
         refine rvS ?_
         refine rvS ?_
         refine rvP C (.pv (.lit (.bool false))) ?_
         refine rvP C (.pv (.lit (.bool false))) ?_
         refine rvc_nil ?_
         refine Awp.ret ?_
         subst hR
         exact ⟨.inl rfl, rfl⟩
       ·
        replace hR := of_false h7 hR
        refine rvS ?_
        refine rvS ?_
        refine rvS ?_
        refine rvS ?_
        refine rvP C (.pv (.lit (.bool false))) ?_
        refine rvP C (.pv (.lit (.bool false))) ?_
        refine rvS ?_
        refine rvS ?_
        refine rvS ?_
        refine rvS ?_
        refine rvP C (.pv (.lit (.bool false))) ?_
        refine rvP C (.pv (.lit (.bool false))) ?_
        refine rvc_nil ?_
        refine Awp.ret ?_
        subst hR
        exact ⟨.inl rfl, rfl⟩
      ·
       replace hR := of_false h6 hR
       refine rvS ?_
       refine rvS ?_
       refine rvP C (.pv (.lit (.bool false))) ?_
       refine rvP C (.pv (.lit (.bool false))) ?_
       refine rvS ?_
       refine rvS ?_
       refine rvS ?_
       refine rvS ?_
       refine rvP C (.pv (.lit (.bool false))) ?_
       refine rvP C (.pv (.lit (.bool false))) ?_
       refine rvS ?_
       refine rvS ?_
       refine rvS ?_
       refine rvS ?_
       refine rvP C (.pv (.lit (.bool false))) ?_
       refine rvP C (.pv (.lit (.bool false))) ?_
       refine rvc_nil ?_
       refine Awp.ret ?_
       subst hR
       exact ⟨.inl rfl, rfl⟩
     ·
      replace hR := of_false h5 hR
      refine rvS ?_
      refine rvS ?_
      refine rvP C (.pv (.lit (.bool false))) ?_
      refine rvP C (.pv (.lit (.bool false))) ?_
      refine rvS ?_
      refine rvS ?_
      refine rvP C (.pv (.lit (.bool false))) ?_
      refine rvP C (.pv (.lit (.bool false))) ?_
      refine rvS ?_
      refine rvS ?_
      refine rvS ?_
      refine rvS ?_
      refine rvP C (.pv (.lit (.bool false))) ?_
      refine rvP C (.pv (.lit (.bool false))) ?_
      refine rvS ?_
      refine rvS ?_
      refine rvS ?_
      refine rvS ?_
      refine rvP C (.pv (.lit (.bool false))) ?_
      refine rvP C (.pv (.lit (.bool false))) ?_
      refine rvc_nil ?_
      refine Awp.ret ?_
      subst hR
      exact ⟨.inl rfl, rfl⟩
    ·
     replace hR := of_false h4 hR
     refine rvS ?_
     refine rvS ?_
     refine rvP C (.pv (.lit (.bool false))) ?_
     refine rvP C (.pv (.lit (.bool false))) ?_
     refine rvS ?_
     refine rvS ?_
     refine rvP C (.pv (.lit (.bool false))) ?_
     refine rvP C (.pv (.lit (.bool false))) ?_
     refine rvS ?_
     refine rvS ?_
     refine rvP C (.pv (.lit (.bool false))) ?_
     refine rvP C (.pv (.lit (.bool false))) ?_
     refine rvS ?_
     refine rvS ?_
     refine rvS ?_
     refine rvS ?_
     refine rvP C (.pv (.lit (.bool false))) ?_
     refine rvP C (.pv (.lit (.bool false))) ?_
     refine rvS ?_
     refine rvS ?_
     refine rvS ?_
     refine rvS ?_
     refine rvP C (.pv (.lit (.bool false))) ?_
     refine rvP C (.pv (.lit (.bool false))) ?_
     refine rvc_nil ?_
     refine Awp.ret ?_
     subst hR
     exact ⟨.inl rfl, rfl⟩
   ·
    replace hR := of_false h3 hR
    refine rvS ?_
    refine rvP C (.pv (.lit (.bool false))) ?_
    refine rvP C (.pv (.lit (.bool false))) ?_
    refine rvS ?_
    refine rvS ?_
    refine rvP C (.pv (.lit (.bool false))) ?_
    refine rvP C (.pv (.lit (.bool false))) ?_
    refine rvS ?_
    refine rvS ?_
    refine rvP C (.pv (.lit (.bool false))) ?_
    refine rvP C (.pv (.lit (.bool false))) ?_
    refine rvS ?_
    refine rvS ?_
    refine rvP C (.pv (.lit (.bool false))) ?_
    refine rvP C (.pv (.lit (.bool false))) ?_
    refine rvS ?_
    refine rvS ?_
    refine rvS ?_
    refine rvS ?_
    refine rvP C (.pv (.lit (.bool false))) ?_
    refine rvP C (.pv (.lit (.bool false))) ?_
    refine rvS ?_
    refine rvS ?_
    refine rvS ?_
    refine rvS ?_
    refine rvP C (.pv (.lit (.bool false))) ?_
    refine rvP C (.pv (.lit (.bool false))) ?_
    refine rvc_nil ?_
    refine Awp.ret ?_
    subst hR
    exact ⟨.inl rfl, rfl⟩
end Go.Proofs.Ytpeeofofagfooaa
/- An abstract machine over the kit's calls, part 46: the worlds that a sort of Go's library passes through. No conditions. -/
namespace Go.Am
open Go.Sort
section
variable {α : Type} [Inhabited α] {enc : α → Value} {w : World} {blk off m : Nat} {d : Array α} {os : Array Obj}
end
end Go.Am
/- An abstract machine over the kit's calls, part 48: a row of one's own is sorted by Go's library: elements of several cells. No conditions. -/
namespace Go.Am
end Go.Am
/- Links sorted: slices.SortFunc's contract off the shelf of Go's library. No conditions. -/
namespace Go.Proofs.Ytpeeofofagfooaa
open Go.Am
open Go.Shelf (Ren)
/-- Links that may be. -/
abbrev FL := { l : Link // fitsL l = true }
instance : Inhabited FL := ⟨⟨⟨0, 1⟩, rfl⟩⟩
end Go.Proofs.Ytpeeofofagfooaa
/- All links with messages, in order. No conditions. -/
namespace Go.Proofs.Ytpeeofofagfooaa
open Go.Am
end Go.Proofs.Ytpeeofofagfooaa
/- Calls that may be gone through are few. No conditions. -/
namespace Go.Proofs.Ytpeeofofagfooaa
open Go.Am
end Go.Proofs.Ytpeeofofagfooaa
/- Law: nets that no call made. No conditions. -/
namespace Go.Proofs.Ytpeeofofagfooaa
open Go.Am
def lawNobody (k : Do) : Bool :=
  (bif (!(short (Sl.mk false [(Sl.mk false [k])]))) then (awake ) else (bif ((IntKind.i64.wrap ((IntKind.i64.wrap ((IntKind.i64.wrap ((IntKind.i64.wrap ((((doesN () k).1.D).length : Int) + (((nPeekN () k.l k.i).1.D).length : Int))) + (nLenN () k.l))) + (nLostN ()))) + (((nBusyN ()).D).length : Int))) != 0) then false else (bif (doesN () k).2.1 then false else (bif (((doesN () k).2.2) != 6) then false else (bif (((nPeekN () k.l k.i).2) != 6) then false else (bif ((IntKind.i64.wrap ((IntKind.i64.wrap ((IntKind.i64.wrap ((IntKind.i64.wrap ((((doesX (Net.mk [] 0 0 false) k).1.D).length : Int) + (((nPeekX (Net.mk [] 0 0 false) k.l k.i).1.D).length : Int))) + (nLenX (Net.mk [] 0 0 false) k.l))) + (nLostX (Net.mk [] 0 0 false)))) + (((nBusyX (Net.mk [] 0 0 false)).D).length : Int))) != 0) then false else (bif (doesX (Net.mk [] 0 0 false) k).2.1 then false else (bif (((doesX (Net.mk [] 0 0 false) k).2.2) != 6) then false else (bif (((nPeekX (Net.mk [] 0 0 false) k.l k.i).2) != 6) then false else (awake ))))))))))
theorem lawNobody_calls (k : Do)  : PCalls Try.prog 8 [.agg [.pv (.lit (.int .i64 k.op)), .pv (.lit (.int .i64 k.i)), .pv (.lit (.int .i64 k.l.from_)), .pv (.lit (.int .i64 k.l.to)), sS (some k.b.nil) (eI .u8) k.b.D, .pv (.lit (.int .u64 k.side))]] (.pv (.lit (.bool (lawNobody k)))) := by
 generalize hR : lawNobody k = R
 refine PCalls.of_body tabOk Try.func8 rfl rfl rfl rfl rfl mixed fun E hP C hI => ?_
 refine Awp.consP C ?_
 refine rvc_un (rexec_prim C (δ := { v := .ptr 1 0, new := [(1, .cells [.pv (.lit (.int .i64 k.op)), .pv (.lit (.int .i64 k.i)), .pv (.lit (.int .i64 k.l.from_)), .pv (.lit (.int .i64 k.l.to)), sS (some k.b.nil) (eI .u8) k.b.D, .pv (.lit (.int .u64 k.side))])] }) rfl rfl rfl rfl trivial rfl ?_)
 refine rvP C (.pv (.lit (.bool false))) ?_
 refine rvc_nil ?_
 refine Awp.seq ?_
 refine Awp.consP C ?_
 refine rvP C (.agg [.pv (.lit (.int .i64 k.op)), .pv (.lit (.int .i64 k.i)), .pv (.lit (.int .i64 k.l.from_)), .pv (.lit (.int .i64 k.l.to)), sS (some k.b.nil) (eI .u8) k.b.D, .pv (.lit (.int .u64 k.side))]) ?_
 refine rvc_un (rexec_buildSliceF C eDo [k] rfl rfl rfl rfl rfl rfl rfl (by decide) rfl ?_)
 refine rvc_un (rexec_buildSliceF C (eSl eDo) [(Sl.mk false [k])] rfl rfl rfl rfl rfl rfl rfl (by decide) rfl ?_)
 refine rvc_un (rexec_call hP C rfl rfl rfl (short_calls (Sl.mk false [(Sl.mk false [k])]) (by simp)) ?_)
 refine rvP C (.pv (.lit (.bool (!(short (Sl.mk false [(Sl.mk false [k])])))))) ?_
 refine rvc_nil ?_
 refine Awp.cond (b := (!(short (Sl.mk false [(Sl.mk false [k])])))) rfl (fun h1 => ?_) (fun h1 => ?_)
 ·
  replace hR := of_true h1 hR
  refine Awp.consP C ?_
  refine rvc_un (rexec_call hP C rfl rfl rfl (awake_calls ) ?_)
  refine rvP C (.pv (.lit (.bool (awake )))) ?_
  refine rvc_nil ?_
  refine Awp.ret ?_
  subst hR
  exact ⟨.inl rfl, rfl⟩
 ·
  replace hR := of_false h1 hR
  refine Awp.skip ?_
  refine Awp.seq ?_
  refine Awp.consP C ?_
  refine rvP C (.agg [.pv (.lit (.map none)), .pv (.lit (.int .u64 0)), .pv (.lit (.int .i64 0)), .pv (.lit (.bool false))]) ?_
  refine rvc_un (rexec_prim C (δ := { v := .ptr 17 0, new := [(17, .cells [.pv (.lit (.map none)), .pv (.lit (.int .u64 0)), .pv (.lit (.int .i64 0)), .pv (.lit (.bool false))])] }) rfl rfl rfl rfl trivial rfl ?_)
  refine rvc_un (rexec_prim C (δ := { v := .sl 18 0 2 1 true, new := [(18, .cells [.pv (.lit (.pointer none)), .ptr 17 0])] }) rfl rfl rfl rfl trivial rfl ?_)
  refine rvP C (.pv (.lit (.int .i64 2))) ?_
  refine rvP C (.pv (.lit (.int .i64 0))) ?_
  refine rvc_nil ?_
  refine Awp.block ?_
  refine Awp.rounds 3 ?_
  refine Arounds.succ ?_
  refine Awp.consP C ?_
  refine rvP C (.pv (.lit (.bool true))) ?_
  refine rvc_nil ?_
  refine Awp.seq ?_
  refine Awp.condT (b := true) rfl rfl ?_
  refine Awp.skip ?_
  refine Awp.seq ?_
  refine Awp.block ?_
  refine Awp.consP C ?_
  refine rvc_un (rexec_prim C (δ := { v := .ptr 18 0 }) rfl rfl rfl rfl (by decide) rfl ?_)
  refine rvP C (.pv (.lit (.pointer none))) ?_
  refine rvP C (.pv (.lit (.pointer none))) ?_
  refine rvc_nil ?_
  refine Awp.cons C (fun _ => .writer) (by kernel_rfl) ?_
  refine rvP C (.pv (.lit (.pointer none))) ?_
  refine rvP C (.agg [.pv (.lit (.int .i64 k.op)), .pv (.lit (.int .i64 k.i)), .pv (.lit (.int .i64 k.l.from_)), .pv (.lit (.int .i64 k.l.to)), sS (some k.b.nil) (eI .u8) k.b.D, .pv (.lit (.int .u64 k.side))]) ?_
  refine rvc_un (rexec_call hP C rfl rfl rfl (doesN_calls () k) ?_)
  refine rvP C (.tup [sS (some (doesN () k).1.nil) (eI .u8) ((doesN () k).1.D), .pv (.lit (.bool ((doesN () k).2.1))), .pv (.lit (.int .i64 ((doesN () k).2.2)))]) ?_
  refine rvP C (sS (some (doesN () k).1.nil) (eI .u8) ((doesN () k).1.D)) ?_
  refine rvP C (.pv (.lit (.bool ((doesN () k).2.1)))) ?_
  refine rvP C (.pv (.lit (.int .i64 ((doesN () k).2.2)))) ?_
  refine rvP C (sS (some (doesN () k).1.nil) (eI .u8) ((doesN () k).1.D)) ?_
  refine rvP C (.pv (.lit (.bool ((doesN () k).2.1)))) ?_
  refine rvP C (.pv (.lit (.int .i64 ((doesN () k).2.2)))) ?_
  refine rvc_nil ?_
  refine Awp.cons C (fun _ => .writer) (by kernel_rfl) ?_
  refine rvP C (.pv (.lit (.pointer none))) ?_
  refine rvP C (.ptr 1 2) ?_
  refine rvP C (.agg [.pv (.lit (.int .i64 k.l.from_)), .pv (.lit (.int .i64 k.l.to))]) ?_
  refine rvP C (.ptr 1 1) ?_
  refine rvP C (.pv (.lit (.int .i64 k.i))) ?_
  refine rvc_un (rexec_call hP C rfl rfl rfl (nPeekN_calls () k.l k.i) ?_)
  refine rvP C (.tup [sS (some (nPeekN () k.l k.i).1.nil) (eI .u8) ((nPeekN () k.l k.i).1.D), .pv (.lit (.int .i64 ((nPeekN () k.l k.i).2)))]) ?_
  refine rvP C (sS (some (nPeekN () k.l k.i).1.nil) (eI .u8) ((nPeekN () k.l k.i).1.D)) ?_
  refine rvP C (.pv (.lit (.int .i64 ((nPeekN () k.l k.i).2)))) ?_
  refine rvP C (sS (some (nPeekN () k.l k.i).1.nil) (eI .u8) ((nPeekN () k.l k.i).1.D)) ?_
  refine rvP C (.pv (.lit (.int .i64 ((nPeekN () k.l k.i).2)))) ?_
  refine rvc_nil ?_
  refine Awp.cons C (fun _ => .writer) (by kernel_rfl) ?_
  refine rvP C (sS (some (doesN () k).1.nil) (eI .u8) ((doesN () k).1.D)) ?_
  refine rvP C (.pv (.lit (.int .i64 (((doesN () k).1.D).length : Int)))) ?_
  refine rvP C (sS (some (nPeekN () k.l k.i).1.nil) (eI .u8) ((nPeekN () k.l k.i).1.D)) ?_
  refine rvP C (.pv (.lit (.int .i64 (((nPeekN () k.l k.i).1.D).length : Int)))) ?_
  refine rvP C (.pv (.lit (.int .i64 (IntKind.i64.wrap ((((doesN () k).1.D).length : Int) + (((nPeekN () k.l k.i).1.D).length : Int)))))) ?_
  refine rvP C (.pv (.lit (.pointer none))) ?_
  refine rvP C (.ptr 1 2) ?_
  refine rvP C (.agg [.pv (.lit (.int .i64 k.l.from_)), .pv (.lit (.int .i64 k.l.to))]) ?_
  refine rvc_un (rexec_call hP C rfl rfl rfl (nLenN_calls () k.l) ?_)
  refine rvP C (.pv (.lit (.int .i64 (IntKind.i64.wrap ((IntKind.i64.wrap ((((doesN () k).1.D).length : Int) + (((nPeekN () k.l k.i).1.D).length : Int))) + (nLenN () k.l)))))) ?_
  refine rvP C (.pv (.lit (.pointer none))) ?_
  refine rvc_un (rexec_call hP C rfl rfl rfl (nLostN_calls ()) ?_)
  refine rvP C (.pv (.lit (.int .i64 (IntKind.i64.wrap ((IntKind.i64.wrap ((IntKind.i64.wrap ((((doesN () k).1.D).length : Int) + (((nPeekN () k.l k.i).1.D).length : Int))) + (nLenN () k.l))) + (nLostN ())))))) ?_
  refine rvP C (.pv (.lit (.pointer none))) ?_
  refine rvc_un (rexec_call hP C rfl rfl rfl (nBusyN_calls ()) ?_)
  refine rvP C (.pv (.lit (.int .i64 (((nBusyN ()).D).length : Int)))) ?_
  refine rvP C (.pv (.lit (.int .i64 (IntKind.i64.wrap ((IntKind.i64.wrap ((IntKind.i64.wrap ((IntKind.i64.wrap ((((doesN () k).1.D).length : Int) + (((nPeekN () k.l k.i).1.D).length : Int))) + (nLenN () k.l))) + (nLostN ()))) + (((nBusyN ()).D).length : Int)))))) ?_
  refine rvP C (.pv (.lit (.bool ((IntKind.i64.wrap ((IntKind.i64.wrap ((IntKind.i64.wrap ((IntKind.i64.wrap ((((doesN () k).1.D).length : Int) + (((nPeekN () k.l k.i).1.D).length : Int))) + (nLenN () k.l))) + (nLostN ()))) + (((nBusyN ()).D).length : Int))) != 0)))) ?_
  refine rvP C (.pv (.lit (.bool ((IntKind.i64.wrap ((IntKind.i64.wrap ((IntKind.i64.wrap ((IntKind.i64.wrap ((((doesN () k).1.D).length : Int) + (((nPeekN () k.l k.i).1.D).length : Int))) + (nLenN () k.l))) + (nLostN ()))) + (((nBusyN ()).D).length : Int))) != 0)))) ?_
  refine rvc_case 58 ((IntKind.i64.wrap ((IntKind.i64.wrap ((IntKind.i64.wrap ((IntKind.i64.wrap ((((doesN () k).1.D).length : Int) + (((nPeekN () k.l k.i).1.D).length : Int))) + (nLenN () k.l))) + (nLostN ()))) + (((nBusyN ()).D).length : Int))) != 0) rfl (fun h2 => ?_) (fun h2 => ?_)
  ·
   replace hR := of_true h2 hR
   refine rvS ?_
   refine rvP C (.pv (.lit (.bool true))) ?_
   refine rvP C (.pv (.lit (.bool true))) ?_
   refine rvS ?_
   refine rvS ?_
   refine rvP C (.pv (.lit (.bool true))) ?_
   refine rvP C (.pv (.lit (.bool true))) ?_
   refine rvS ?_
   refine rvS ?_
   refine rvP C (.pv (.lit (.bool true))) ?_
   refine rvP C (.pv (.lit (.bool true))) ?_
   refine rvS ?_
   refine rvS ?_
   refine rvS ?_
   refine rvP C (.pv (.lit (.bool true))) ?_
   refine rvc_nil ?_
   refine Awp.condT (b := true) rfl rfl ?_
   refine Awp.consP C ?_
   refine rvP C (.pv (.lit (.bool false))) ?_
   refine rvc_nil ?_
   refine Awp.ret ?_
   subst hR
   exact ⟨.inl rfl, rfl⟩
  ·
   replace hR := of_false h2 hR
   refine rvO C (.pv (.lit (.bool ((doesN () k).2.1)))) ?_
   refine rvP C (.pv (.lit (.bool ((doesN () k).2.1)))) ?_
   refine rvP C (.pv (.lit (.bool ((doesN () k).2.1)))) ?_
   refine rvc_case 61 ((doesN () k).2.1) rfl (fun h3 => ?_) (fun h3 => ?_)
   ·
    replace hR := of_true h3 hR
    refine rvS ?_
    refine rvS ?_
    refine rvP C (.pv (.lit (.bool true))) ?_
    refine rvP C (.pv (.lit (.bool true))) ?_
    refine rvS ?_
    refine rvS ?_
    refine rvP C (.pv (.lit (.bool true))) ?_
    refine rvP C (.pv (.lit (.bool true))) ?_
    refine rvS ?_
    refine rvS ?_
    refine rvS ?_
    refine rvP C (.pv (.lit (.bool true))) ?_
    refine rvc_nil ?_
    refine Awp.condT (b := true) rfl rfl ?_
    refine Awp.consP C ?_
    refine rvP C (.pv (.lit (.bool false))) ?_
    refine rvc_nil ?_
    refine Awp.ret ?_
    subst hR
    exact ⟨.inl rfl, rfl⟩
   ·
    replace hR := of_false h3 hR
    refine rvO C (.pv (.lit (.int .i64 ((doesN () k).2.2)))) ?_
    refine rvO C (.pv (.lit (.bool (((doesN () k).2.2) != 6)))) ?_
    refine rvP C (.pv (.lit (.bool (((doesN () k).2.2) != 6)))) ?_
    refine rvP C (.pv (.lit (.bool (((doesN () k).2.2) != 6)))) ?_
    refine rvc_case 65 (((doesN () k).2.2) != 6) rfl (fun h4 => ?_) (fun h4 => ?_)
    ·
     replace hR := of_true h4 hR
     refine rvS ?_
     refine rvS ?_
     refine rvP C (.pv (.lit (.bool true))) ?_
     refine rvP C (.pv (.lit (.bool true))) ?_
     refine rvS ?_
     refine rvS ?_
     refine rvS ?_
     refine rvP C (.pv (.lit (.bool true))) ?_
     refine rvc_nil ?_
     refine Awp.condT (b := true) rfl rfl ?_
     refine Awp.consP C ?_
     refine rvP C (.pv (.lit (.bool false))) ?_
     refine rvc_nil ?_
     refine Awp.ret ?_
     subst hR
     exact ⟨.inl rfl, rfl⟩
    ·
     replace hR := of_false h4 hR
     refine rvO C (.pv (.lit (.int .i64 ((nPeekN () k.l k.i).2)))) ?_
     refine rvO C (.pv (.lit (.bool (((nPeekN () k.l k.i).2) != 6)))) ?_
     refine rvP C (.pv (.lit (.bool (((nPeekN () k.l k.i).2) != 6)))) ?_
     refine rvP C (.pv (.lit (.bool (((nPeekN () k.l k.i).2) != 6)))) ?_
     refine rvc_case 69 (((nPeekN () k.l k.i).2) != 6) rfl (fun h5 => ?_) (fun h5 => ?_)
     ·
      replace hR := of_true h5 hR
      refine rvS ?_
      refine rvS ?_
      refine rvS ?_
      refine rvP C (.pv (.lit (.bool true))) ?_
      refine rvc_nil ?_
      refine Awp.condT (b := true) rfl rfl ?_
      refine Awp.consP C ?_
      refine rvP C (.pv (.lit (.bool false))) ?_
      refine rvc_nil ?_
      refine Awp.ret ?_
      subst hR
      exact ⟨.inl rfl, rfl⟩
     ·
      replace hR := of_false h5 hR
      refine rvO C (.pv (.lit (.pointer none))) ?_
      refine rvc_open rfl rfl rfl (rexec_call hP C rfl rfl rfl (nCloneN_calls ()) ?_)
      refine rvc_open rfl rfl rfl (rexec_eqPtr C true true (z := .pv (.lit (.bool false))) rfl rfl rfl rfl rfl rfl rfl rfl rfl ?_)
      refine rvP C (.pv (.lit (.bool false))) ?_
      refine rvc_nil ?_
      refine Awp.condF (b := false) rfl rfl ?_
      refine Awp.skip ?_
      refine Awp.regionP C ?_
      refine rvP C (.pv (.lit (.int .i64 1))) ?_
      refine rvP C (.pv (.lit (.int .i64 1))) ?_
      refine rvc_nil ?_
      refine Arounds.succ ?_
      refine Awp.wordsR [(1, .ptr 1 0), (18, .sl 18 0 2 1 true), (19, .pv (.lit (.int .i64 2))), (20, .pv (.lit (.int .i64 1))), (59, .pv (.lit (.bool ((doesN () k).2.1)))), (62, .pv (.lit (.int .i64 ((doesN () k).2.2)))), (63, .pv (.lit (.bool (((doesN () k).2.2) != 6)))), (66, .pv (.lit (.int .i64 ((nPeekN () k.l k.i).2)))), (67, .pv (.lit (.bool (((nPeekN () k.l k.i).2) != 6)))), (70, .pv (.lit (.pointer none))), (71, .pv (.lit (.pointer none))), (72, .pv (.lit (.bool false)))] [(1, .cells [.pv (.lit (.int .i64 k.op)), .pv (.lit (.int .i64 k.i)), .pv (.lit (.int .i64 k.l.from_)), .pv (.lit (.int .i64 k.l.to)), sS (some k.b.nil) (eI .u8) k.b.D, .pv (.lit (.int .u64 k.side))]), (17, .cells [.pv (.lit (.map none)), .pv (.lit (.int .u64 0)), .pv (.lit (.int .i64 0)), .pv (.lit (.bool false))]), (18, .cells [.pv (.lit (.pointer none)), .ptr 17 0])] [1, 17, 18] (WeakerR.ofL (Ks := [1, 17, 18]) hI ⟨⟨rfl, rfl⟩, ⟨rfl, rfl⟩, ⟨rfl, rfl⟩, ⟨rfl, rfl⟩, ⟨rfl, rfl⟩, ⟨rfl, rfl⟩, ⟨rfl, rfl⟩, ⟨rfl, rfl⟩, ⟨rfl, rfl⟩, ⟨rfl, rfl⟩, ⟨rfl, rfl⟩, ⟨rfl, rfl⟩, trivial⟩ (okH_cons rfl rfl rfl rfl (okH_cons rfl rfl rfl rfl (okH_cons rfl rfl rfl rfl (okH_nil)))) rfl) ?_
      refine Awp.consP C ?_
      refine rvP C (.pv (.lit (.bool true))) ?_
      refine rvc_nil ?_
      refine Awp.seq ?_
      refine Awp.condT (b := true) rfl rfl ?_
      refine Awp.skip ?_
      refine Awp.seq ?_
      refine Awp.block ?_
      refine Awp.consP C ?_
      refine rvc_un (rexec_prim C (δ := { v := .ptr 18 1 }) rfl rfl rfl rfl (by decide) rfl ?_)
      refine rvP C (.ptr 17 0) ?_
      refine rvP C (.ptr 17 0) ?_
      refine rvc_nil ?_
      refine Awp.cons C (fun _ => .writer) (by kernel_rfl) ?_
      refine rvP C (.ptr 17 0) ?_
      refine rvP C (.agg [.pv (.lit (.int .i64 k.op)), .pv (.lit (.int .i64 k.i)), .pv (.lit (.int .i64 k.l.from_)), .pv (.lit (.int .i64 k.l.to)), sS (some k.b.nil) (eI .u8) k.b.D, .pv (.lit (.int .u64 k.side))]) ?_
      refine rvc_un (rexec_callObj hP C (fun b => bif b == 0 then 17 else b) [] rfl rfl rfl (doesX_calls (Net.mk [] 0 0 false) k rfl) rfl rfl trivial (of_decide_eq_true rfl) rfl (of_decide_eq_true rfl) (of_decide_eq_true rfl) allB_nil allB_nil allB_nil ?_ rfl allB_nil)
      refine rvP C (.tup [sS (some (doesX (Net.mk [] 0 0 false) k).1.nil) (eI .u8) ((doesX (Net.mk [] 0 0 false) k).1.D), .pv (.lit (.bool ((doesX (Net.mk [] 0 0 false) k).2.1))), .pv (.lit (.int .i64 ((doesX (Net.mk [] 0 0 false) k).2.2)))]) ?_
      refine rvP C (sS (some (doesX (Net.mk [] 0 0 false) k).1.nil) (eI .u8) ((doesX (Net.mk [] 0 0 false) k).1.D)) ?_
      refine rvP C (.pv (.lit (.bool ((doesX (Net.mk [] 0 0 false) k).2.1)))) ?_
      refine rvP C (.pv (.lit (.int .i64 ((doesX (Net.mk [] 0 0 false) k).2.2)))) ?_
      refine rvP C (sS (some (doesX (Net.mk [] 0 0 false) k).1.nil) (eI .u8) ((doesX (Net.mk [] 0 0 false) k).1.D)) ?_
      refine rvP C (.pv (.lit (.bool ((doesX (Net.mk [] 0 0 false) k).2.1)))) ?_
      refine rvP C (.pv (.lit (.int .i64 ((doesX (Net.mk [] 0 0 false) k).2.2)))) ?_
      refine rvc_nil ?_
      refine Awp.cons C (fun _ => .writer) (by kernel_rfl) ?_
      refine rvP C (.ptr 17 0) ?_
      refine rvP C (.ptr 1 2) ?_
      refine rvP C (.agg [.pv (.lit (.int .i64 k.l.from_)), .pv (.lit (.int .i64 k.l.to))]) ?_
      refine rvP C (.ptr 1 1) ?_
      refine rvP C (.pv (.lit (.int .i64 k.i))) ?_
      refine rvc_un (rexec_callObj hP C (fun b => bif b == 0 then 17 else b) [] rfl rfl rfl (nPeekX_calls (Net.mk [] 0 0 false) k.l k.i rfl) rfl rfl trivial (of_decide_eq_true rfl) rfl (of_decide_eq_true rfl) (of_decide_eq_true rfl) allB_nil allB_nil allB_nil ?_ rfl allB_nil)
      refine rvP C (.tup [sS (some (nPeekX (Net.mk [] 0 0 false) k.l k.i).1.nil) (eI .u8) ((nPeekX (Net.mk [] 0 0 false) k.l k.i).1.D), .pv (.lit (.int .i64 ((nPeekX (Net.mk [] 0 0 false) k.l k.i).2)))]) ?_
      refine rvP C (sS (some (nPeekX (Net.mk [] 0 0 false) k.l k.i).1.nil) (eI .u8) ((nPeekX (Net.mk [] 0 0 false) k.l k.i).1.D)) ?_
      refine rvP C (.pv (.lit (.int .i64 ((nPeekX (Net.mk [] 0 0 false) k.l k.i).2)))) ?_
      refine rvP C (sS (some (nPeekX (Net.mk [] 0 0 false) k.l k.i).1.nil) (eI .u8) ((nPeekX (Net.mk [] 0 0 false) k.l k.i).1.D)) ?_
      refine rvP C (.pv (.lit (.int .i64 ((nPeekX (Net.mk [] 0 0 false) k.l k.i).2)))) ?_
      refine rvc_nil ?_
      refine Awp.cons C (fun _ => .writer) (by kernel_rfl) ?_
      refine rvP C (sS (some (doesX (Net.mk [] 0 0 false) k).1.nil) (eI .u8) ((doesX (Net.mk [] 0 0 false) k).1.D)) ?_
      refine rvP C (.pv (.lit (.int .i64 (((doesX (Net.mk [] 0 0 false) k).1.D).length : Int)))) ?_
      refine rvP C (sS (some (nPeekX (Net.mk [] 0 0 false) k.l k.i).1.nil) (eI .u8) ((nPeekX (Net.mk [] 0 0 false) k.l k.i).1.D)) ?_
      refine rvP C (.pv (.lit (.int .i64 (((nPeekX (Net.mk [] 0 0 false) k.l k.i).1.D).length : Int)))) ?_
      refine rvP C (.pv (.lit (.int .i64 (IntKind.i64.wrap ((((doesX (Net.mk [] 0 0 false) k).1.D).length : Int) + (((nPeekX (Net.mk [] 0 0 false) k.l k.i).1.D).length : Int)))))) ?_
      refine rvP C (.ptr 17 0) ?_
      refine rvP C (.ptr 1 2) ?_
      refine rvP C (.agg [.pv (.lit (.int .i64 k.l.from_)), .pv (.lit (.int .i64 k.l.to))]) ?_
      refine rvc_un (rexec_callObj hP C (fun b => bif b == 0 then 17 else b) [] rfl rfl rfl (nLenX_calls (Net.mk [] 0 0 false) k.l rfl) rfl rfl trivial (of_decide_eq_true rfl) rfl (of_decide_eq_true rfl) (of_decide_eq_true rfl) allB_nil allB_nil allB_nil ?_ rfl allB_nil)
      refine rvP C (.pv (.lit (.int .i64 (IntKind.i64.wrap ((IntKind.i64.wrap ((((doesX (Net.mk [] 0 0 false) k).1.D).length : Int) + (((nPeekX (Net.mk [] 0 0 false) k.l k.i).1.D).length : Int))) + (nLenX (Net.mk [] 0 0 false) k.l)))))) ?_
      refine rvP C (.ptr 17 0) ?_
      refine rvc_un (rexec_callObj hP C (fun b => bif b == 0 then 17 else b) [] rfl rfl rfl (nLostX_calls (Net.mk [] 0 0 false) rfl) rfl rfl trivial (of_decide_eq_true rfl) rfl (of_decide_eq_true rfl) (of_decide_eq_true rfl) allB_nil allB_nil allB_nil ?_ rfl allB_nil)
      refine rvP C (.pv (.lit (.int .i64 (IntKind.i64.wrap ((IntKind.i64.wrap ((IntKind.i64.wrap ((((doesX (Net.mk [] 0 0 false) k).1.D).length : Int) + (((nPeekX (Net.mk [] 0 0 false) k.l k.i).1.D).length : Int))) + (nLenX (Net.mk [] 0 0 false) k.l))) + (nLostX (Net.mk [] 0 0 false))))))) ?_
      refine rvP C (.ptr 17 0) ?_
      refine rvc_un (rexec_callObj hP C (fun b => bif b == 0 then 17 else b) [] rfl rfl rfl (nBusyX_calls (Net.mk [] 0 0 false) rfl) rfl rfl trivial (of_decide_eq_true rfl) rfl (of_decide_eq_true rfl) (of_decide_eq_true rfl) allB_nil allB_nil allB_nil ?_ rfl allB_nil)
      refine rvP C (.pv (.lit (.int .i64 (((nBusyX (Net.mk [] 0 0 false)).D).length : Int)))) ?_
      refine rvP C (.pv (.lit (.int .i64 (IntKind.i64.wrap ((IntKind.i64.wrap ((IntKind.i64.wrap ((IntKind.i64.wrap ((((doesX (Net.mk [] 0 0 false) k).1.D).length : Int) + (((nPeekX (Net.mk [] 0 0 false) k.l k.i).1.D).length : Int))) + (nLenX (Net.mk [] 0 0 false) k.l))) + (nLostX (Net.mk [] 0 0 false)))) + (((nBusyX (Net.mk [] 0 0 false)).D).length : Int)))))) ?_
      refine rvP C (.pv (.lit (.bool ((IntKind.i64.wrap ((IntKind.i64.wrap ((IntKind.i64.wrap ((IntKind.i64.wrap ((((doesX (Net.mk [] 0 0 false) k).1.D).length : Int) + (((nPeekX (Net.mk [] 0 0 false) k.l k.i).1.D).length : Int))) + (nLenX (Net.mk [] 0 0 false) k.l))) + (nLostX (Net.mk [] 0 0 false)))) + (((nBusyX (Net.mk [] 0 0 false)).D).length : Int))) != 0)))) ?_
      refine rvP C (.pv (.lit (.bool ((IntKind.i64.wrap ((IntKind.i64.wrap ((IntKind.i64.wrap ((IntKind.i64.wrap ((((doesX (Net.mk [] 0 0 false) k).1.D).length : Int) + (((nPeekX (Net.mk [] 0 0 false) k.l k.i).1.D).length : Int))) + (nLenX (Net.mk [] 0 0 false) k.l))) + (nLostX (Net.mk [] 0 0 false)))) + (((nBusyX (Net.mk [] 0 0 false)).D).length : Int))) != 0)))) ?_
      refine rvc_case 58 ((IntKind.i64.wrap ((IntKind.i64.wrap ((IntKind.i64.wrap ((IntKind.i64.wrap ((((doesX (Net.mk [] 0 0 false) k).1.D).length : Int) + (((nPeekX (Net.mk [] 0 0 false) k.l k.i).1.D).length : Int))) + (nLenX (Net.mk [] 0 0 false) k.l))) + (nLostX (Net.mk [] 0 0 false)))) + (((nBusyX (Net.mk [] 0 0 false)).D).length : Int))) != 0) rfl (fun h6 => ?_) (fun h6 => ?_)
      ·
       replace hR := of_true h6 hR
       refine rvS ?_
       refine rvP C (.pv (.lit (.bool true))) ?_
       refine rvP C (.pv (.lit (.bool true))) ?_
       refine rvS ?_
       refine rvS ?_
       refine rvP C (.pv (.lit (.bool true))) ?_
       refine rvP C (.pv (.lit (.bool true))) ?_
       refine rvS ?_
       refine rvS ?_
       refine rvP C (.pv (.lit (.bool true))) ?_
       refine rvP C (.pv (.lit (.bool true))) ?_
       refine rvS ?_
       refine rvS ?_
       refine rvS ?_
       refine rvP C (.pv (.lit (.bool true))) ?_
       refine rvc_nil ?_
       refine Awp.condT (b := true) rfl rfl ?_
       refine Awp.consP C ?_
       refine rvP C (.pv (.lit (.bool false))) ?_
       refine rvc_nil ?_
       refine Awp.ret ?_
       subst hR
       exact ⟨.inl rfl, rfl⟩
      ·
       replace hR := of_false h6 hR
       refine rvO C (.pv (.lit (.bool ((doesX (Net.mk [] 0 0 false) k).2.1)))) ?_
       refine rvP C (.pv (.lit (.bool ((doesX (Net.mk [] 0 0 false) k).2.1)))) ?_
       refine rvP C (.pv (.lit (.bool ((doesX (Net.mk [] 0 0 false) k).2.1)))) ?_
       refine rvc_case 61 ((doesX (Net.mk [] 0 0 false) k).2.1) rfl (fun h7 => ?_) (fun h7 => ?_)
       ·
        replace hR := of_true h7 hR
        refine rvS ?_
        refine rvS ?_
        refine rvP C (.pv (.lit (.bool true))) ?_
        refine rvP C (.pv (.lit (.bool true))) ?_
        refine rvS ?_
        refine rvS ?_
        refine rvP C (.pv (.lit (.bool true))) ?_
        refine rvP C (.pv (.lit (.bool true))) ?_
        refine rvS ?_
        refine rvS ?_
        refine rvS ?_
        refine rvP C (.pv (.lit (.bool true))) ?_
        refine rvc_nil ?_
        refine Awp.condT (b := true) rfl rfl ?_
        refine Awp.consP C ?_
        refine rvP C (.pv (.lit (.bool false))) ?_
        refine rvc_nil ?_
        refine Awp.ret ?_
        subst hR
        exact ⟨.inl rfl, rfl⟩
       ·
        replace hR := of_false h7 hR
        refine rvO C (.pv (.lit (.int .i64 ((doesX (Net.mk [] 0 0 false) k).2.2)))) ?_
        refine rvO C (.pv (.lit (.bool (((doesX (Net.mk [] 0 0 false) k).2.2) != 6)))) ?_
        refine rvP C (.pv (.lit (.bool (((doesX (Net.mk [] 0 0 false) k).2.2) != 6)))) ?_
        refine rvP C (.pv (.lit (.bool (((doesX (Net.mk [] 0 0 false) k).2.2) != 6)))) ?_
        refine rvc_case 65 (((doesX (Net.mk [] 0 0 false) k).2.2) != 6) rfl (fun h8 => ?_) (fun h8 => ?_)
        ·
         replace hR := of_true h8 hR
         refine rvS ?_
         refine rvS ?_
         refine rvP C (.pv (.lit (.bool true))) ?_
         refine rvP C (.pv (.lit (.bool true))) ?_
         refine rvS ?_
         refine rvS ?_
         refine rvS ?_
         refine rvP C (.pv (.lit (.bool true))) ?_
         refine rvc_nil ?_
         refine Awp.condT (b := true) rfl rfl ?_
         refine Awp.consP C ?_
         refine rvP C (.pv (.lit (.bool false))) ?_
         refine rvc_nil ?_
         refine Awp.ret ?_
         subst hR
         exact ⟨.inl rfl, rfl⟩
        ·
         replace hR := of_false h8 hR
         refine rvO C (.pv (.lit (.int .i64 ((nPeekX (Net.mk [] 0 0 false) k.l k.i).2)))) ?_
         refine rvO C (.pv (.lit (.bool (((nPeekX (Net.mk [] 0 0 false) k.l k.i).2) != 6)))) ?_
         refine rvP C (.pv (.lit (.bool (((nPeekX (Net.mk [] 0 0 false) k.l k.i).2) != 6)))) ?_
         refine rvP C (.pv (.lit (.bool (((nPeekX (Net.mk [] 0 0 false) k.l k.i).2) != 6)))) ?_
         refine rvc_case 69 (((nPeekX (Net.mk [] 0 0 false) k.l k.i).2) != 6) rfl (fun h9 => ?_) (fun h9 => ?_)
         ·
          replace hR := of_true h9 hR
          refine rvS ?_
          refine rvS ?_
          refine rvS ?_
          refine rvP C (.pv (.lit (.bool true))) ?_
          refine rvc_nil ?_
          refine Awp.condT (b := true) rfl rfl ?_
          refine Awp.consP C ?_
          refine rvP C (.pv (.lit (.bool false))) ?_
          refine rvc_nil ?_
          refine Awp.ret ?_
          subst hR
          exact ⟨.inl rfl, rfl⟩
         ·
          replace hR := of_false h9 hR
          refine rvO C (.ptr 17 0) ?_
          refine rvc_open rfl rfl rfl (rexec_callObj hP C (fun b => bif b == 0 then 17 else b) [] rfl rfl rfl (nCloneX_calls (Net.mk [] 0 0 false) rfl) rfl rfl trivial (of_decide_eq_true rfl) rfl (of_decide_eq_true rfl) (of_decide_eq_true rfl) allB_nil allB_nil allB_nil ?_ rfl allB_nil)
          refine rvc_open rfl rfl rfl (rexec_eqPtr C true true (z := .pv (.lit (.bool false))) rfl rfl rfl rfl rfl rfl rfl rfl rfl ?_)
          refine rvP C (.pv (.lit (.bool false))) ?_
          refine rvc_nil ?_
          refine Awp.condF (b := false) rfl rfl ?_
          refine Awp.skip ?_
          refine Awp.regionP C ?_
          refine rvP C (.pv (.lit (.int .i64 2))) ?_
          refine rvP C (.pv (.lit (.int .i64 2))) ?_
          refine rvc_nil ?_
          refine Arounds.succ ?_
          refine Awp.wordsR [(1, .ptr 1 0), (18, .sl 18 0 2 1 true), (19, .pv (.lit (.int .i64 2))), (20, .pv (.lit (.int .i64 2))), (59, .pv (.lit (.bool ((doesX (Net.mk [] 0 0 false) k).2.1)))), (62, .pv (.lit (.int .i64 ((doesX (Net.mk [] 0 0 false) k).2.2)))), (63, .pv (.lit (.bool (((doesX (Net.mk [] 0 0 false) k).2.2) != 6)))), (66, .pv (.lit (.int .i64 ((nPeekX (Net.mk [] 0 0 false) k.l k.i).2)))), (67, .pv (.lit (.bool (((nPeekX (Net.mk [] 0 0 false) k.l k.i).2) != 6)))), (70, .ptr 17 0), (71, .pv (.lit (.pointer none))), (72, .pv (.lit (.bool false)))] [(1, .cells [.pv (.lit (.int .i64 k.op)), .pv (.lit (.int .i64 k.i)), .pv (.lit (.int .i64 k.l.from_)), .pv (.lit (.int .i64 k.l.to)), sS (some k.b.nil) (eI .u8) k.b.D, .pv (.lit (.int .u64 k.side))]), (17, .cells [.pv (.lit (.map none)), .pv (.lit (.int .u64 0)), .pv (.lit (.int .i64 0)), .pv (.lit (.bool false))]), (18, .cells [.pv (.lit (.pointer none)), .ptr 17 0])] [1, 17, 18] (WeakerR.ofL (Ks := [1, 17, 18]) hI ⟨⟨rfl, rfl⟩, ⟨rfl, rfl⟩, ⟨rfl, rfl⟩, ⟨rfl, rfl⟩, ⟨rfl, rfl⟩, ⟨rfl, rfl⟩, ⟨rfl, rfl⟩, ⟨rfl, rfl⟩, ⟨rfl, rfl⟩, ⟨rfl, rfl⟩, ⟨rfl, rfl⟩, ⟨rfl, rfl⟩, trivial⟩ (okH_cons rfl rfl rfl rfl (okH_cons rfl rfl rfl rfl (okH_cons rfl rfl rfl rfl (okH_nil)))) rfl) ?_
          refine Awp.consP C ?_
          refine rvP C (.pv (.lit (.bool false))) ?_
          refine rvc_nil ?_
          refine Awp.seq ?_
          refine Awp.condF (b := false) rfl rfl ?_
          refine Awp.exit ?_
          refine Awp.consP C ?_
          refine rvc_un (rexec_call hP C rfl rfl rfl (awake_calls ) ?_)
          refine rvP C (.pv (.lit (.bool (awake )))) ?_
          refine rvc_nil ?_
          refine Awp.ret ?_
          subst hR
          exact ⟨.inl rfl, rfl⟩
end Go.Proofs.Ytpeeofofagfooaa
/- A law: room. No conditions. -/
namespace Go.Proofs.Ytpeeofofagfooaa
open Go.Am
end Go.Proofs.Ytpeeofofagfooaa
/- The law LinksRoom: no link ever has more than eight. No conditions. -/
namespace Go.Proofs.Ytpeeofofagfooaa
open Go.Am
theorem awake_true : awake = true := by decide +kernel
end Go.Proofs.Ytpeeofofagfooaa
/- Inputs of chapter 4, as plain values. No conditions. -/
namespace Go.Proofs.Ytpeeofofagfooaa
open Go.Am
set_option maxRecDepth 100000 in
theorem flat3 {m : Nat} {ps : List PV} (h : Flat Try.prog (m + 1) 3 ps) : ∃ n, ps = [.lit (.int .i64 n)] ∧ (Lit.int .i64 n).wf = true := by
  unfold Flat at h
  rw [Try.underlying3] at h
  exact h
def WT29 (x : Link) : Prop := (Lit.int .i64 x.from_).wf = true ∧ (Lit.int .i64 x.to).wf = true
set_option maxRecDepth 100000 in
theorem flat29 {m : Nat} {ps : List PV} (h : Flat Try.prog (m + 2) 29 ps) : ∃ x : Link, ps = eLink.enc x ∧ WT29 x := by
  unfold Flat at h
  rw [Try.underlying29] at h
  obtain ⟨a0, b0, e0, h0, a1, b1, e1, h1, el⟩ := h
  obtain ⟨x0, rfl, w0⟩ := flat3 (m := m + 0) h0
  obtain ⟨x1, rfl, w1⟩ := flat3 (m := m + 0) h1
  subst el
  subst e1
  subst e0
  exact ⟨⟨x0, x1⟩, rfl, w0, w1⟩
set_option maxRecDepth 100000 in
theorem flat5 {m : Nat} {ps : List PV} (h : Flat Try.prog (m + 1) 5 ps) : ∃ n, ps = [.lit (.int .u8 n)] ∧ (Lit.int .u8 n).wf = true := by
  unfold Flat at h
  rw [Try.underlying5] at h
  exact h
def WT30 (s : Sl Int) : Prop := s.D.length ≤ maxLen ∧ (s.nil = true → s.D = []) ∧ ∀ x ∈ s.D, (Lit.int .u8 x).wf = true
set_option maxRecDepth 100000 in
theorem flat30 {m : Nat} {ps : List PV} (h : Flat Try.prog (m + 2) 30 ps) : ∃ s : Sl Int, ps = [.sl (some s.nil) s.D.length (encL (eI .u8) s.D)] ∧ WT30 s := by
  unfold Flat at h
  rw [Try.underlying30] at h
  obtain ⟨b, D, rfl, h1, h2, h3⟩ := h
  obtain ⟨D2, e1, e2, e3⟩ := enc_list (e := (eI .u8)) (W := fun x => (Lit.int .u8 x).wf = true) D fun y hy => flat5 (h3 y hy)
  rw [e2, ← e1]
  exact ⟨⟨b, D2⟩, rfl, (by show D2.length ≤ _; rw [e1]; exact h1), (fun hb => by have := h2 hb; rw [this] at e1; exact List.eq_nil_of_length_eq_zero e1), e3⟩
set_option maxRecDepth 100000 in
theorem flat31 {m : Nat} {ps : List PV} (h : Flat Try.prog (m + 1) 31 ps) : ∃ n, ps = [.lit (.int .u64 n)] ∧ (Lit.int .u64 n).wf = true := by
  unfold Flat at h
  rw [Try.underlying31] at h
  exact h
def WT33 (x : Do) : Prop := (Lit.int .i64 x.op).wf = true ∧ (Lit.int .i64 x.i).wf = true ∧ WT29 x.l ∧ WT30 x.b ∧ (Lit.int .u64 x.side).wf = true
set_option maxRecDepth 100000 in
theorem flat33 {m : Nat} {ps : List PV} (h : Flat Try.prog (m + 3) 33 ps) : ∃ x : Do, ps = eDo.enc x ∧ WT33 x := by
  unfold Flat at h
  rw [Try.underlying33] at h
  obtain ⟨a0, b0, e0, h0, a1, b1, e1, h1, a2, b2, e2, h2, a3, b3, e3, h3, a4, b4, e4, h4, el⟩ := h
  obtain ⟨x0, rfl, w0⟩ := flat3 (m := m + 1) h0
  obtain ⟨x1, rfl, w1⟩ := flat3 (m := m + 1) h1
  obtain ⟨x2, rfl, w2⟩ := flat29 (m := m + 0) h2
  obtain ⟨x3, rfl, w3⟩ := flat30 (m := m + 0) h3
  obtain ⟨x4, rfl, w4⟩ := flat31 (m := m + 1) h4
  subst el
  subst e4
  subst e3
  subst e2
  subst e1
  subst e0
  exact ⟨⟨x0, x1, x2, x3, x4⟩, rfl, w0, w1, w2, w3, w4⟩
end Go.Proofs.Ytpeeofofagfooaa
/- The contract of the law LinksNobody: it is true, whatever the input. No conditions. -/
namespace Go.Proofs.Ytpeeofofagfooaa
open Go.Am
theorem doesN_nil (k : Do) : (doesN () k).1 = Sl.mk true [] ∧ (doesN () k).2.1 = false ∧ (doesN () k).2.2 = 6 := by
  unfold doesN
  cases (IntKind.i64.wrap ((IntKind.u64.wrap k.op).tmod 9)) == 3 <;> cases (IntKind.i64.wrap ((IntKind.u64.wrap k.op).tmod 9)) == 4 <;> cases (IntKind.i64.wrap ((IntKind.u64.wrap k.op).tmod 9)) == 5 <;> cases (IntKind.i64.wrap ((IntKind.u64.wrap k.op).tmod 9)) == 6 <;> cases (IntKind.i64.wrap ((IntKind.u64.wrap k.op).tmod 9)) == 7 <;> cases (IntKind.i64.wrap ((IntKind.u64.wrap k.op).tmod 9)) == 8 <;> exact ⟨rfl, rfl, rfl⟩
theorem doesX_nil (n : Net) (k : Do) : (doesX n k).1 = Sl.mk true [] ∧ (doesX n k).2.1 = false ∧ (doesX n k).2.2 = 6 := by
  unfold doesX
  cases (IntKind.i64.wrap ((IntKind.u64.wrap k.op).tmod 9)) == 3 <;> cases (IntKind.i64.wrap ((IntKind.u64.wrap k.op).tmod 9)) == 4 <;> cases (IntKind.i64.wrap ((IntKind.u64.wrap k.op).tmod 9)) == 5 <;> cases (IntKind.i64.wrap ((IntKind.u64.wrap k.op).tmod 9)) == 6 <;> cases (IntKind.i64.wrap ((IntKind.u64.wrap k.op).tmod 9)) == 7 <;> cases (IntKind.i64.wrap ((IntKind.u64.wrap k.op).tmod 9)) == 8 <;> exact ⟨rfl, rfl, rfl⟩
theorem lawNobody_true (k : Do) : lawNobody k = true := by
  have h1 := doesN_nil k
  have h2 := doesX_nil (Net.mk [] 0 0 false) k
  unfold lawNobody
  rw [h1.1, h1.2.1, h1.2.2, h2.1, h2.2.1, h2.2.2, awake_true]
  cases !(short (Sl.mk false [(Sl.mk false [k])])) <;> rfl
theorem linksNobody_calls (k : Do) (_w : WT33 k) : PCalls Try.prog 8 [.agg [.pv (.lit (.int .i64 k.op)), .pv (.lit (.int .i64 k.i)), .pv (.lit (.int .i64 k.l.from_)), .pv (.lit (.int .i64 k.l.to)), sS (some k.b.nil) (eI .u8) k.b.D, .pv (.lit (.int .u64 k.side))]] (.pv (.bool true)) := by
  have r := lawNobody_calls k
  rw [lawNobody_true k] at r
  exact r
end Go.Proofs.Ytpeeofofagfooaa
/- An abstract machine over the kit's calls, part 34: three rows of three numbers that are handed in. No conditions. -/
namespace Go.Am
section
variable {H : Type} {enc : TypeId × Value → H} {P : Program} {w : World} {base : Nat} {spare : Nat → Bool} {held : Bool}
end
end Go.Am
/- What all rows of this seat need: no knob is turned, the types are laid out. No conditions. -/
namespace Go.Proofs.Ytpeeofofagfooaa
open Go.Am
theorem own : ownKnob Try.prog.godebug = none := by kernel_rfl
theorem laidOut : laidOutB Try.prog = true := by kernel_rfl
end Go.Proofs.Ytpeeofofagfooaa
