/- An abstract machine over the kit's calls, part 20: variables that are never written again. No conditions. -/
import Derived.Test.YtjhphpoihadmkaaAm18
namespace Go.Am
section steps
variable {E : Env} {T : Tab} {cq : Oper → Cls} {n : Nat} {ops : Array Oper}

theorem makes_box {o : Oper} {t : TypeId} {x : Operand} (ho : o.op = .box t x) {u : AV} {cs : List AV} (hc : cellsOf u = some cs) : Makes E o [u] [] (fun d => .ptr d 0) (.cells cs) := by
  intro ι imm st a w hs hv _
  rw [ho] at hv
  simp only [Op.operands, List.map_cons, List.map_nil] at hv
  have hv := hv.one
  have hcs := cellsOf_holds hc hv (fun c e => by subst e; simp only [VH, PH] at hv; simp [flatB] at hv)
  refine ⟨.cells (a.eval x).cells t, .pointer (some ⟨w.heap.size, 0, none⟩), ?_, ⟨_, _, rfl, ?_, ?_⟩, fun d ι' h => ⟨_, _, h, rfl⟩⟩
  · simp only [execOp, ho, Instr.box, newVar, newRow, newObj, run_bind', Sem.run, run_pure']
    rfl
  · have := hcs.length; simp only [Array.length_toList] at this; omega
  · exact CellsH.of_VHs hcs fun i _ => by simp

/-- A new variable that will not change. -/
theorem Makes.frozenPtr {o : Oper} {vs : List AV} {hs : List (Nat × Blk)} {ps : List PV} (h : Makes E o vs hs (fun d => .ptr d 0) (.cells (ps.map .pv))) (hd : ∀ d, o.dst = some d → d < E.n) : Does E o vs hs { v := .rp ps } := by
  intro ι imm st a w Q hs' hv hh _
  obtain ⟨O, u, h1, ⟨c, e, rfl, h2, h2'⟩, h3⟩ := h ι imm st a w hs' (hs'.evls hv) hh
  unfold Oper.wp
  rw [h1, Oper.upon_value]
  have hheap : ∀ q, q < w.heap.size → (World.push w (.cells c e (0, 0))).heap[q]? = w.heap[q]? := fun q hq => by
    show (w.heap.push _)[q]? = _
    rw [Array.getElem?_push, if_neg (by omega)]
  have hnew : (World.push w (.cells c e (0, 0))).heap[w.heap.size]? = some (.cells c e (0, 0)) := by
    show (w.heap.push _)[_]? = _
    rw [Array.getElem?_push, if_pos rfl]
  have hold : ∀ {k : Nat} {x : Obj}, w.heap[k]? = some x → k < w.heap.size := fun {k x} hk => by
    rcases Nat.lt_or_ge k w.heap.size with h' | h'
    · exact h'
    · rw [Array.getElem?_eq_none h'] at hk; cases hk
  let imm' : Nat → Prop := fun k => imm k ∨ k = w.heap.size
  have st' : Stays imm imm' w (World.push w (.cells c e (0, 0))) := ⟨fun _ hk => .inl hk, fun q hq => hheap q (hs'.immlt q hq)⟩
  have g : Grows ι ι imm imm' w (World.push w (.cells c e (0, 0))) := ⟨fun _ _ h => h, st', fun r c f f2 hr => ⟨c, f2, (hheap r (hold hr)).trans hr, rfl⟩⟩
  have hblk : ∀ {b k r z}, st.H b = some k → ι b = some (r, z) → r < w.heap.size := fun {b q r z} hb hi => by
    obtain ⟨r', z', h1, _, _, h4⟩ := hs'.heap.blk b q hb
    rw [hi] at h1
    simp only [Option.some.injEq, Prod.mk.injEq] at h1
    obtain ⟨rfl, rfl⟩ := h1
    cases q with
    | cells cs => obtain ⟨c, e, f, h1, _⟩ := h4; exact hold h1
    | map es => obtain ⟨c, q, _, h2, _⟩ := h4; exact hold h2
  have hsr : SR E ι imm' ⟨st.S, st.H, st.U⟩ a (World.push w (.cells c e (0, 0))) := by
    refine hs'.turn g rfl rfl rfl (by show _ ≤ (w.heap.push _).size; simp) (fun q hq _ => hheap q hq) ⟨fun b q hb => ?_, fun b b' k k' r z z' hb hb' hi hi' => hs'.heap.inj b b' k k' r z z' hb hb' hi hi'⟩ (fun b x hx => hs'.used b x hx) (fun k hk => ?_) (fun k hk => ?_)
    · obtain ⟨r, z, h1, h2, h3, h4⟩ := hs'.heap.blk b q hb
      have hr := hblk hb h1
      exact ⟨r, z, h1, fun hi => hi.elim h2 fun e => by omega, h3, h4.grows g (hheap r hr)⟩
    · rcases hk with hk | rfl
      · exact .inl hk
      · exact .inr (.inr hs'.ext.size)
    · show k < (w.heap.push _).size
      rw [Array.size_push]
      rcases hk with hk | rfl
      · have := hs'.immlt k hk; omega
      · omega
  refine ⟨ι, imm', hsr.put o.dst hd ?_⟩
  obtain ⟨r, z, hi, rfl⟩ := h3 0 (fun _ => some (w.heap.size, 0)) rfl
  simp only [Option.some.injEq, Prod.mk.injEq] at hi
  obtain ⟨rfl, rfl⟩ := hi
  simp only [VH]
  refine ⟨_, rfl, fun _ => ⟨rfl, .inr rfl, PHs.of_cells st' (fun o => ?_) h2'⟩⟩
  simp [cell_of_heap hnew]

theorem rvc_boxF (C : Cx E T n) {d : Option Nat} {t : TypeId} {x : Operand} {ty : TypeId} {pos : String} {af : Array Edge} {rest : List Oper} {st : St} {K : St → Prop} {cs : List AV} (ps : List PV) (h1 : dstB n ⟨d, .box t x, ty, pos, af, none⟩ = true)
    (h2 : evls st.S [x] = some [.agg cs]) (hps : cs = ps.map .pv) (h7 : rvc E cq n ops rest (st.after d { v := .rp ps }) K) : rvc E cq n ops (⟨d, .box t x, ty, pos, af, none⟩ :: rest) st K := by
  simp only [rvc]
  have hd : ∀ x, d = some x → x < E.n := fun x e => by
    simp only [dstB, e, decide_eq_true_eq] at h1
    exact C.n ▸ h1
  have hm := makes_box (E := E) (o := ⟨d, .box t x, ty, pos, af, none⟩) (t := t) (x := x) rfl (u := .agg cs) (cs := cs) rfl
  subst hps
  exact ⟨h1, _, _, _, { vals := h2, deps := fun _ h => (by cases h), fresh := fun _ h => (by cases h), does := hm.frozenPtr hd, reach := rfl, inV := rfl, inN := fun _ h => (by cases h), inW := fun _ h => (by cases h), wr := fun _ h => (by cases h), pure := fun _ => ⟨rfl, rfl, rfl⟩, quiet := fun _ => rfl, foot := by cases clsOf cq ⟨d, .box t x, ty, pos, af, none⟩ <;> rfl }, h7⟩
end steps
end Go.Am
