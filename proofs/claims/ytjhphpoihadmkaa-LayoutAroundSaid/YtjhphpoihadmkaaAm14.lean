/- An abstract machine over the kit's calls, part 14: states told by lists; what is not needed is forgotten; a function's body gives its contract. No conditions. -/
import Derived.Test.YtjhphpoihadmkaaAm13
namespace Go.Am

mutual
theorem AV.ren_id : ∀ (x : AV), x.ren (fun b => b) = x
  | .undef | .pv _ | .tsl _ _ | .rp _ | .ptr _ _ | .sl _ _ _ _ _ | .slc _ _ _ _ _ | .mp _ => rfl
  | .agg cs => by simp only [AV.ren, AV.renL_id cs]
  | .tup cs => by simp only [AV.ren, AV.renL_id cs]
  | .fn f xs ys => by simp only [AV.ren, AV.renL_id xs, AV.renL_id ys]
theorem AV.renL_id : ∀ (xs : List AV), AV.renL (fun b => b) xs = xs
  | [] => rfl
  | x :: xs => by simp only [AV.renL, AV.ren_id x, AV.renL_id xs]
end
theorem Blk.ren_id : ∀ (x : Blk), x.ren (fun b => b) = x
  | .cells cs => by simp only [Blk.ren, AV.renL_id]
  | .map es => by simp [Blk.ren, AV.ren_id]

/-- A state, told by lists. -/
def mkSt (S : List (Nat × AV)) (H : List (Nat × Blk)) (U : List Nat) : St := ⟨fun t => S.lookup t, fun b => H.lookup b, fun b => U.contains b⟩

structure Weaker (st : St) (S : List (Nat × AV)) (H : List (Nat × Blk)) (U : List Nat) (I : List Nat) : Prop where
  eqS : ∀ x ∈ S, st.S x.1 = some x.2
  eqH : ∀ x ∈ H, st.H x.1 = some x.2
  inS : (S.all fun x => x.2.within fun b => U.contains b) = true
  inH : (H.all fun x => U.contains x.1 && x.2.within fun b => U.contains b) = true
  inI : (I.all fun b => U.contains b) = true

theorem At.weaken {E : Env} {st : St} {a : Act} {w : World} {S : List (Nat × AV)} {H : List (Nat × Blk)} {U : List Nat} (h : At E st a w) (hw : Weaker st S H U E.I) : At E (mkSt S H U) a w := by
  obtain ⟨ι, imm, h⟩ := h
  let κ : Nat → Option (Nat × Nat) := fun b => if U.contains b then ι b else none
  have hκ : ∀ b, (fun b => U.contains b) b = true → κ b = ι b := fun b hb => by show (if U.contains b then _ else _) = _; rw [if_pos hb]
  have hV : ∀ x v, x.within (fun b => U.contains b) = true → VH ι imm w x v → VH κ imm w x v := fun x v hu hx => by
    have := (VH.ren (σ := fun b => b) hκ x v hu).2 hx
    rwa [AV.ren_id] at this
  have hB : ∀ k r z, k.within (fun b => U.contains b) = true → BlkH ι imm w r z k → BlkH κ imm w r z k := fun k r z hu hx => by
    have := (BlkH.ren (σ := fun b => b) hκ (r := r) (z := z) hu).2 hx
    rwa [Blk.ren_id] at this
  have hin : ∀ x ∈ H, U.contains x.1 = true ∧ x.2.within (fun b => U.contains b) = true := fun x hx => by
    have := List.all_eq_true.1 hw.inH x hx
    simpa only [Bool.and_eq_true] using this
  refine ⟨κ, imm, h.defers, h.size, fun t v hv => ?_, ⟨fun b k hb => ?_, fun b b' k k' r z z' hb hb' hi hi' => ?_⟩, fun b x hx => ?_, ⟨fun b x hx => ?_, h.grow.stays, h.grow.rows⟩, h.ext, h.immM, h.immlt⟩
  · have hm := lookup_mem (l := S) hv
    exact hV _ _ (List.all_eq_true.1 hw.inS _ hm) (h.slot _ _ (hw.eqS _ hm))
  · have hm := lookup_mem (l := H) hb
    obtain ⟨r, z, q1, q2, q3, q4⟩ := h.heap.blk _ _ (hw.eqH _ hm)
    exact ⟨r, z, (hκ b (hin _ hm).1).trans q1, q2, q3, hB _ _ _ (hin _ hm).2 q4⟩
  · have hm := lookup_mem (l := H) hb
    have hm' := lookup_mem (l := H) hb'
    rw [hκ b (hin _ hm).1] at hi
    rw [hκ b' (hin _ hm').1] at hi'
    exact h.heap.inj _ _ _ _ _ _ _ (hw.eqH _ hm) (hw.eqH _ hm') hi hi'
  · show U.contains b = true
    by_cases hb : U.contains b = true
    · exact hb
    · have : κ b = none := by show (if U.contains b then _ else _) = _; rw [if_neg hb]
      rw [this] at hx; cases hx
  · have hb : U.contains b = true := List.all_eq_true.1 hw.inI b (by have := E.dom b x hx; simpa using this)
    rw [hκ b hb]; exact h.grow.ext b x hx

theorem Awp.weaken {E : Env} {c : Code} {st : St} {Q : Exit → St → Prop} {S : List (Nat × AV)} {H : List (Nat × Blk)} {U : List Nat} (hw : Weaker st S H U E.I) (h : Awp E c (mkSt S H U) Q) : Awp E c st Q :=
  fun a w hat => h a w (hat.weaken hw)

/-- A loop: its head's state is one of a family, and each round comes to one of a lesser number. -/
theorem Awp.loop' {E : Env} {c : Code} {st : St} {Q : Exit → St → Prop} {α : Type} (S : α → List (Nat × AV)) (H : α → List (Nat × Blk)) (U : α → List Nat) (J : Nat → α → Prop) (n : Nat) (x : α) (hx : J n x) (hw : Weaker st (S x) (H x) (U x) E.I)
    (round : ∀ n x, J n x → Awp E c (mkSt (S x) (H x) (U x)) fun e st' => match e with | .normal => ∃ m y, m < n ∧ J m y ∧ Weaker st' (S y) (H y) (U y) E.I | e => Q e st') : Awp E (.loop c) st Q := by
  intro a w hat
  refine wp_loop_ghost (fun n a w => ∃ x, J n x ∧ At E (mkSt (S x) (H x) (U x)) a w) n ⟨x, hx, hat.weaken hw⟩ fun n a w ⟨x, hJ, hat⟩ => ?_
  refine wp_mono (round n x hJ a w hat) ?_
  rintro e a' w' ⟨st', h1, h2⟩
  cases e <;> simp only [Exit.then]
  case normal => obtain ⟨m, y, h3, h4, h5⟩ := h1; exact ⟨m, h3, y, h4, h2.weaken h5⟩
  all_goals exact ⟨st', h1, h2⟩

/-! ### Results -/
def res1 (T : Tab) (st : St) : ResultVar → Option AV
  | .tmp t => st.S t
  | .cell a t => match st.S a with
    | some (.ptr b o) => match st.H b, T.lookup t with
      | some (.cells cs), some r => readAV r (cs.drop o)
      | _, _ => none
    | _ => none
def resL (T : Tab) (st : St) : List ResultVar → Option (List AV)
  | [] => some []
  | r :: rs => match res1 T st r, resL T st rs with
    | some v, some vs => some (v :: vs)
    | _, _ => none
def resAV (T : Tab) (st : St) (rs : List ResultVar) : Option AV :=
  match resL T st rs with
  | some [v] => some v
  | some vs => some (.tup vs)
  | none => none

theorem run_res1 {E : Env} {T : Tab} (hT : TabOk E.P T) {ι : Nat → Option (Nat × Nat)} {imm : Nat → Prop} {st : St} {a : Act} {w : World} (h : SR E ι imm st a w) {r : ResultVar} {v : AV} (hr : res1 T st r = some v) :
    ∃ u, ((match r with | .tmp t => pure (a.tmps.getD t undef) | .cell c t => do loadVar t (← asAddr (a.tmps.getD c undef)) : Sem Value)).run E.P w = .ok u w ∧ VH ι imm w v u := by
  cases r with
  | tmp t => exact ⟨_, rfl, h.slot t v hr⟩
  | cell c t =>
    simp only [res1] at hr
    split at hr
    · rename_i b o hS
      split at hr
      · rename_i cs r hH hl
        have hv := h.slot c _ hS
        simp only [VH] at hv
        obtain ⟨q, z, hi, he⟩ := hv
        obtain ⟨cc, e, f, h1, h2, h3, h4, _⟩ := h.heap.cells hH hi
        obtain ⟨vs, h5, h6⟩ := (h4.drop (k := o)).vals
        obtain ⟨u, h7, h8⟩ := run_loadVar hT hl hr (ι := ι) (imm := imm) (w := w) (b := q) (o := z + o) ⟨vs, h5, fun i hi => by rw [cell_of_heap h1]; exact h6 i hi⟩
        exact ⟨u, by simp only [he, asAddr, run_bind', run_pure', h7], h8⟩
      · cases hr
    · cases hr

theorem run_resL {E : Env} {T : Tab} (hT : TabOk E.P T) {ι : Nat → Option (Nat × Nat)} {imm : Nat → Prop} {st : St} {a : Act} {w : World} (h : SR E ι imm st a w) : ∀ {rs : List ResultVar} {vs : List AV}, resL T st rs = some vs →
    ∃ us, (rs.mapM (fun r => (match r with | .tmp t => pure (a.tmps.getD t undef) | .cell c t => do loadVar t (← asAddr (a.tmps.getD c undef)) : Sem Value))).run E.P w = .ok us w ∧ VHs ι imm w vs us
  | [], vs, hr => by simp only [resL, Option.some.injEq] at hr; subst hr; exact ⟨[], rfl, rfl⟩
  | r :: rs, vs, hr => by
    simp only [resL] at hr
    split at hr
    · rename_i v vs' h1 h2
      simp only [Option.some.injEq] at hr
      subst hr
      obtain ⟨u, q1, q2⟩ := run_res1 hT h h1
      obtain ⟨us, q3, q4⟩ := run_resL hT h h2
      refine ⟨u :: us, ?_, ⟨u, us, rfl, q2, q4⟩⟩
      rw [List.mapM_cons, run_bind', q1]
      simp only
      rw [run_bind', q3]
      rfl
    · cases hr

theorem run_results {E : Env} {T : Tab} (hT : TabOk E.P T) {ι : Nat → Option (Nat × Nat)} {imm : Nat → Prop} {st : St} {a : Act} {w : World} (h : SR E ι imm st a w) {fn : Func} {v : AV} (hr : resAV T st fn.results.toList = some v) :
    ∃ u, (results fn a.tmps).run E.P w = .ok u w ∧ VH ι imm w v u := by
  unfold resAV at hr
  have key : ∀ {vs}, resL T st fn.results.toList = some vs → ∃ us, (results fn a.tmps).run E.P w = .ok (if h : (List.toArray us).size = 1 then (List.toArray us)[0] else .tuple (List.toArray us)) w ∧ VHs ι imm w vs us := by
    intro vs hv
    obtain ⟨us, q1, q2⟩ := run_resL hT h hv
    refine ⟨us, ?_, q2⟩
    unfold results
    rw [Array.mapM_eq_mapM_toList, run_bind']
    have : ((List.toArray <$> fn.results.toList.mapM (fun r => (match r with | .tmp t => pure (a.tmps.getD t undef) | .cell c t => do loadVar t (← asAddr (a.tmps.getD c undef)) : Sem Value))) : Sem (Array Value)).run E.P w = .ok us.toArray w := by
      show ((fn.results.toList.mapM _) >>= fun l => pure (List.toArray l) : Sem (Array Value)).run E.P w = _
      rw [run_bind', q1]; rfl
    erw [this]
    rfl
  split at hr
  · rename_i x hx
    simp only [Option.some.injEq] at hr
    subst hr
    obtain ⟨us, q1, q2⟩ := key hx
    obtain ⟨u, us', rfl, q3, q4⟩ := q2
    simp only [VHs] at q4
    subst q4
    exact ⟨u, by simpa using q1, q3⟩
  · rename_i vs hne hx
    simp only [Option.some.injEq] at hr
    subst hr
    obtain ⟨us, q1, q2⟩ := key hx
    refine ⟨.tuple us.toArray, ?_, ⟨us, rfl, q2⟩⟩
    have hl := q2.length
    have : ¬ (List.toArray us).size = 1 := by
      intro h1
      simp at h1
      rw [hl] at h1
      obtain ⟨y, rfl⟩ := List.length_eq_one_iff.1 h1
      exact hne y rfl
    rw [dif_neg this] at q1
    exact q1
  · cases hr

/-- Where a function begins. -/
def entry (avs : List AV) (H : List (Nat × Blk)) (I : List Nat) : St := ⟨fun t => avs[t]?, heapOf H, inI I⟩

theorem ACalls.of_body {P : Program} {T : Tab} (hT : TabOk P T) {f : FuncId} {fn : Func} {body : Code} (hf : P.funcs[f]? = some fn) (hb : fn.body = some body) {I : List Nat} {avs : List AV} {H : List (Nat × Blk)} {av : AV} {H' : List (Nat × Blk)} (hl : avs.length ≤ fn.ntmps)
    (h : ∀ E : Env, E.P = P → E.n = fn.ntmps → E.I = I → Awp E body (entry avs H I) fun e st => (e = .ret ∨ e = .normal) ∧ resAV T st fn.results.toList = some av ∧ ∀ x ∈ H', st.H x.1 = some x.2) : ACalls P f I avs H av H' := by
  intro ι imm w M vs hHR hvs hlt hdom
  let E : Env := { P := P, n := fn.ntmps, w0 := w, R := Rof ι H, ι0 := ι, imm0 := imm, I := I, dom := hdom }
  have hlen := hvs.length
  have hat : At E (entry avs H I) { tmps := List.toArray vs ++ Array.replicate (fn.ntmps - (List.toArray vs).size) undef, defers := [] } w := by
    refine ⟨ι, imm, rfl, ?_, fun t v hv => ?_, ⟨fun b k hb => ?_, hHR.inj⟩, hdom, .refl _ _ _, .refl _ _, fun k hk => .inl hk, hlt⟩
    · show (List.toArray vs ++ Array.replicate (fn.ntmps - (List.toArray vs).size) undef).size = fn.ntmps
      simp; omega
    · obtain ⟨u, h1, h2⟩ := hvs.get hv
      have hlt' : t < vs.length := by
        rcases Nat.lt_or_ge t vs.length with h' | h'
        · exact h'
        · rw [List.getElem?_eq_none h'] at h1; cases h1
      have : (List.toArray vs ++ Array.replicate (fn.ntmps - (List.toArray vs).size) undef).getD t undef = u := by
        rw [Array.getD_eq_getD_getElem?, Array.getElem?_append_left (by simpa using hlt')]
        simp [h1]
      show VH ι imm w v ((List.toArray vs ++ Array.replicate (fn.ntmps - (List.toArray vs).size) undef).getD t undef)
      rw [this]; exact h2
    · obtain ⟨r, z, q1, q2, _, q4⟩ := hHR.blk b k hb
      exact ⟨r, z, q1, q2, .inl ⟨b, k, z, hb, q1⟩, q4⟩
  refine calls_of_wp hf hb (wp_mono (h E rfl rfl rfl _ _ hat) ?_)
  rintro e a' w' ⟨st, ⟨he, hres, hH'⟩, ι', imm', hs⟩
  obtain ⟨u, q1, q2⟩ := run_results (E := E) hT hs hres
  have post : ∃ v ι'' imm'', Ending.returned u = .returned v ∧ VH ι'' imm'' w' av v ∧ Grows ι ι'' imm imm'' w w' ∧ Ext (Rof ι H) w w' ∧ HR ι'' imm'' w' (fun r => Rof ι H r ∨ w.heap.size ≤ r) (heapOf H') ∧
      (∀ k, imm'' k → imm k ∨ Rof ι H k ∨ w.heap.size ≤ k) ∧ (∀ k, imm'' k → k < w'.heap.size) := by
    refine ⟨u, ι', imm', rfl, q2, hs.grow, hs.ext, ⟨fun b k hb => ?_, fun b b' k k' r z z' hb hb' hi hi' => ?_⟩, hs.immM, hs.immlt⟩
    · exact hs.heap.blk b k (hH' _ (lookup_mem (l := H') hb))
    · exact hs.heap.inj b b' k k' r z z' (hH' _ (lookup_mem (l := H') hb)) (hH' _ (lookup_mem (l := H') hb')) hi hi'
  rcases he with rfl | rfl
  · exact ⟨hs.defers, u, q1, post⟩
  · exact ⟨hs.defers, u, q1, post⟩
end Go.Am
namespace Go.Am
/-! ### Step by step -/
section steps
variable {E : Env} {T : Tab} {cq : Oper → Cls} {n : Nat} {ops : Array Oper}

theorem rvc_nil {st : St} {K : St → Prop} (h : K st) : rvc E cq n ops [] st K := h

theorem rexec_prim (C : Cx E T n) {d : Option Nat} {op : Op} {ty : TypeId} {pos : String} {af : Array Edge} {g : Option (Nat × Bool)} {st : St} {K : St → Prop} {xs : List Operand} {vs : List AV} {p : Prop} {hs : List (Nat × Blk)} {δ : Delta} (h1 : dstB n ⟨d, op, ty, pos, af, g⟩ = true)
    (hx : op.operands.toList = xs) (h2 : evls st.S xs = some vs) (h4 : prim T ⟨d, op, ty, pos, af, g⟩ vs st.H = some (p, hs, δ)) (h5 : p) (h6 : freshB st.U δ = true) (h7 : K (st.after d δ)) (h8 : footB (clsOf cq ⟨d, op, ty, pos, af, g⟩) hs δ = true := by rfl) :
    rexec E cq n ⟨d, op, ty, pos, af, g⟩ st K := by
  subst hx
  have hd' : ∀ d', Oper.dst ⟨d, op, ty, pos, af, g⟩ = some d' → d' < E.n := fun d' e => by
    simp only [dstB] at h1
    simp only at e
    subst e
    simp only [decide_eq_true_eq] at h1
    exact C.n ▸ h1
  exact ⟨h1, vs, hs, δ, (prim_ok C.tab cq hd' h4 h5).move h2 h6 h8, h7⟩

/-- An operation without a guard. -/
theorem rvc_prim (C : Cx E T n) {d : Option Nat} {op : Op} {ty : TypeId} {pos : String} {af : Array Edge} {rest : List Oper} {st : St} {K : St → Prop} {xs : List Operand} {vs : List AV} {p : Prop} {hs : List (Nat × Blk)} {δ : Delta} (h1 : dstB n ⟨d, op, ty, pos, af, none⟩ = true)
    (hx : op.operands.toList = xs) (h2 : evls st.S xs = some vs) (h4 : prim T ⟨d, op, ty, pos, af, none⟩ vs st.H = some (p, hs, δ)) (h5 : p) (h6 : freshB st.U δ = true) (h7 : rvc E cq n ops rest (st.after d δ) K) (h8 : footB (clsOf cq ⟨d, op, ty, pos, af, none⟩) hs δ = true := by rfl) :
    rvc E cq n ops (⟨d, op, ty, pos, af, none⟩ :: rest) st K := by
  simp only [rvc]
  exact rexec_prim C h1 hx h2 h4 h5 h6 h7 h8

/-- An operation behind a guard that lets it through. -/
theorem rvc_open {d : Option Nat} {op : Op} {ty : TypeId} {pos : String} {af : Array Edge} {j : Nat} {want : Bool} {rest : List Oper} {st : St} {K : St → Prop} {t : Nat} (hj : (ops[j]?).bind (·.dst) = some t) {b : Bool} (ht : st.S t = some (.pv (.lit (.bool b)))) (hb : b = want)
    (h : rexec E cq n ⟨d, op, ty, pos, af, some (j, want)⟩ st fun st' => rvc E cq n ops rest st' K) : rvc E cq n ops (⟨d, op, ty, pos, af, some (j, want)⟩ :: rest) st K := by
  simp only [rvc, hj, ht]
  exact ⟨fun _ => h, fun e => by rw [hb] at e; cases want <;> cases e⟩
/-- .. that does not. -/
theorem rvc_shut {d : Option Nat} {op : Op} {ty : TypeId} {pos : String} {af : Array Edge} {j : Nat} {want : Bool} {rest : List Oper} {st : St} {K : St → Prop} {t : Nat} (hj : (ops[j]?).bind (·.dst) = some t) {b : Bool} (ht : st.S t = some (.pv (.lit (.bool b)))) (hb : b = !want) (hd : dstB n ⟨d, op, ty, pos, af, some (j, want)⟩ = true)
    (h : rvc E cq n ops rest (st.after d { v := .tup [] }) K) : rvc E cq n ops (⟨d, op, ty, pos, af, some (j, want)⟩ :: rest) st K := by
  simp only [rvc, hj, ht]
  exact ⟨fun e => (by rw [hb] at e; cases want <;> cases e), fun _ => ⟨hd, h⟩⟩

/-- An operation behind a guard that was itself not come to. -/
theorem rvc_shutU {d : Option Nat} {op : Op} {ty : TypeId} {pos : String} {af : Array Edge} {j : Nat} {want : Bool} {rest : List Oper} {st : St} {K : St → Prop} {t : Nat} (hj : (ops[j]?).bind (·.dst) = some t) (ht : st.S t = some (.tup [])) (hd : dstB n ⟨d, op, ty, pos, af, some (j, want)⟩ = true)
    (h : rvc E cq n ops rest (st.after d { v := .tup [] }) K) : rvc E cq n ops (⟨d, op, ty, pos, af, some (j, want)⟩ :: rest) st K := by
  simp only [rvc, hj, ht]
  exact ⟨hd, h⟩

/-! ### Calls of functions that are handed no blocks of one's own and give none -/
mutual
theorem AV.ren_none {σ : Nat → Nat} : ∀ (x : AV), x.within (fun _ => false) = true → x.ren σ = x
  | .undef, _ | .pv _, _ | .tsl _ _, _ | .rp _, _ => rfl
  | .ptr b o, h => by simp [AV.within] at h
  | .sl b _ _ _ _, h | .slc b _ _ _ _, h => by simp [AV.within] at h
  | .mp b, h => by simp [AV.within] at h
  | .agg cs, h => by simp only [AV.within] at h; simp only [AV.ren, AV.renL_none cs h]
  | .tup cs, h => by simp only [AV.within] at h; simp only [AV.ren, AV.renL_none cs h]
  | .fn f xs ys, h => by simp only [AV.within, Bool.and_eq_true] at h; simp only [AV.ren, AV.renL_none xs h.1, AV.renL_none ys h.2]
theorem AV.renL_none {σ : Nat → Nat} : ∀ (xs : List AV), AV.withinL (fun _ => false) xs = true → AV.renL σ xs = xs
  | [], _ => rfl
  | x :: xs, h => by simp only [AV.withinL, Bool.and_eq_true] at h; simp only [AV.renL, AV.ren_none x h.1, AV.renL_none xs h.2]
end

/-- A function's contract where no block of one's own is handed to and fro. -/
structure PCalls (P : Program) (f : FuncId) (avs : List AV) (av : AV) : Prop where
  fn : ∃ fn, P.funcs[f]? = some fn ∧ (fn.name == "runtime.NumGoroutine") = false ∧ fn.body.isNone = false
  args : AV.withinL (fun _ => false) avs = true
  res : av.within (fun _ => false) = true
  calls : ACalls P f [] avs [] av []

theorem PCalls.move {P : Program} (hP : E.P = P) {f : FuncId} {avs : List AV} {av : AV} (C : PCalls P f avs av) {d : Option Nat} {c : Call} {ty : TypeId} {pos : String} {af : Array Edge} {g : Option (Nat × Bool)} {st : St} (h1 : ∀ x, d = some x → x < E.n) (hc : c.callee = .value (.func f)) (hv : evls st.S c.args.toList = some avs) (cl : Cls) :
    Move E cl ⟨d, .call c, ty, pos, af, g⟩ st (.fn f [] [] :: avs) [] { v := av } := by
  subst hP
  obtain ⟨fn, q1, q2, q3⟩ := C.fn
  have hin : (inI ([] : List Nat)) = fun _ => false := rfl
  have ok : CallOk ⟨fun b => b, []⟩ [] avs [] [] av := by
    refine { args := C.args, ids := ?_, blks := ?_, nodup := by simp, inj := ?_, nodupL := by simp, nodupR := by simp, fresh := ?_, res := ?_, res' := ?_, kept := ?_, all := ?_, used := ?_ }
    all_goals first | (intro x hx; cases hx; done) | skip
    · intro b c hb; cases hb
    · exact AV.within_mono (fun b hb => by cases hb) av C.res
  have hd := does_call (E := E) (o := ⟨d, .call c, ty, pos, af, g⟩) (c := c) rfl hc h1 q1 q2 q3 C.calls ok (args := avs) (caps := []) (by rw [AV.renL_none avs C.args]; simp)
  have he : Names.delta ⟨fun b => b, []⟩ [] [] [] av = { v := av } := by
    simp only [Names.delta, List.map_nil, AV.ren_none av C.res]
  rw [he] at hd
  have hops : (Op.operands (.call c)).toList = .func f :: c.args.toList := by simp [Op.operands, Call.operands, hc]
  refine { vals := ?_, deps := ?_, fresh := ?_, does := hd, reach := rfl, inV := ?_, inN := ?_, inW := ?_, wr := ?_, pure := fun _ => ⟨rfl, rfl, rfl⟩, quiet := fun _ => rfl, foot := by cases cl <;> rfl }
  · show evls st.S (Op.operands (.call c)).toList = _
    rw [hops]; simp only [evls, evl, hv]
  · intro x hx; cases hx
  · intro x hx; cases hx
  · exact AV.within_mono (fun b hb => by cases hb) av C.res
  · intro x hx; cases hx
  · intro x hx; cases hx
  · intro x hx; cases hx

theorem rexec_call {P : Program} (hP : E.P = P) (C : Cx E T n) {f : FuncId} {avs : List AV} {av : AV} {d : Option Nat} {c : Call} {ty : TypeId} {pos : String} {af : Array Edge} {g : Option (Nat × Bool)} {st : St} {K : St → Prop} (h1 : dstB n ⟨d, .call c, ty, pos, af, g⟩ = true) (hc : c.callee = .value (.func f)) (hv : evls st.S c.args.toList = some avs)
    (F : PCalls P f avs av) (h7 : K (st.after d { v := av })) : rexec E cq n ⟨d, .call c, ty, pos, af, g⟩ st K := by
  refine ⟨h1, _, _, _, F.move hP (fun x e => ?_) hc hv _, h7⟩
  simp only [dstB, e, decide_eq_true_eq] at h1
  exact C.n ▸ h1
theorem rvc_call {P : Program} (hP : E.P = P) (C : Cx E T n) {f : FuncId} {avs : List AV} {av : AV} {d : Option Nat} {c : Call} {ty : TypeId} {pos : String} {af : Array Edge} {rest : List Oper} {st : St} {K : St → Prop} (h1 : dstB n ⟨d, .call c, ty, pos, af, none⟩ = true) (hc : c.callee = .value (.func f)) (hv : evls st.S c.args.toList = some avs)
    (F : PCalls P f avs av) (h7 : rvc E cq n ops rest (st.after d { v := av }) K) : rvc E cq n ops (⟨d, .call c, ty, pos, af, none⟩ :: rest) st K := by
  simp only [rvc]
  exact rexec_call hP C h1 hc hv F h7

theorem PCalls.of_body {P : Program} (hT : TabOk P T) {f : FuncId} {fn : Func} {body : Code} (hf : P.funcs[f]? = some fn) (hb : fn.body = some body) (hn : (fn.name == "runtime.NumGoroutine") = false) {avs : List AV} {av : AV} (hl : decide (avs.length ≤ fn.ntmps) = true) (ha : AV.withinL (fun _ => false) avs = true) (hr : av.within (fun _ => false) = true) (hm : P.follows .mixedOrders = true)
    (h : ∀ E : Env, E.P = P → Cx E T fn.ntmps → E.I = [] → Awp E body (entry avs [] []) fun e st => (e = .ret ∨ e = .normal) ∧ resAV T st fn.results.toList = some av) : PCalls P f avs av where
  fn := ⟨fn, hf, hn, by simp [hb]⟩
  args := ha
  res := hr
  calls := ACalls.of_body hT hf hb (by simpa using hl) fun E hP hE hI => (h E hP ⟨hP ▸ hT, hE, hP ▸ hm⟩ hI).mono fun e st ⟨h1, h2⟩ => ⟨h1, h2, fun _ hx => by cases hx⟩
end steps
end Go.Am
