/- An abstract machine over the kit's calls, part 5: the operations on values alone. No conditions. -/
import Derived.Test.YtjhphpoihadmkaaAm4
namespace Go.Am

/-- What is known of a type. -/
structure TyRow where
  desc : TypeDesc
  size : Nat
  bytes : Nat
  zero : Value
  eq : Bool := false

abbrev Tab := List (Nat × TyRow)

def TabOk (P : Program) (T : Tab) : Prop :=
  ∀ t r, T.lookup t = some r → P.underlying t = some r.desc ∧ (∃ i, P.info? t = some i ∧ i.size = r.size ∧ i.bytes = r.bytes ∧ i.zero = some r.zero) ∧ (r.eq = true → P.stoodInHeld t = false ∧ P.eqGuardType P.depth t = false)

theorem TabOk.nil (P : Program) : TabOk P [] := fun _ _ h => by simp at h
theorem TabOk.cons {P : Program} {T : Tab} {t : Nat} {d : TypeDesc} {s b : Nat} {z : Value} {q : Bool} (h1 : P.underlying t = some d) (h2 : (P.info? t).map (fun i => (i.size, i.bytes, i.zero)) = some (s, b, some z)) (h3 : q = true → P.stoodInHeld t = false ∧ P.eqGuardType P.depth t = false) (h : TabOk P T) : TabOk P ((t, ⟨d, s, b, z, q⟩) :: T) := by
  intro u r hr
  simp only [List.lookup] at hr
  split at hr
  · rename_i he
    obtain rfl := eq_of_beq he
    obtain rfl := Option.some.inj hr
    refine ⟨h1, ?_, h3⟩
    cases hi : P.info? u with
    | none => rw [hi] at h2; simp at h2
    | some i =>
      rw [hi] at h2
      simp only [Option.map_some, Option.some.injEq, Prod.mk.injEq] at h2
      exact ⟨i, rfl, h2⟩
  · exact h u r hr

section runs
variable {P : Program} {T : Tab} {w : World}
theorem run_bind {α β : Type} (s : Sem α) (f : α → Sem β) : ∀ w, (s.bind f).run P w = match s.run P w with | .ok a w' => (f a).run P w' | .halt h w' => .halt h w' := by
  induction s with
  | pure a => intro w; rfl
  | load m a k ih =>
    intro w
    simp only [Sem.bind, Sem.run]
    split
    · exact ih _ _
    · split
      · exact ih _ _
      · rfl
  | store m a v k ih =>
    intro w
    cases v <;> simp only [Sem.bind, Sem.run] <;> (split <;> first | (split <;> first | rfl | exact ih _) | rfl)
  | new o k ih => intro w; exact ih _ _
  | shape r k ih => intro w; exact ih _ _
  | freeze a n k ih => intro w; exact ih _
  | frozen a k ih => intro w; exact ih _ _
  | getObj r k ih => intro w; simp only [Sem.bind, Sem.run]; split <;> first | rfl | exact ih _ _
  | setObj r o k ih => intro w; simp only [Sem.bind, Sem.run]; split <;> first | rfl | exact ih _
  | choose q k ih => intro w; simp only [Sem.bind, Sem.run]; split <;> exact ih _ _
  | sys c k ih => intro w; exact ih _ _
  | program k ih => intro w; exact ih _ _
  | mark m k ih => intro w; exact ih _
  | halt h => intro w; rfl

theorem run_bind' {α β : Type} (s : Sem α) (f : α → Sem β) (w : World) : (s >>= f).run P w = match s.run P w with | .ok a w' => (f a).run P w' | .halt h w' => .halt h w' := run_bind s f w
theorem run_pure' {α : Type} (a : α) (w : World) : (pure a : Sem α).run P w = .ok a w := rfl

theorem run_underlying {t : Nat} {r : TyRow} (hT : TabOk P T) (h : T.lookup t = some r) (w : World) : (underlying t).run P w = .ok r.desc w := by
  obtain ⟨h1, _⟩ := hT t r h
  simp only [underlying, program, run_bind', Sem.run, h1, run_pure']
theorem run_typeInfo {t : Nat} {r : TyRow} (hT : TabOk P T) (h : T.lookup t = some r) (w : World) : ∃ i, (typeInfo t).run P w = .ok i w ∧ i.size = r.size ∧ i.bytes = r.bytes ∧ i.zero = some r.zero := by
  obtain ⟨_, ⟨i, h1, h2⟩, _⟩ := hT t r h
  exact ⟨i, by simp only [typeInfo, program, run_bind', Sem.run, h1, run_pure'], h2⟩
theorem run_sizeOf {t : Nat} {r : TyRow} (hT : TabOk P T) (h : T.lookup t = some r) (w : World) : (sizeOf t).run P w = .ok r.size w := by
  obtain ⟨i, h1, h2, _⟩ := run_typeInfo hT h w
  simp only [Go.sizeOf, run_bind', h1, run_pure', h2]
theorem run_zeroValue {t : Nat} {r : TyRow} (hT : TabOk P T) (h : T.lookup t = some r) (w : World) : (zeroValue t).run P w = .ok r.zero w := by
  obtain ⟨i, h1, _, _, h4⟩ := run_typeInfo hT h w
  simp only [zeroValue, run_bind', h1, h4, run_pure']

/-- Is it a struct or an array? -/
def isAggD : TypeDesc → Bool
  | .struct _ | .array _ _ => true
  | _ => false
theorem run_isAgg {t : Nat} {r : TyRow} (hT : TabOk P T) (h : T.lookup t = some r) (w : World) : (isAgg t).run P w = .ok (isAggD r.desc) w := by
  simp only [isAgg, run_bind', run_underlying hT h]
  cases r.desc <;> rfl
end runs

/-! ### Operands -/
theorem constCell_holds (ι : Nat → Option (Nat × Nat)) (imm : Nat → Prop) (w : World) (v : Value) : VH ι imm w (constCell v) v := by
  unfold constCell
  split
  · exact ⟨none, 0, rfl, Nat.le_refl _, fun _ => rfl, fun h => by simp at h, fun _ => ⟨rfl, rfl, rfl⟩, fun a h => by simp at h⟩
  all_goals simp [VH, PH, flatB]

theorem VHs_map_const (ι : Nat → Option (Nat × Nat)) (imm : Nat → Prop) (w : World) : ∀ (l : List Value), VHs ι imm w (l.map constCell) l
  | [] => rfl
  | v :: l => ⟨v, l, rfl, constCell_holds ι imm w v, VHs_map_const ι imm w l⟩

theorem constAV_holds (ι : Nat → Option (Nat × Nat)) (imm : Nat → Prop) (w : World) (v : Value) : VH ι imm w (constAV v) v := by
  unfold constAV
  split
  · rename_i c; exact ⟨c.toList, by simp, VHs_map_const ι imm w _⟩
  · exact constCell_holds ι imm w v

theorem SR.evl {E : Env} {ι : Nat → Option (Nat × Nat)} {imm : Nat → Prop} {st : St} {a : Act} {w : World} (h : SR E ι imm st a w) {x : Operand} {v : AV} (hx : evl st.S x = some v) : VH ι imm w v (a.eval x) := by
  cases x with
  | tmp t => exact h.slot t v hx
  | const c => simp only [Am.evl, Option.some.injEq] at hx; subst hx; exact constAV_holds ι imm w c
  | func f => simp only [Am.evl, Option.some.injEq] at hx; subst hx; exact ⟨[], [], rfl, rfl, rfl⟩
  | global g => simp [Am.evl] at hx

theorem SR.evls {E : Env} {ι : Nat → Option (Nat × Nat)} {imm : Nat → Prop} {st : St} {a : Act} {w : World} (h : SR E ι imm st a w) : ∀ {xs : List Operand} {vs : List AV}, evls st.S xs = some vs → VHs ι imm w vs (xs.map a.eval)
  | [], vs, hx => by simp only [Am.evls, Option.some.injEq] at hx; subst hx; rfl
  | x :: xs, vs, hx => by
    simp only [Am.evls] at hx
    split at hx
    · rename_i v us hv hus
      obtain rfl := Option.some.inj hx
      exact ⟨_, _, rfl, h.evl hv, SR.evls h hus⟩
    · cases hx

theorem VHs.one {ι : Nat → Option (Nat × Nat)} {imm : Nat → Prop} {w : World} {x : AV} {v : Value} (h : VHs ι imm w [x] [v]) : VH ι imm w x v := by
  obtain ⟨v', us, e, h1, _⟩ := h; simp only [List.cons.injEq] at e; rw [e.1]; exact h1
theorem VHs.two {ι : Nat → Option (Nat × Nat)} {imm : Nat → Prop} {w : World} {x y : AV} {u v : Value} (h : VHs ι imm w [x, y] [u, v]) : VH ι imm w x u ∧ VH ι imm w y v := by
  obtain ⟨v', us, e, h1, h2⟩ := h; simp only [List.cons.injEq] at e
  obtain ⟨rfl, rfl⟩ := e
  exact ⟨h1, h2.one⟩
theorem VHs.three {ι : Nat → Option (Nat × Nat)} {imm : Nat → Prop} {w : World} {x y z : AV} {u v t : Value} (h : VHs ι imm w [x, y, z] [u, v, t]) : VH ι imm w x u ∧ VH ι imm w y v ∧ VH ι imm w z t := by
  obtain ⟨v', us, e, h1, h2⟩ := h; simp only [List.cons.injEq] at e
  obtain ⟨rfl, rfl⟩ := e
  exact ⟨h1, h2.two⟩

/-- A value of no memory: the world stays. -/
theorem Does.value {E : Env} {o : Oper} {vs : List AV} {hs : List (Nat × Blk)} {x : AV} (hd : ∀ d, o.dst = some d → d < E.n)
    (h : ∀ ι imm st a w, SR E ι imm st a w → VHs ι imm w vs (o.op.operands.toList.map a.eval) → (∀ x ∈ hs, st.H x.1 = some x.2) → ∃ v, (execOp a.eval o).run E.P w = .ok (.value v) w ∧ VH ι imm w x v) : Does E o vs hs { v := x } := by
  intro ι imm st a w Q hs' hv hh _
  obtain ⟨v, h1, h2⟩ := h ι imm st a w hs' (hs'.evls hv) hh
  unfold Oper.wp
  rw [h1, Oper.upon_value, St.after_skip' ]
  exact ⟨ι, imm, hs'.put o.dst hd h2⟩
end Go.Am
