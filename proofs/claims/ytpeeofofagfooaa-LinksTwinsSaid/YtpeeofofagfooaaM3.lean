import Derived.Test.YtpeeofofagfooaaM2
import Derived.MapKept
import Derived.Maps.RangeRun
/- An abstract machine over the kit's calls, part 39: maps of one's own: keys looked up, put, taken out. No conditions. -/
namespace Go.Am
mutual
def depthA : AV → Nat
  | .agg cs => depthL cs + 1
  | _ => 0
def depthL : List AV → Nat
  | [] => 0
  | x :: xs => depthA x + depthL xs
end
/-- Keys as values told whole. -/
structure KEnc (κ : Type) where
  enc : κ → AV
  eq : κ → κ → Bool
  rig : ∀ a, rigid (enc a) = true
  dep : ∀ a, depthA (enc a) ≤ 10000
  spec : ∀ a b, eq a b = true ↔ enc a = enc b
section plain
variable {κ β : Type} (KE : KEnc κ)
def mGet (k : κ) : List (κ × β) → Option β
  | [] => none
  | e :: D => if KE.eq k e.1 then some e.2 else mGet k D
def mSet (k : κ) (x : β) : List (κ × β) → List (κ × β)
  | [] => [(k, x)]
  | e :: D => if KE.eq k e.1 then (e.1, x) :: D else e :: mSet k x D
def mDel (k : κ) : List (κ × β) → List (κ × β)
  | [] => []
  | e :: D => if KE.eq k e.1 then D else e :: mDel k D
/-- Each key stands once. -/
def mOnce (D : List (κ × β)) : Prop := (D.map fun e => KE.enc e.1).Nodup
variable {KE}
theorem mOnce.perm {D D' : List (κ × β)} (h : mOnce KE D) (hp : D.Perm D') : mOnce KE D' := (hp.map _).nodup_iff.1 h
theorem mOnce.tail {e : κ × β} {D : List (κ × β)} (h : mOnce KE (e :: D)) : mOnce KE D := by
  unfold mOnce at h ⊢
  rw [List.map_cons, List.nodup_cons] at h
  exact h.2
theorem mOnce.two {e f : κ × β} {D : List (κ × β)} (h : mOnce KE (e :: f :: D)) {k : κ} (h1 : KE.eq k e.1 = true) (h2 : KE.eq k f.1 = true) : False := by
  unfold mOnce at h
  rw [List.map_cons, List.nodup_cons] at h
  refine h.1 ?_
  rw [List.map_cons, ← (KE.spec _ _).1 h1, ← (KE.spec _ _).1 h2]
  exact List.mem_cons_self ..
theorem mGet_perm {k : κ} {D D' : List (κ × β)} (hp : D.Perm D') : mOnce KE D → mGet KE k D = mGet KE k D' := by
  induction hp with
  | nil => intro _; rfl
  | cons e _ ih => intro h; simp only [mGet, ih h.tail]
  | swap a b D =>
    intro h
    simp only [mGet]
    cases h1 : KE.eq k a.1 <;> cases h2 : KE.eq k b.1 <;> simp
    exact (h.two h2 h1).elim
  | trans p _ ih1 ih2 => intro h; exact (ih1 h).trans (ih2 (h.perm p))
theorem mSet_perm {k : κ} {x : β} {D D' : List (κ × β)} (hp : D.Perm D') : mOnce KE D → (mSet KE k x D).Perm (mSet KE k x D') := by
  induction hp with
  | nil => intro _; exact .refl _
  | cons e p ih =>
    intro h
    simp only [mSet]
    cases KE.eq k e.1
    · exact (ih h.tail).cons _
    · exact p.cons _
  | swap a b D =>
    intro h
    simp only [mSet]
    cases h1 : KE.eq k a.1 <;> cases h2 : KE.eq k b.1 <;> simp
    · exact .swap _ _ _
    · exact .swap _ _ _
    · exact .swap _ _ _
    · exact (h.two h2 h1).elim
  | trans p _ ih1 ih2 => intro h; exact (ih1 h).trans (ih2 (h.perm p))
theorem mDel_perm {k : κ} {D D' : List (κ × β)} (hp : D.Perm D') : mOnce KE D → (mDel KE k D).Perm (mDel KE k D') := by
  induction hp with
  | nil => intro _; exact .refl _
  | cons e p ih =>
    intro h
    simp only [mDel]
    cases KE.eq k e.1
    · exact (ih h.tail).cons _
    · exact p
  | swap a b D =>
    intro h
    simp only [mDel]
    cases h1 : KE.eq k a.1 <;> cases h2 : KE.eq k b.1 <;> simp
    · exact .swap _ _ _
    · exact (h.two h2 h1).elim
  | trans p _ ih1 ih2 => intro h; exact (ih1 h).trans (ih2 (h.perm p))
theorem mSet_mem {k : κ} {x : β} : ∀ {D : List (κ × β)} {v : AV}, v ∈ (mSet KE k x D).map (fun e => KE.enc e.1) → v = KE.enc k ∨ v ∈ D.map (fun e => KE.enc e.1)
  | [], v, h => by simp only [mSet, List.map_cons, List.map_nil, List.mem_singleton] at h; exact .inl h
  | e :: D, v, h => by
    unfold mSet at h
    split at h
    · exact .inr (by simpa using h)
    · rw [List.map_cons, List.mem_cons] at h
      rcases h with h | h
      · exact .inr (by rw [List.map_cons, h]; exact List.mem_cons_self ..)
      · rcases mSet_mem h with h | h
        · exact .inl h
        · exact .inr (by rw [List.map_cons]; exact List.mem_cons_of_mem _ h)
theorem mSet_once {k : κ} {x : β} : ∀ {D : List (κ × β)}, mOnce KE D → mOnce KE (mSet KE k x D)
  | [], _ => by simp [mOnce, mSet]
  | e :: D, h => by
    unfold mSet
    split
    · unfold mOnce at h ⊢; exact h
    · rename_i hk
      have ih := mSet_once (k := k) (x := x) h.tail
      unfold mOnce at h ih ⊢
      rw [List.map_cons, List.nodup_cons] at h ⊢
      refine ⟨fun hm => ?_, ih⟩
      rcases mSet_mem hm with q | q
      · exact hk ((KE.spec _ _).2 q.symm)
      · exact h.1 q
theorem mDel_sub {k : κ} : ∀ (D : List (κ × β)), (mDel KE k D).Sublist D
  | [] => .refl _
  | e :: D => by
    unfold mDel
    split
    · exact .cons _ (.refl _)
    · exact (mDel_sub D).cons_cons _
theorem mDel_once {k : κ} {D : List (κ × β)} (h : mOnce KE D) : mOnce KE (mDel KE k D) := List.Sublist.nodup ((mDel_sub D).map _) h
end plain
/-- A map as a block. -/
def mapE {κ β : Type} (KE : KEnc κ) (ve : β → AV) (D : List (κ × β)) : Blk := .map (D.map fun e => (KE.enc e.1, ve e.2))
theorem map_perm {α β : Type} {f : α → β} {l l' : List β} (hp : l.Perm l') : ∀ {D : List α}, D.map f = l → ∃ D', D.Perm D' ∧ D'.map f = l' := by
  induction hp with
  | nil => intro D h; exact ⟨D, .refl _, h⟩
  | cons x _ ih =>
    intro D h
    cases D with
    | nil => cases h
    | cons d D =>
      rw [List.map_cons] at h
      injection h with h1 h2
      obtain ⟨D', q1, q2⟩ := ih h2
      exact ⟨d :: D', q1.cons _, by rw [List.map_cons, h1, q2]⟩
  | swap x y l =>
    intro D h
    match D, h with
    | a :: b :: D, h =>
      rw [List.map_cons, List.map_cons] at h
      injection h with h1 h2
      injection h2 with h2 h3
      exact ⟨b :: a :: D, .swap _ _ _, by rw [List.map_cons, List.map_cons, h1, h2, h3]⟩
  | trans _ _ ih1 ih2 =>
    intro D h
    obtain ⟨D1, q1, q2⟩ := ih1 h
    obtain ⟨D2, q3, q4⟩ := ih2 q2
    exact ⟨D2, q1.trans q3, q4⟩
theorem EntsH.perm {ι : Nat → Option (Nat × Nat)} {imm : Nat → Prop} {w : World} {l l' : List MapEntry} (hp : l.Perm l') : ∀ {es : List (AV × AV)}, EntsH ι imm w es l → ∃ es', es.Perm es' ∧ EntsH ι imm w es' l' := by
  induction hp with
  | nil => intro es h; exact ⟨es, .refl _, h⟩
  | cons x _ ih =>
    intro es h
    cases es with
    | nil => cases h
    | cons e es =>
      obtain ⟨e0, us, h1, h2, h3, h4⟩ := h
      injection h1 with h1 h1'
      subst h1; subst h1'
      obtain ⟨es', q1, q2⟩ := ih h4
      exact ⟨e :: es', q1.cons _, ⟨_, _, rfl, h2, h3, q2⟩⟩
  | swap x y l =>
    intro es h
    match es, h with
    | a :: b :: es, h =>
      obtain ⟨e0, us, h1, h2, h3, h4⟩ := h
      obtain ⟨e1, us1, h5, h6, h7, h8⟩ := h4
      subst h5
      injection h1 with h1 h1'
      injection h1' with h1' h1''
      subst h1; subst h1'; subst h1''
      exact ⟨b :: a :: es, .swap _ _ _, ⟨_, _, rfl, h6, h7, _, _, rfl, h2, h3, h8⟩⟩
    | [a], h => obtain ⟨e0, us, h1, h2, h3, h4⟩ := h; simp only [EntsH] at h4; subst h4; cases h1
    | [], h => cases h
  | trans _ _ ih1 ih2 =>
    intro es h
    obtain ⟨e1, q1, q2⟩ := ih1 h
    obtain ⟨e2, q3, q4⟩ := ih2 q2
    exact ⟨e2, q1.trans q3, q4⟩
theorem EntsH.perm' {ι : Nat → Option (Nat × Nat)} {imm : Nat → Prop} {w : World} {es es' : List (AV × AV)} (hp : es.Perm es') : ∀ {l : List MapEntry}, EntsH ι imm w es l → ∃ l', l.Perm l' ∧ EntsH ι imm w es' l' := by
  induction hp with
  | nil => intro l h; exact ⟨l, .refl _, h⟩
  | cons x _ ih =>
    intro l h
    obtain ⟨e0, us, rfl, h2, h3, h4⟩ := h
    obtain ⟨l', q1, q2⟩ := ih h4
    exact ⟨e0 :: l', q1.cons _, ⟨_, _, rfl, h2, h3, q2⟩⟩
  | swap x y l =>
    intro l h
    obtain ⟨e0, us, rfl, h2, h3, e1, us1, rfl, h6, h7, h8⟩ := h
    exact ⟨e1 :: e0 :: us1, .swap _ _ _, ⟨_, _, rfl, h6, h7, _, _, rfl, h2, h3, h8⟩⟩
  | trans _ _ ih1 ih2 =>
    intro l h
    obtain ⟨e1, q1, q2⟩ := ih1 h
    obtain ⟨e2, q3, q4⟩ := ih2 q2
    exact ⟨e2, q1.trans q3, q4⟩
mutual
theorem rigid_eq {ι κ : Nat → Option (Nat × Nat)} {i j : Nat → Prop} {w w' : World} : ∀ (x : AV), rigid x = true → ∀ u v, VH ι i w x u → VH κ j w' x v → u = v
  | .agg cs, h, u, v, h1, h2 => by
    simp only [rigid] at h
    simp only [VH] at h1 h2
    obtain ⟨us, rfl, h1⟩ := h1
    obtain ⟨vs, rfl, h2⟩ := h2
    rw [rigidL_eq cs h us vs h1 h2]
  | .pv (.lit x), h, u, v, h1, h2 => by
    simp only [VH, PH] at h1 h2
    rw [h1.1, h2.1]
  | .pv (.sl _ _ _), h, _, _, _, _ | .undef, h, _, _, _, _ | .tup _, h, _, _, _, _ | .ptr _ _, h, _, _, _, _ | .sl _ _ _ _ _, h, _, _, _, _ | .slc _ _ _ _ _, h, _, _, _, _ | .tsl _ _, h, _, _, _, _ | .rp _, h, _, _, _, _ | .mp _, h, _, _, _, _ | .fn _ _ _, h, _, _, _, _ => by simp [rigid, rigidP] at h
theorem rigidL_eq {ι κ : Nat → Option (Nat × Nat)} {i j : Nat → Prop} {w w' : World} : ∀ (xs : List AV), rigidL xs = true → ∀ us vs, VHs ι i w xs us → VHs κ j w' xs vs → us = vs
  | [], _, us, vs, h1, h2 => by simp only [VHs] at h1 h2; rw [h1, h2]
  | x :: xs, h, us, vs, h1, h2 => by
    simp only [rigidL, Bool.and_eq_true] at h
    obtain ⟨u, us, rfl, a1, a2⟩ := h1
    obtain ⟨v, vs, rfl, b1, b2⟩ := h2
    rw [rigid_eq x h.1 u v a1 b1, rigidL_eq xs h.2 us vs a2 b2]
end
mutual
theorem rigid_same {ι : Nat → Option (Nat × Nat)} {i : Nat → Prop} {w : World} : ∀ (x : AV), rigid x = true → ∀ v, VH ι i w x v → ∀ n, depthA x ≤ n → Instr.sameBits n v v = true
  | .agg cs, h, v, h1, n, hn => by
    simp only [rigid] at h
    simp only [VH] at h1
    simp only [depthA] at hn
    obtain ⟨vs, rfl, h1⟩ := h1
    obtain ⟨n, rfl⟩ : ∃ k, n = k + 1 := ⟨n - 1, by omega⟩
    simp only [Instr.sameBits, beq_self_eq_true, Bool.true_and]
    exact rigidL_same cs h vs h1 n (by omega)
  | .pv (.lit x), h, v, h1, n, _ => by
    simp only [VH, PH] at h1; rw [h1.1]
    cases x with
    | int k m => unfold Instr.sameBits; cases n <;> simp
    | bool b => unfold Instr.sameBits; cases n <;> simp
    | string s => unfold Instr.sameBits; cases n <;> exact (Go.MapKept.bytes_beq s s).2 rfl
    | _ => simp [rigid, rigidP] at h
  | .pv (.sl _ _ _), h, _, _, _, _ | .undef, h, _, _, _, _ | .tup _, h, _, _, _, _ | .ptr _ _, h, _, _, _, _ | .sl _ _ _ _ _, h, _, _, _, _ | .slc _ _ _ _ _, h, _, _, _, _ | .tsl _ _, h, _, _, _, _ | .rp _, h, _, _, _, _ | .mp _, h, _, _, _, _ | .fn _ _ _, h, _, _, _, _ => by simp [rigid, rigidP] at h
theorem rigidL_same {ι : Nat → Option (Nat × Nat)} {i : Nat → Prop} {w : World} : ∀ (xs : List AV), rigidL xs = true → ∀ vs, VHs ι i w xs vs → ∀ n, depthL xs ≤ n → ((vs.zip vs).all fun (x, y) => Instr.sameBits n x y) = true
  | [], _, vs, h1, _, _ => by simp only [VHs] at h1; subst h1; rfl
  | x :: xs, h, vs, h1, n, hn => by
    simp only [rigidL, Bool.and_eq_true] at h
    simp only [depthL] at hn
    obtain ⟨u, us, rfl, a1, a2⟩ := h1
    simp only [List.zip_cons_cons, List.all_cons, rigid_same x h.1 u a1 n (by omega), rigidL_same xs h.2 us a2 n (by omega), Bool.and_self]
end
/-- What the model's maps ask of a type of keys. -/
structure KeyOk {κ : Type} (P : Program) (kt : TypeId) (KE : KEnc κ) : Prop where
  check : ∀ {ι : Nat → Option (Nat × Nat)} {imm : Nat → Prop} {w : World} (em : Bool) (k : κ) (v : Value), VH ι imm w (KE.enc k) v → (Instr.checkKey em 10000 kt v).run P w = .ok () w
  now : (∃ d, P.underlying kt = some d ∧ ∀ {ι : Nat → Option (Nat × Nat)} {imm : Nat → Prop} {w : World} (a b : κ) (u v : Value), VH ι imm w (KE.enc a) u → VH ι imm w (KE.enc b) v → Instr.sameNow d u v = some (KE.eq a b)) ∨
    ((∃ d, P.underlying kt = some d ∧ ∀ u v, Instr.sameNow d u v = none) ∧ ∀ {ι : Nat → Option (Nat × Nat)} {imm : Nat → Prop} {w : World} (a b : κ) (u v : Value), VH ι imm w (KE.enc a) u → VH ι imm w (KE.enc b) v → (Op.equal kt u v).run P w = .ok (KE.eq a b) w)
/-- The first entry of a key, and where it stands. -/
def lookL {κ β : Type} (KE : KEnc κ) (k : κ) : List (κ × β) → List MapEntry → Nat → Option (Nat × Value)
  | x :: D, e :: es, i => if KE.eq k x.1 then some (i, e.val) else lookL KE k D es (i + 1)
  | _, _, _ => none
section find
variable {κ β : Type} {KE : KEnc κ} {ve : β → AV} {P : Program} {kt : TypeId} {ι : Nat → Option (Nat × Nat)} {imm : Nat → Prop} {w : World}
theorem run_findAsking (h : ∀ {ι : Nat → Option (Nat × Nat)} {imm : Nat → Prop} {w : World} (a b : κ) (u v : Value), VH ι imm w (KE.enc a) u → VH ι imm w (KE.enc b) v → (Op.equal kt u v).run P w = .ok (KE.eq a b) w) {k : κ} {v : Value} (hv : VH ι imm w (KE.enc k) v) :
    ∀ (D : List (κ × β)) (l : List MapEntry) (i : Nat), EntsH ι imm w (D.map fun e => (KE.enc e.1, ve e.2)) l → (Instr.findAsking kt v l i).run P w = .ok (lookL KE k D l i) w
  | [], l, i, he => by simp only [List.map_nil, EntsH] at he; subst he; rfl
  | x :: D, l, i, he => by
    obtain ⟨e, us, rfl, h1, h2, h3⟩ := he
    have hq := h (ι := ι) (imm := imm) (w := w) k x.1 v e.key hv h1
    simp only [Instr.findAsking, run_bind', hq, lookL]
    cases KE.eq k x.1
    · simp only [Bool.false_eq_true, if_false]; exact run_findAsking h hv D us (i + 1) h3
    · simp only [if_true]; rfl
theorem findNow_eq {d : TypeDesc} (h : ∀ {ι : Nat → Option (Nat × Nat)} {imm : Nat → Prop} {w : World} (a b : κ) (u v : Value), VH ι imm w (KE.enc a) u → VH ι imm w (KE.enc b) v → Instr.sameNow d u v = some (KE.eq a b)) {k : κ} {v : Value} (hv : VH ι imm w (KE.enc k) v) :
    ∀ (D : List (κ × β)) (l : List MapEntry) (i : Nat), EntsH ι imm w (D.map fun e => (KE.enc e.1, ve e.2)) l → Instr.findNow d v l i = some (lookL KE k D l i)
  | [], l, i, he => by simp only [List.map_nil, EntsH] at he; subst he; rfl
  | x :: D, l, i, he => by
    obtain ⟨e, us, rfl, h1, h2, h3⟩ := he
    have hq := h (ι := ι) (imm := imm) (w := w) k x.1 v e.key hv h1
    simp only [Instr.findNow, hq, lookL]
    cases KE.eq k x.1
    · simp only [Bool.false_eq_true, if_false]; exact findNow_eq h hv D us (i + 1) h3
    · simp only [if_true]
theorem run_find (K : KeyOk P kt KE) {k : κ} {v : Value} (hv : VH ι imm w (KE.enc k) v) (D : List (κ × β)) (l : List MapEntry) (he : EntsH ι imm w (D.map fun e => (KE.enc e.1, ve e.2)) l) : (Instr.findKey kt v l).run P w = .ok (lookL KE k D l 0) w := by
  rcases K.now with ⟨d, h1, h2⟩ | ⟨⟨d, h1, h2⟩, h3⟩
  · simp only [Instr.findKey, underlying, program, run_bind', Sem.run, h1, run_pure', findNow_eq h2 hv D l 0 he]
  · cases l with
    | nil =>
      have : lookL KE k D [] 0 = none := by cases D <;> rfl
      simp only [Instr.findKey, underlying, program, run_bind', Sem.run, h1, run_pure', Instr.findNow, this]
    | cons e l =>
      simp only [Instr.findKey, underlying, program, run_bind', Sem.run, h1, run_pure', Instr.findNow, h2]
      exact run_findAsking h3 hv D (e :: l) 0 he
/-- What was found. -/
theorem lookL_some {k : κ} : ∀ {D : List (κ × β)} {l : List MapEntry} {i j : Nat} {x : Value}, EntsH ι imm w (D.map fun e => (KE.enc e.1, ve e.2)) l → lookL KE k D l i = some (j, x) →
    ∃ m e y, j = i + m ∧ l[m]? = some e ∧ e.val = x ∧ mGet KE k D = some y ∧ VH ι imm w (ve y) x ∧ VH ι imm w (KE.enc k) e.key ∧
      ∀ (u : Value) (z : β), VH ι imm w (ve z) u → EntsH ι imm w ((mSet KE k z D).map fun e => (KE.enc e.1, ve e.2)) (l.modify m fun e => { e with val := u }) ∧ EntsH ι imm w ((mDel KE k D).map fun e => (KE.enc e.1, ve e.2)) (l.eraseIdx m)
  | [], _, _, _, _, _, h => by simp [lookL] at h
  | x0 :: D, l, i, j, x, he, h => by
    obtain ⟨e, us, rfl, h1, h2, h3⟩ := he
    simp only [lookL] at h
    split at h
    · rename_i hq
      simp only [Option.some.injEq, Prod.mk.injEq] at h
      obtain ⟨rfl, rfl⟩ := h
      refine ⟨0, e, x0.2, rfl, rfl, rfl, by simp only [mGet, hq, if_true], h2, by rw [(KE.spec _ _).1 hq]; exact h1, fun u z hu => ?_⟩
      simp only [mSet, mDel, hq, if_true, List.modify_zero_cons, List.eraseIdx_zero, List.tail_cons, List.map_cons]
      exact ⟨⟨_, _, rfl, h1, hu, h3⟩, h3⟩
    · rename_i hq
      obtain ⟨m, e', y, q1, q2, q3, q4, q5, q6, q7⟩ := lookL_some h3 h
      refine ⟨m + 1, e', y, by omega, by simpa using q2, q3, by simp only [mGet, hq]; exact q4, q5, q6, fun u z hu => ?_⟩
      obtain ⟨a, b⟩ := q7 u z hu
      simp only [mSet, mDel, hq, List.modify_succ_cons, List.eraseIdx_cons_succ]
      exact ⟨⟨_, _, rfl, h1, h2, a⟩, ⟨_, _, rfl, h1, h2, b⟩⟩
theorem lookL_none {k : κ} : ∀ {D : List (κ × β)} {l : List MapEntry} {i : Nat}, EntsH ι imm w (D.map fun e => (KE.enc e.1, ve e.2)) l → lookL KE k D l i = none →
    mGet KE k D = none ∧ mDel KE k D = D ∧ ∀ z, mSet KE k z D = D ++ [(k, z)]
  | [], _, _, _, _ => ⟨rfl, rfl, fun _ => rfl⟩
  | x0 :: D, l, i, he, h => by
    obtain ⟨e, us, rfl, h1, h2, h3⟩ := he
    simp only [lookL] at h
    split at h
    · cases h
    · rename_i hq
      obtain ⟨a, b, c⟩ := lookL_none h3 h
      refine ⟨by simp only [mGet, hq]; exact a, by simp only [mDel, hq, b]; rfl, fun z => by simp only [mSet, hq, c]; rfl⟩
theorem EntsH.append {es : List (AV × AV)} : ∀ {l : List MapEntry} {k x : AV} {e : MapEntry}, EntsH ι imm w es l → VH ι imm w k e.key → VH ι imm w x e.val → EntsH ι imm w (es ++ [(k, x)]) (l ++ [e]) := by
  induction es with
  | nil => intro l k x e h h1 h2; simp only [EntsH] at h; subst h; exact ⟨_, _, rfl, h1, h2, rfl⟩
  | cons a es ih => intro l k x e h h1 h2; obtain ⟨e0, us, rfl, q1, q2, q3⟩ := h; exact ⟨_, _, rfl, q1, q2, ih q3 h1 h2⟩
end find
end Go.Am
/- An abstract machine over the kit's calls, part 40: the operations on maps as rules. No conditions. -/
namespace Go.Am
section worlds
variable {E : Env} {κ β : Type} {KE : KEnc κ} {ve : β → AV} {ι : Nat → Option (Nat × Nat)} {imm : Nat → Prop} {st : St} {a : Act} {w : World}
theorem keysOk_map {D : List (κ × β)} : KeysOk (D.map fun e => (KE.enc e.1, ve e.2)) ↔ mOnce KE D := by
  have e : (D.map fun e => (KE.enc e.1, ve e.2)).map (·.1) = D.map fun e => KE.enc e.1 := by rw [List.map_map]; rfl
  constructor
  · rintro ⟨_, h⟩; unfold mOnce; rwa [e] at h
  · intro h
    refine ⟨fun x hx => ?_, by rw [e]; exact h⟩
    obtain ⟨y, _, rfl⟩ := List.mem_map.1 hx
    exact KE.rig y.1
/-- A map's block. -/
theorem SR.map (h : SR E ι imm st a w) {b : Nat} {D : List (κ × β)} (hb : st.H b = some (mapE KE ve D)) {r z : Nat} (hi : ι b = some (r, z)) :
    z = 0 ∧ ∃ (c : Array MapEntry) (q : Nat) (D' : List (κ × β)), w.heap[r]? = some (.map c q) ∧ D.Perm D' ∧ EntsH ι imm w (D'.map fun e => (KE.enc e.1, ve e.2)) c.toList ∧ mOnce KE D' ∧ BornOk c.toList q ∧ ¬ imm r ∧ E.M r := by
  obtain ⟨r', z', h1, h2, h3, c, q, l, h4, h5, h6, h7, h8, h9⟩ := h.heap.blk b _ hb
  rw [hi] at h1
  simp only [Option.some.injEq, Prod.mk.injEq] at h1
  obtain ⟨rfl, rfl⟩ := h1
  obtain ⟨es', q1, q2⟩ := EntsH.perm h6 h7
  obtain ⟨D', q3, q4⟩ := map_perm q1 (D := D) rfl
  refine ⟨h4, c, q, D', h5, q3, by rw [q4]; exact q2, ((keysOk_map).1 h8).perm q3, ⟨(h6.map _).nodup_iff.1 h9.nodup, fun e he => h9.lt e (h6.mem_iff.2 he)⟩, h2, h3⟩
/-- A map is written. -/
theorem SR.writeMap (h : SR E ι imm st a w) {b : Nat} {D : List (κ × β)} (hb : st.H b = some (mapE KE ve D)) {r z : Nat} (hi : ι b = some (r, z)) {c' : Array MapEntry} {q' : Nat} {D2 D3 : List (κ × β)} (hp : D2.Perm D3) (he : EntsH ι imm w (D3.map fun e => (KE.enc e.1, ve e.2)) c'.toList)
    (ho : mOnce KE D2) (hbn : BornOk c'.toList q') (v : AV) : SR E ι imm ⟨st.S, (Delta.mk v [] [(b, some (mapE KE ve D2))]).H st.H, (Delta.mk v [] [(b, some (mapE KE ve D2))]).U st.U⟩ a { w with heap := w.heap.setIfInBounds r (.map c' q') } := by
  obtain ⟨rfl, c, q, D', h1, h2, h3, h4, h5, h6, h7⟩ := h.map hb hi
  obtain ⟨hs1, hs2⟩ := Go.MapKept.heap_set (o' := .map c' q') h1
  have g : Grows ι ι imm imm w { w with heap := w.heap.setIfInBounds r (.map c' q') } := ⟨fun _ _ h => h, ⟨fun _ h => h, fun k hk => hs2 k (fun e => h6 (e ▸ hk))⟩, fun r' c1 e1 f1 hr' => by
    by_cases hrr : r' = r
    · subst hrr; rw [h1] at hr'; cases hr'
    · exact ⟨c1, f1, (hs2 r' hrr).trans hr', rfl⟩⟩
  have hH : ∀ b' k, (Delta.mk v [] [(b, some (mapE KE ve D2))]).H st.H b' = some k → (b' = b ∧ k = mapE KE ve D2) ∨ (b' ≠ b ∧ st.H b' = some k) := fun b' k hk => by
    simp only [Delta.H, List.lookup] at hk
    by_cases hbb : b' = b
    · subst hbb; simp only [beq_self_eq_true] at hk; exact .inl ⟨rfl, (Option.some.inj hk).symm⟩
    · have : (b' == b) = false := by simpa using hbb
      simp only [this] at hk; exact .inr ⟨hbb, hk⟩
  have hold : ∀ b' k, (Delta.mk v [] [(b, some (mapE KE ve D2))]).H st.H b' = some k → ∃ k', st.H b' = some k' := fun b' k hk => by
    rcases hH b' k hk with ⟨rfl, _⟩ | ⟨_, h⟩
    · exact ⟨_, hb⟩
    · exact ⟨_, h⟩
  have hsz : ({ w with heap := w.heap.setIfInBounds r (.map c' q') } : World).heap.size = w.heap.size := by simp
  refine h.turn g rfl rfl rfl (Nat.le_refl _) (by rw [hsz]; exact Nat.le_refl _) (fun k _ hM => hs2 k (fun e => hM (e ▸ h7))) ⟨fun b' k hk => ?_, fun b1 b2 k1 k2 r1 z1 z2 hk1 hk2 hi1 hi2 => ?_⟩ (fun b' x hx => ?_) (fun _ hk => .inl hk) (fun k hk => by rw [hsz]; exact h.immlt k hk)
  · rcases hH b' k hk with ⟨rfl, rfl⟩ | ⟨hne, hk⟩
    · obtain ⟨l', p1, p2⟩ := EntsH.perm' (hp.map (fun e => (KE.enc e.1, ve e.2))).symm he
      refine ⟨r, 0, hi, h6, h7, c', q', l', rfl, hs1, p1.symm, p2.grows g, keysOk_map.2 ho, ⟨(p1.map _).nodup_iff.1 hbn.nodup, fun e he => hbn.lt e (p1.mem_iff.2 he)⟩⟩
    · obtain ⟨r', z', q1, q2, q3, q4⟩ := h.heap.blk b' k hk
      have hrr : r' ≠ r := fun e => hne (h.heap.inj b' b k _ r z' 0 hk hb (e ▸ q1) hi)
      exact ⟨r', z', q1, q2, q3, q4.grows g (hs2 r' hrr)⟩
  · obtain ⟨k1', q1⟩ := hold b1 k1 hk1
    obtain ⟨k2', q2⟩ := hold b2 k2 hk2
    exact h.heap.inj b1 b2 k1' k2' r1 z1 z2 q1 q2 hi1 hi2
  · simp only [Delta.U, List.lookup, Option.isSome_none, Bool.false_or]; exact h.used b' x hx
theorem modify_congr {α : Type} {f g : α → α} : ∀ {l : List α} {m : Nat} {e : α}, l[m]? = some e → f e = g e → l.modify m f = l.modify m g
  | [], _, _, h, _ => by cases h
  | x :: l, 0, e, h, hf => by
    simp only [List.getElem?_cons_zero, Option.some.injEq] at h
    subst h
    simp only [List.modify_zero_cons, hf]
  | x :: l, m + 1, e, h, hf => by
    simp only [List.modify_succ_cons]
    rw [modify_congr (by simpa using h) hf]
theorem modify_born {f : MapEntry → MapEntry} (hf : ∀ e, (f e).born = e.born) : ∀ (l : List MapEntry) (m : Nat), (l.modify m f).map (·.born) = l.map (·.born)
  | [], m => by simp
  | x :: l, 0 => by simp [hf]
  | x :: l, m + 1 => by simp [modify_born hf l m]
theorem BornOk.modify {l : List MapEntry} {q m : Nat} {f : MapEntry → MapEntry} (h : BornOk l q) (hf : ∀ e, (f e).born = e.born) : BornOk (l.modify m f) q where
  nodup := by rw [modify_born hf]; exact h.nodup
  lt e he := by
    have : e.born ∈ (l.modify m f).map (·.born) := List.mem_map.2 ⟨e, he, rfl⟩
    rw [modify_born hf] at this
    obtain ⟨e', he', e2⟩ := List.mem_map.1 this
    rw [← e2]; exact h.lt e' he'
theorem BornOk.push {l : List MapEntry} {q : Nat} (h : BornOk l q) {e : MapEntry} (he : e.born = q) : BornOk (l ++ [e]) (q + 1) where
  nodup := by
    rw [List.map_append, List.map_cons, List.map_nil, List.nodup_append]
    refine ⟨h.nodup, by simp, fun a ha b hb => ?_⟩
    obtain ⟨e', he', rfl⟩ := List.mem_map.1 ha
    rw [List.mem_singleton.1 hb, he]
    have := h.lt e' he'; omega
  lt e' he' := by
    rcases List.mem_append.1 he' with he' | he'
    · have := h.lt e' he'; omega
    · rw [List.mem_singleton.1 he', he]; omega
theorem BornOk.sub {l l' : List MapEntry} {q : Nat} (h : BornOk l q) (hs : l'.Sublist l) : BornOk l' q := ⟨(hs.map _).nodup h.nodup, fun e he => h.lt e (hs.subset he)⟩
end worlds
section ops
variable {E : Env} {T : Tab} {κ β : Type} {KE : KEnc κ} {ve : β → AV}
theorem does_makeMap {o : Oper} {t : TypeId} (ho : o.op = .makeMap t none) {d : Nat} (hdst : o.dst = some d) (hd : d < E.n) : Does E o [] [] { v := .mp d, new := [(d, .map [])] } := by
  refine Does.alloc hdst hd fun ι imm st a w hs hv _ => ⟨.map #[] 0, .map (some w.heap.size), ?_, ⟨0, rfl, rfl⟩, fun ι' h => ⟨_, _, h, rfl⟩⟩
  simp only [execOp, ho, Option.map_none, Instr.makeMap, newObj, run_bind', Sem.run, run_pure']
  rfl
theorem does_lookup (hT : TabOk E.P T) {o : Oper} {t : TypeId} {x y : Operand} {ok : Bool} (ho : o.op = .lookup t x y ok) (hd : ∀ d, o.dst = some d → d < E.n) {r re : TyRow} (hr : T.lookup t = some r) {kt et : TypeId} (hdesc : r.desc = .map kt et) (hre : T.lookup et = some re)
    (K : KeyOk E.P kt KE) {b : Nat} {D : List (κ × β)} {k : κ} {z : β} (hz : ve z = constAV re.zero) :
    Does E o [.mp b, KE.enc k] [(b, mapE KE ve D)] { v := if ok then .tup [ve ((mGet KE k D).getD z), .pv (.lit (.bool (mGet KE k D).isSome))] else ve ((mGet KE k D).getD z) } := by
  refine Does.value hd fun ι imm st a w hs hv hh => ?_
  rw [ho] at hv
  simp only [Op.operands, List.map_cons, List.map_nil] at hv
  obtain ⟨hv1, hv2⟩ := hv.two
  simp only [VH] at hv1
  obtain ⟨rr, zz, hi, he⟩ := hv1
  obtain ⟨rfl, c, q, D', h1, h2, h3, h4, h5, _, _⟩ := hs.map (hh _ (List.mem_cons_self ..)) hi
  have hg := mGet_perm (k := k) h2 (h4.perm h2.symm)
  have hu : (underlying t).run E.P w = .ok (.map kt et) w := by rw [run_underlying hT hr, hdesc]
  have hf := run_find (ve := ve) K hv2 D' c.toList h3
  have hck := K.check c.isEmpty k _ hv2
  cases hl : lookL KE k D' c.toList 0 with
  | none =>
    rw [hl] at hf
    obtain ⟨q1, _, _⟩ := lookL_none h3 hl
    have e : mGet KE k D = none := hg.trans q1
    rw [e]
    have hval := constAV_holds ι imm w re.zero
    rw [← hz] at hval
    cases ok
    · refine ⟨re.zero, ?_, hval⟩
      simp only [execOp, ho, he, Instr.lookup, run_bind', hu, Go.MapKept.run_getObj_map h1, run_pure', hck, hf, run_zeroValue hT hre, Bool.false_eq_true, if_false]
    · refine ⟨.tuple #[re.zero, .bool false], ?_, ?_⟩
      · simp only [execOp, ho, he, Instr.lookup, run_bind', hu, Go.MapKept.run_getObj_map h1, run_pure', hck, hf, run_zeroValue hT hre, if_true]
      · simp only [if_true, VH]
        exact ⟨[re.zero, .bool false], rfl, _, _, rfl, hval, _, _, rfl, ⟨rfl, rfl⟩, rfl⟩
  | some p =>
    obtain ⟨j, x⟩ := p
    rw [hl] at hf
    obtain ⟨m, e, y0, _, _, _, q4, q5, _, _⟩ := lookL_some h3 hl
    have e : mGet KE k D = some y0 := hg.trans q4
    rw [e]
    cases ok
    · refine ⟨x, ?_, q5⟩
      simp only [execOp, ho, he, Instr.lookup, run_bind', hu, Go.MapKept.run_getObj_map h1, run_pure', hck, hf, Bool.false_eq_true, if_false]
    · refine ⟨.tuple #[x, .bool true], ?_, ?_⟩
      · simp only [execOp, ho, he, Instr.lookup, run_bind', hu, Go.MapKept.run_getObj_map h1, run_pure', hck, hf, if_true]
      · simp only [if_true, VH]
        exact ⟨[x, .bool true], rfl, _, _, rfl, q5, _, _, rfl, ⟨rfl, rfl⟩, rfl⟩
theorem does_mapUpdate (hT : TabOk E.P T) {o : Oper} {t : TypeId} {x y z : Operand} (ho : o.op = .mapUpdate t x y z) (hdst : o.dst = none) {r : TyRow} (hr : T.lookup t = some r) {kt et : TypeId} (hdesc : r.desc = .map kt et)
    (K : KeyOk E.P kt KE) {b : Nat} {D : List (κ × β)} {k : κ} {u : β} : Does E o [.mp b, KE.enc k, ve u] [(b, mapE KE ve D)] { v := .undef, wr := [(b, some (mapE KE ve (mSet KE k u D)))] } := by
  intro ι imm st a w Q hs hv hh _
  have hv := hs.evls hv
  rw [ho] at hv
  simp only [Op.operands, List.map_cons, List.map_nil] at hv
  obtain ⟨hv1, hv2, hv3⟩ := hv.three
  simp only [VH] at hv1
  obtain ⟨rr, zz, hi, he⟩ := hv1
  have hb := hh _ (List.mem_cons_self ..)
  obtain ⟨rfl, c, q, D', h1, h2, h3, h4, h5, _, _⟩ := hs.map hb hi
  have hu : (underlying t).run E.P w = .ok (.map kt et) w := by rw [run_underlying hT hr, hdesc]
  have hf := run_find (ve := ve) K hv2 D' c.toList h3
  have hck := K.check false k _ hv2
  have hfin : ∀ c' q', EntsH ι imm w ((mSet KE k u D').map fun e => (KE.enc e.1, ve e.2)) c'.toList → BornOk c'.toList q' → (execOp a.eval o).run E.P w = .ok .skip { w with heap := w.heap.setIfInBounds rr (.map c' q') } →
      o.wp E.P a w (fun a' w' => ∃ ι' imm', SR E ι' imm' (st.after o.dst { v := .undef, wr := [(b, some (mapE KE ve (mSet KE k u D)))] }) a' w') Q := fun c' q' e1 e2 hrun => by
    unfold Oper.wp
    rw [hrun, Oper.upon_skip]
    have := hs.writeMap hb hi (mSet_perm (k := k) (x := u) h2 (h4.perm h2.symm)) e1 (mSet_once (h4.perm h2.symm)) e2 .undef
    exact ⟨ι, imm, by simpa [Act.put, St.after, putO, hdst] using this⟩
  cases hl : lookL KE k D' c.toList 0 with
  | none =>
    rw [hl] at hf
    obtain ⟨_, _, q3⟩ := lookL_none h3 hl
    refine hfin (c.push { key := a.eval y, val := a.eval z, born := q }) (q + 1) ?_ ?_ ?_
    · rw [q3, List.map_append, Array.toList_push]
      exact EntsH.append h3 hv2 hv3
    · rw [Array.toList_push]; exact h5.push rfl
    · simp only [execOp, ho, he, Instr.mapUpdate, run_bind', hu, Go.MapKept.run_getObj_map h1, run_pure', hck, hf, Go.MapKept.run_setObj_map _ h1]
  | some p =>
    obtain ⟨j, x⟩ := p
    rw [hl] at hf
    obtain ⟨m, e, y0, hj, q2, _, _, _, q6, q7⟩ := lookL_some h3 hl
    have hjm : j = m := by omega
    subst hjm
    have hkey := rigid_eq _ (KE.rig k) _ _ q6 hv2
    have hce : c[j]? = some e := by simpa using q2
    have hst : (Instr.keyThatStays (((c[j]?).map (·.key)).getD (a.eval y)) (a.eval y)).run E.P w = .ok (a.eval y) w := by
      rw [hce]
      simp only [Option.map_some, Option.getD_some, hkey, Instr.keyThatStays, rigid_same _ (KE.rig k) _ hv2 10000 (KE.dep k), if_true, run_pure']
    refine hfin (c.modify j fun e => { e with key := a.eval y, val := a.eval z }) q ?_ ?_ ?_
    · rw [Array.toList_modify, modify_congr (g := fun e => { e with val := a.eval z }) q2 (by rw [← hkey])]
      exact (q7 _ _ hv3).1
    · rw [Array.toList_modify]; exact h5.modify fun _ => rfl
    · simp only [execOp, ho, he, Instr.mapUpdate, run_bind', hu, Go.MapKept.run_getObj_map h1, run_pure', hck, hf, hst, Go.MapKept.run_setObj_map _ h1]
theorem does_delete (hT : TabOk E.P T) {o : Oper} {c : Call} {t t2 : TypeId} (ho : o.op = .call c) (hc : c.callee = .builtin .delete) (hty : c.argTypes = #[t, t2]) (hd : ∀ d, o.dst = some d → d < E.n) {r : TyRow} (hr : T.lookup t = some r) {kt et : TypeId} (hdesc : r.desc = .map kt et)
    (K : KeyOk E.P kt KE) {b : Nat} {D : List (κ × β)} {k : κ} : Does E o [.mp b, KE.enc k] [(b, mapE KE ve D)] { v := .tup [], wr := [(b, some (mapE KE ve (mDel KE k D)))] } := by
  intro ι imm st a w Q hs hv hh _
  have hv := hs.evls hv
  have hops : o.op.operands.toList = c.args.toList := by rw [ho]; simp [Op.operands, Call.operands, hc]
  rw [hops] at hv
  obtain ⟨v1, us, hea, hv1, v2, us2, he2, hv2, hv3⟩ := hv
  subst he2
  simp only [VHs] at hv3
  subst hv3
  have hargs : c.args.map a.eval = #[v1, v2] := by apply Array.ext'; simpa using hea
  simp only [VH] at hv1
  obtain ⟨rr, zz, hi, he⟩ := hv1
  have hb := hh _ (List.mem_cons_self ..)
  obtain ⟨rfl, m, q, D', h1, h2, h3, h4, h5, _, _⟩ := hs.map hb hi
  have hu : (underlying t).run E.P w = .ok (.map kt et) w := by rw [run_underlying hT hr, hdesc]
  have hf := run_find (ve := ve) K hv2 D' m.toList h3
  have hck := K.check m.isEmpty k _ hv2
  have hfin : ∀ c', EntsH ι imm w ((mDel KE k D').map fun e => (KE.enc e.1, ve e.2)) c'.toList → BornOk c'.toList q → (execOp a.eval o).run E.P w = .ok (.value (.tuple #[])) { w with heap := w.heap.setIfInBounds rr (.map c' q) } →
      o.wp E.P a w (fun a' w' => ∃ ι' imm', SR E ι' imm' (st.after o.dst { v := .tup [], wr := [(b, some (mapE KE ve (mDel KE k D)))] }) a' w') Q := fun c' e1 e2 hrun => by
    unfold Oper.wp
    rw [hrun, Oper.upon_value]
    have := hs.writeMap hb hi (mDel_perm (k := k) h2 (h4.perm h2.symm)) e1 (mDel_once (h4.perm h2.symm)) e2 (.tup [])
    exact ⟨ι, imm, this.put o.dst hd (by simp only [VH]; exact ⟨[], rfl, rfl⟩)⟩
  cases hl : lookL KE k D' m.toList 0 with
  | none =>
    rw [hl] at hf
    obtain ⟨_, q2, _⟩ := lookL_none h3 hl
    refine hfin m (by rw [q2]; exact h3) h5 ?_
    simp [execOp, ho, resolve, hc, invoke, builtin, hargs, Builtin.delete_, hty, he, hu, Go.MapKept.run_getObj_map h1, hck, hf, Go.MapKept.run_setObj_map _ h1]
  | some p =>
    obtain ⟨j, x⟩ := p
    rw [hl] at hf
    obtain ⟨m', e, y0, hj, q2, _, _, q5, q6, q7⟩ := lookL_some h3 hl
    have hjm : j = m' := by omega
    subst hjm
    have hjl : j < m.size := by
      have := (List.getElem?_eq_some_iff.1 q2).1
      simpa using this
    have hto : (m.eraseIdxIfInBounds j).toList = m.toList.eraseIdx j := by
      unfold Array.eraseIdxIfInBounds
      rw [dif_pos hjl, Array.toList_eraseIdx]
    refine hfin (m.eraseIdxIfInBounds j) ?_ ?_ ?_
    · rw [hto]; exact (q7 x y0 q5).2
    · rw [hto]; exact h5.sub (List.eraseIdx_sublist _ _)
    · simp [execOp, ho, resolve, hc, invoke, builtin, hargs, Builtin.delete_, hty, he, hu, Go.MapKept.run_getObj_map h1, hck, hf, Go.MapKept.run_setObj_map _ h1]
end ops
end Go.Am
/- An abstract machine over the kit's calls, part 41: maps: kinds of keys; the rules of operations in a region. No conditions. -/
namespace Go.Am
def ckFs (T : Tab) (rec : TyRow → AV → Bool) (xs : List AV) : List Field → Bool
  | [] => true
  | f :: fs => (f.name != "_") && match T.lookup f.type with
    | some r => match partV r xs f.offset with
      | some x => rec r x && ckFs T rec xs fs
      | none => false
    | none => false
def ckIs (rec : TyRow → AV → Bool) (r : TyRow) (xs : List AV) : List Nat → Bool
  | [] => true
  | i :: is => match partV r xs (i * r.size) with
    | some x => rec r x && ckIs rec r xs is
    | none => false
/-- Can a value be a key? -/
def ckAV (T : Tab) : Nat → TyRow → AV → Bool
  | 0, _, _ => false
  | d + 1, r, x => match r.desc with
    | .struct fs => match x with
      | .agg xs => ckFs T (ckAV T d) xs fs.toList
      | _ => false
    | .array n e => match x with
      | .agg xs => match T.lookup e with
        | some re => ckIs (ckAV T d) re xs (List.range n)
        | none => false
      | _ => false
    | .int _ | .bool | .string => true
    | _ => false
theorem run_ckFs {P : Program} {T : Tab} (hT : TabOk P T) {ι : Nat → Option (Nat × Nat)} {imm : Nat → Prop} {w : World} {em : Bool} {n : Nat} {rec : TyRow → AV → Bool}
    (hrec : ∀ {t : TypeId} {r : TyRow} (_ : T.lookup t = some r) {x : AV} (_ : rec r x = true) {v : Value} (_ : VH ι imm w x v), (Instr.checkKey em n t v).run P w = .ok () w) {xs : List AV} {us : List Value} (hx : VHs ι imm w xs us) :
    ∀ (fs : List Field), ckFs T rec xs fs = true → (forIn fs PUnit.unit fun f _ => if f.name ≠ "_" then (do Instr.checkKey em n f.type (← part f.type (List.toArray us) f.offset); pure (ForInStep.yield PUnit.unit)) else pure (ForInStep.yield PUnit.unit) : Sem PUnit).run P w = .ok () w
  | [], _ => rfl
  | f :: fs, h => by
    simp only [ckFs, Bool.and_eq_true, bne_iff_ne, ne_eq] at h
    obtain ⟨h1, h2⟩ := h
    split at h2
    · rename_i r hr
      split at h2
      · rename_i x hp
        simp only [Bool.and_eq_true] at h2
        obtain ⟨u, p1, p2⟩ := run_part hT hr hx hp
        have p3 := hrec hr h2.1 p2
        simp only [List.forIn_cons, ne_eq, h1, not_false_eq_true, if_true, run_bind', p1, p3, run_pure']
        exact run_ckFs hT hrec hx fs h2.2
      · cases h2
    · cases h2
theorem run_ckIs {P : Program} {T : Tab} (hT : TabOk P T) {ι : Nat → Option (Nat × Nat)} {imm : Nat → Prop} {w : World} {em : Bool} {n e : Nat} {re : TyRow} (hre : T.lookup e = some re) {rec : TyRow → AV → Bool}
    (hrec : ∀ {x : AV} (_ : rec re x = true) {v : Value} (_ : VH ι imm w x v), (Instr.checkKey em n e v).run P w = .ok () w) {xs : List AV} {us : List Value} (hx : VHs ι imm w xs us) :
    ∀ (is : List Nat), ckIs rec re xs is = true → (forIn is PUnit.unit fun i _ => (do Instr.checkKey em n e (← part e (List.toArray us) (i * (← Go.sizeOf e))); pure (ForInStep.yield PUnit.unit)) : Sem PUnit).run P w = .ok () w
  | [], _ => rfl
  | i :: is, h => by
    simp only [ckIs] at h
    split at h
    · rename_i x hp
      simp only [Bool.and_eq_true] at h
      obtain ⟨u, p1, p2⟩ := run_part hT hre hx hp
      have p3 := hrec h.1 p2
      simp only [List.forIn_cons, run_bind', run_sizeOf hT hre, p1, p3, run_pure']
      exact run_ckIs hT hre hrec hx is h.2
    · cases h
theorem run_ckAV {P : Program} {T : Tab} (hT : TabOk P T) {ι : Nat → Option (Nat × Nat)} {imm : Nat → Prop} {w : World} (em : Bool) : ∀ (d : Nat) {t : TypeId} {r : TyRow} (_ : T.lookup t = some r) {x : AV} (_ : ckAV T d r x = true) {v : Value} (_ : VH ι imm w x v), (Instr.checkKey em d t v).run P w = .ok () w
  | 0, _, _, _, _, h, _, _ => by simp [ckAV] at h
  | d + 1, t, r, hr, x, h, v, hv => by
    have hu := run_underlying hT hr w
    unfold ckAV at h
    split at h
    · rename_i fs hfs
      split at h
      · rename_i xs
        simp only [VH] at hv
        obtain ⟨us, rfl, hus⟩ := hv
        rw [Instr.checkKey]
        simp only [run_bind', hu, hfs]
        rw [← Array.forIn_toList]
        have := run_ckFs hT (fun hr' _ h' _ q => run_ckAV hT em d hr' h' q) hus fs.toList h
        simp at this ⊢
        rw [this]
      · cases h
    · rename_i n e hne
      split at h
      · rename_i xs
        split at h
        · rename_i re hre
          simp only [VH] at hv
          obtain ⟨us, rfl, hus⟩ := hv
          rw [Instr.checkKey]
          simp only [run_bind', hu, hne]
          simp only [Std.Legacy.Range.forIn_eq_forIn_range', Std.Legacy.Range.size, Nat.sub_zero, Nat.add_one_sub_one, Nat.div_one]
          rw [← List.range_eq_range']
          have := run_ckIs hT hre (fun h' _ q => run_ckAV hT em d hre h' q) hus (List.range n) h
          simp at this ⊢
          rw [this]
        · cases h
      · cases h
    · rename_i k hk
      rw [Instr.checkKey]
      simp only [run_bind', hu, hk, run_pure']
    · rename_i hk
      rw [Instr.checkKey]
      simp only [run_bind', hu, hk, run_pure']
    · rename_i hk
      rw [Instr.checkKey]
      simp only [run_bind', hu, hk, run_pure']
    · cases h
theorem KeyOk.agg {κ : Type} {KE : KEnc κ} {P : Program} {T : Tab} (hT : TabOk P T) {kt : TypeId} {r : TyRow} (hr : T.lookup kt = some r) (hd : isAggD r.desc = true) (hE : ∀ a b, eqAV T 10000 r (KE.enc a) (KE.enc b) = some (KE.eq a b)) (hC : ∀ a, ckAV T 10000 r (KE.enc a) = true) : KeyOk P kt KE where
  check em k v hv := run_ckAV hT em 10000 hr (hC k) hv
  now := .inr ⟨⟨r.desc, (hT kt r hr).1, fun u v => by cases hdd : r.desc <;> rw [hdd] at hd <;> first | (cases hd; done) | (cases u <;> cases v <;> rfl)⟩, fun a b u v h1 h2 => run_eqAV hT 10000 hr (hE a b) h1 h2⟩
theorem KeyOk.int {κ : Type} {KE : KEnc κ} {P : Program} {T : Tab} (hT : TabOk P T) {kt : TypeId} {r : TyRow} (hr : T.lookup kt = some r) {k k' : IntKind} (hd : r.desc = .int k) {f : κ → Int} (he : ∀ a, KE.enc a = .pv (.lit (.int k' (f a)))) (hq : ∀ a b, KE.eq a b = (f a == f b)) : KeyOk P kt KE where
  check em a v hv := by
    have hu := run_underlying hT hr
    rw [he] at hv
    simp only [VH, PH] at hv
    rw [hv.1, show (10000 : Nat) = 9999 + 1 from rfl, Instr.checkKey]
    simp only [run_bind', hu, hd, run_pure']
  now := .inl ⟨r.desc, (hT kt r hr).1, fun a b u v h1 h2 => by
    rw [he] at h1 h2
    simp only [VH, PH] at h1 h2
    rw [h1.1, h2.1, hd, hq]
    simp [Instr.sameNow]⟩
structure VEnc (β : Type) where
  enc : β → AV
  pure : ∀ x U, (enc x).within U = true
section steps
variable {E : Env} {T : Tab} {cq : Oper → Cls} {n : Nat} {ops : Array Oper} {κ β : Type} {KE : KEnc κ} {VE : VEnc β} {P : Program}
mutual
theorem rigid_within (U : Nat → Bool) : ∀ (x : AV), rigid x = true → x.within U = true
  | .agg cs, h => by simp only [rigid] at h; simp only [AV.within]; exact rigidL_within U cs h
  | .pv _, _ => rfl
  | .undef, h | .tup _, h | .ptr _ _, h | .sl _ _ _ _ _, h | .slc _ _ _ _ _, h | .tsl _ _, h | .rp _, h | .mp _, h | .fn _ _ _, h => by simp [rigid] at h
theorem rigidL_within (U : Nat → Bool) : ∀ (xs : List AV), rigidL xs = true → AV.withinL U xs = true
  | [], _ => rfl
  | x :: xs, h => by
    simp only [rigidL, Bool.and_eq_true] at h
    simp only [AV.withinL, Bool.and_eq_true]
    exact ⟨rigid_within U x h.1, rigidL_within U xs h.2⟩
end
theorem mapE_within (D : List (κ × β)) (U : Nat → Bool) : (mapE KE VE.enc D).within U = true := by
  simp only [mapE, Blk.within, List.all_map, List.all_eq_true, Function.comp_apply, Bool.and_eq_true]
  exact fun e _ => ⟨rigid_within U _ (KE.rig _), VE.pure _ _⟩
theorem mapE_ren (D : List (κ × β)) (σ : Nat → Nat) : (mapE KE VE.enc D).ren σ = mapE KE VE.enc D := by
  simp only [mapE, Blk.ren, List.map_map]
  congr 1
  exact List.map_congr_left fun e _ => by
    simp only [Function.comp_apply, ren_rigid _ (KE.rig _), AV.ren_none _ (VE.pure _ _)]
theorem refs_mp (b : Nat) (vs : List AV) (hs : List (Nat × Blk)) : refs (.mp b :: vs) hs b = true := by
  simp [refs, AV.withinL, AV.within]
theorem dst_lt (C : Cx E T n) {o : Oper} (h1 : dstB n o = true) : ∀ d, o.dst = some d → d < E.n := fun d e => by
  simp only [dstB, e, decide_eq_true_eq] at h1
  exact C.n ▸ h1
theorem rexec_makeMap (C : Cx E T n) {d : Nat} {t ty : TypeId} {pos : String} {af : Array Edge} {g : Option (Nat × Bool)} {st : St} {K : St → Prop} (h1 : dstB n ⟨some d, .makeMap t none, ty, pos, af, g⟩ = true) (hU : st.U d = false) (KE : KEnc κ) (VE : VEnc β)
    (h7 : K (st.after (some d) { v := .mp d, new := [(d, mapE KE VE.enc [])] })) (hp : clsOf cq ⟨some d, .makeMap t none, ty, pos, af, g⟩ ≠ .pure := by decide) (hft : footB (clsOf cq ⟨some d, .makeMap t none, ty, pos, af, g⟩) [] { v := .mp d, new := [(d, mapE KE VE.enc [])] } = true := by rfl) : rexec E cq n ⟨some d, .makeMap t none, ty, pos, af, g⟩ st K := by
  refine ⟨h1, [], [], _, { vals := rfl, deps := fun _ h => (by cases h), fresh := ?_, does := does_makeMap rfl rfl (dst_lt C h1 d rfl), reach := rfl, inV := ?_, inN := ?_, inW := fun _ h => (by cases h), wr := fun _ h => (by cases h), pure := fun h => absurd h hp, quiet := fun _ => rfl, foot := hft }, h7⟩
  · intro x hx; simp only [List.mem_singleton] at hx; subst hx; exact hU
  · simp [AV.within]
  · intro x hx; simp only [List.mem_singleton] at hx; subst hx; rfl
theorem rexec_lookup (hP : E.P = P) (C : Cx E T n) {d : Option Nat} {t ty : TypeId} {x y : Operand} {ok : Bool} {pos : String} {af : Array Edge} {g : Option (Nat × Bool)} {st : St} {K : St → Prop} (h1 : dstB n ⟨d, .lookup t x y ok, ty, pos, af, g⟩ = true) {b : Nat} {D : List (κ × β)} (k : κ) (z : β)
    (hx : evl st.S x = some (.mp b)) (hy : evl st.S y = some (KE.enc k)) (hb : st.H b = some (mapE KE VE.enc D)) {r re : TyRow} (hr : T.lookup t = some r) {kt et : TypeId} (hdesc : r.desc = .map kt et) (hre : T.lookup et = some re) (KO : KeyOk P kt KE) (hz : VE.enc z = constAV re.zero) (v : AV)
    (hv : v = if ok then .tup [VE.enc ((mGet KE k D).getD z), .pv (.lit (.bool (mGet KE k D).isSome))] else VE.enc ((mGet KE k D).getD z)) (h7 : K (st.after d { v := v }))
    (hp : clsOf cq ⟨d, .lookup t x y ok, ty, pos, af, g⟩ ≠ .pure := by decide) (hft : footB (clsOf cq ⟨d, .lookup t x y ok, ty, pos, af, g⟩) [(b, mapE KE VE.enc D)] { v := v } = true := by rfl) : rexec E cq n ⟨d, .lookup t x y ok, ty, pos, af, g⟩ st K := by
  subst hP
  subst hv
  refine ⟨h1, [.mp b, KE.enc k], [(b, mapE KE VE.enc D)], _, { vals := ?_, deps := ?_, fresh := fun _ h => (by cases h), does := does_lookup C.tab rfl (dst_lt C h1) hr hdesc hre KO hz, reach := ?_, inV := ?_, inN := fun _ h => (by cases h), inW := fun _ h => (by cases h), wr := fun _ h => (by cases h), pure := fun h => absurd h hp, quiet := fun _ => rfl, foot := hft }, h7⟩
  · show evls st.S [x, y] = _
    simp only [evls, hx, hy]
  · intro q hq; simp only [List.mem_singleton] at hq; subst hq; exact hb
  · simp only [reachB, refs_mp, Bool.and_self]
  · cases ok
    · exact VE.pure _ _
    · simp only [if_true, AV.within, AV.withinL, VE.pure, Bool.and_self]
theorem rexec_mapUpdate (hP : E.P = P) (C : Cx E T n) {t ty : TypeId} {x y z : Operand} {pos : String} {af : Array Edge} {g : Option (Nat × Bool)} {st : St} {K : St → Prop} {b : Nat} {D : List (κ × β)} (k : κ) (u : β)
    (hx : evl st.S x = some (.mp b)) (hy : evl st.S y = some (KE.enc k)) (hu : evl st.S z = some (VE.enc u)) (hb : st.H b = some (mapE KE VE.enc D)) {r : TyRow} (hr : T.lookup t = some r) {kt et : TypeId} (hdesc : r.desc = .map kt et) (KO : KeyOk P kt KE)
    (h7 : K (st.after none { v := .undef, wr := [(b, some (mapE KE VE.enc (mSet KE k u D)))] }))
    (hp : clsOf cq ⟨none, .mapUpdate t x y z, ty, pos, af, g⟩ ≠ .pure := by decide) (hq : clsOf cq ⟨none, .mapUpdate t x y z, ty, pos, af, g⟩ ≠ .quiet := by decide) (hft : footB (clsOf cq ⟨none, .mapUpdate t x y z, ty, pos, af, g⟩) [(b, mapE KE VE.enc D)] { v := .undef, wr := [(b, some (mapE KE VE.enc (mSet KE k u D)))] } = true := by rfl) : rexec E cq n ⟨none, .mapUpdate t x y z, ty, pos, af, g⟩ st K := by
  subst hP
  refine ⟨rfl, [.mp b, KE.enc k, VE.enc u], [(b, mapE KE VE.enc D)], _, { vals := ?_, deps := ?_, fresh := fun _ h => (by cases h), does := does_mapUpdate C.tab rfl rfl hr hdesc KO, reach := ?_, inV := rfl, inN := fun _ h => (by cases h), inW := ?_, wr := ?_, pure := fun h => absurd h hp, quiet := fun h => absurd h hq, foot := hft }, h7⟩
  · show evls st.S [x, y, z] = _
    simp only [evls, hx, hy, hu]
  · intro q hq; simp only [List.mem_singleton] at hq; subst hq; exact hb
  · simp only [reachB, refs_mp, Bool.and_self]
  · intro q hq k' hk'
    simp only [List.mem_singleton] at hq
    subst hq
    obtain rfl := Option.some.inj hk'
    exact mapE_within _ _
  · intro q hq
    simp only [List.mem_singleton] at hq
    subst hq
    simp [refs_mp]
theorem rexec_delete (hP : E.P = P) (C : Cx E T n) {d : Option Nat} {c : Call} {t t2 ty : TypeId} {pos : String} {af : Array Edge} {g : Option (Nat × Bool)} {st : St} {K : St → Prop} (h1 : dstB n ⟨d, .call c, ty, pos, af, g⟩ = true) (hc : c.callee = .builtin .delete) (hty : c.argTypes = #[t, t2]) {b : Nat} {D : List (κ × β)} (k : κ)
    (hx : evls st.S c.args.toList = some [.mp b, KE.enc k]) (hb : st.H b = some (mapE KE VE.enc D)) {r : TyRow} (hr : T.lookup t = some r) {kt et : TypeId} (hdesc : r.desc = .map kt et) (KO : KeyOk P kt KE)
    (h7 : K (st.after d { v := .tup [], wr := [(b, some (mapE KE VE.enc (mDel KE k D)))] }))
    (hp : clsOf cq ⟨d, .call c, ty, pos, af, g⟩ ≠ .pure := by decide) (hq : clsOf cq ⟨d, .call c, ty, pos, af, g⟩ ≠ .quiet := by decide) (hft : footB (clsOf cq ⟨d, .call c, ty, pos, af, g⟩) [(b, mapE KE VE.enc D)] { v := .tup [], wr := [(b, some (mapE KE VE.enc (mDel KE k D)))] } = true := by rfl) : rexec E cq n ⟨d, .call c, ty, pos, af, g⟩ st K := by
  subst hP
  refine ⟨h1, [.mp b, KE.enc k], [(b, mapE KE VE.enc D)], _, { vals := ?_, deps := ?_, fresh := fun _ h => (by cases h), does := does_delete C.tab rfl hc hty (dst_lt C h1) hr hdesc KO, reach := ?_, inV := rfl, inN := fun _ h => (by cases h), inW := ?_, wr := ?_, pure := fun h => absurd h hp, quiet := fun h => absurd h hq, foot := hft }, h7⟩
  · show evls st.S (Op.operands (.call c)).toList = _
    have : (Op.operands (.call c)).toList = c.args.toList := by simp [Op.operands, Call.operands, hc]
    rw [this]; exact hx
  · intro q hq; simp only [List.mem_singleton] at hq; subst hq; exact hb
  · simp only [reachB, refs_mp, Bool.and_self]
  · intro q hq k' hk'
    simp only [List.mem_singleton] at hq
    subst hq
    obtain rfl := Option.some.inj hk'
    exact mapE_within _ _
  · intro q hq
    simp only [List.mem_singleton] at hq
    subst hq
    simp [refs_mp]
end steps
end Go.Am
/- An abstract machine over the kit's calls, part 42: calls that are handed an object (block 0) and the blocks that it names. No conditions. -/
namespace Go.Am
section steps
variable {E : Env} {T : Tab} {cq : Oper → Cls} {n : Nat} {ops : Array Oper}
/-- A call that is handed an object, block 0, and the blocks that it names; what these hold leads nowhere. -/
structure ObjCalls (P : Program) (f : FuncId) (avs : List AV) (cs : List AV) (Bs : List (Nat × Blk)) (av : AV) (cs' : List AV) (Bs' : List (Nat × Blk)) : Prop where
  fn : ∃ fn, P.funcs[f]? = some fn ∧ (fn.name == "runtime.NumGoroutine") = false ∧ fn.body.isNone = false
  args : AV.withinL (inI (0 :: Bs.map (·.1))) avs = true
  c0 : AV.withinL (inI (0 :: Bs.map (·.1))) cs = true
  b0 : ∀ x ∈ Bs, x.2.within (fun _ => false) = true
  nd : (0 :: Bs.map (·.1)).Nodup
  res : av.within (fun _ => false) = true
  c1 : AV.withinL (inI (0 :: Bs'.map (·.1))) cs' = true
  b1 : ∀ x ∈ Bs', x.2.within (fun _ => false) = true
  nd' : (0 :: Bs'.map (·.1)).Nodup
  calls : ACalls P f (0 :: Bs.map (·.1)) avs ((0, .cells cs) :: Bs) av ((0, .cells cs') :: Bs')
theorem ObjCalls.of_body {P : Program} {T : Tab} (hT : TabOk P T) {f : FuncId} {fn : Func} {body : Code} (hf : P.funcs[f]? = some fn) (hb : fn.body = some body) (hn : (fn.name == "runtime.NumGoroutine") = false) {avs cs cs' : List AV} {Bs Bs' : List (Nat × Blk)} {av : AV} (hl : decide (avs.length ≤ fn.ntmps) = true)
    (args : AV.withinL (inI (0 :: Bs.map (·.1))) avs = true) (c0 : AV.withinL (inI (0 :: Bs.map (·.1))) cs = true) (b0 : ∀ x ∈ Bs, x.2.within (fun _ => false) = true) (nd : (0 :: Bs.map (·.1)).Nodup) (res : av.within (fun _ => false) = true)
    (c1 : AV.withinL (inI (0 :: Bs'.map (·.1))) cs' = true) (b1 : ∀ x ∈ Bs', x.2.within (fun _ => false) = true) (nd' : (0 :: Bs'.map (·.1)).Nodup) (hm : P.follows .mixedOrders = true)
    (h : ∀ E : Env, E.P = P → Cx E T fn.ntmps → E.I = 0 :: Bs.map (·.1) → Awp E body (entry avs ((0, .cells cs) :: Bs) (0 :: Bs.map (·.1))) fun e st => (e = .ret ∨ e = .normal) ∧ resAV T st fn.results.toList = some av ∧ st.H 0 = some (.cells cs') ∧ eqsH st.H Bs') : ObjCalls P f avs cs Bs av cs' Bs' where
  fn := ⟨fn, hf, hn, by simp [hb]⟩
  args := args
  c0 := c0
  b0 := b0
  nd := nd
  res := res
  c1 := c1
  b1 := b1
  nd' := nd'
  calls := ACalls.of_body hT hf hb (by simpa using hl) fun E hP hE hI => (h E hP ⟨hP ▸ hT, hE, hP ▸ hm⟩ hI).mono fun e st ⟨h1, h2, h3, h4⟩ => ⟨h1, h2, fun x hx => by
    rcases List.mem_cons.1 hx with rfl | hx
    · exact h3
    · exact eqsH_mem h4 x hx⟩
mutual
theorem AV.within_ren {U V : Nat → Bool} {τ : Nat → Nat} (h : ∀ b, U b = true → V (τ b) = true) : ∀ (x : AV), x.within U = true → (x.ren τ).within V = true
  | .agg cs, hx => by simp only [AV.within] at hx; simp only [AV.ren, AV.within]; exact AV.withinL_ren h cs hx
  | .tup cs, hx => by simp only [AV.within] at hx; simp only [AV.ren, AV.within]; exact AV.withinL_ren h cs hx
  | .undef, _ | .pv _, _ | .tsl _ _, _ | .rp _, _ => rfl
  | .ptr b _, hx => by simp only [AV.within] at hx; simp only [AV.ren, AV.within]; exact h b hx
  | .sl b _ _ _ _, hx => by simp only [AV.within] at hx; simp only [AV.ren, AV.within]; exact h b hx
  | .slc b _ _ _ _, hx => by simp only [AV.within] at hx; simp only [AV.ren, AV.within]; exact h b hx
  | .mp b, hx => by simp only [AV.within] at hx; simp only [AV.ren, AV.within]; exact h b hx
  | .fn _ xs ys, hx => by
    simp only [AV.within, Bool.and_eq_true] at hx
    simp only [AV.ren, AV.within, Bool.and_eq_true]
    exact ⟨AV.withinL_ren h xs hx.1, AV.withinL_ren h ys hx.2⟩
theorem AV.withinL_ren {U V : Nat → Bool} {τ : Nat → Nat} (h : ∀ b, U b = true → V (τ b) = true) : ∀ (xs : List AV), AV.withinL U xs = true → AV.withinL V (AV.renL τ xs) = true
  | [], _ => rfl
  | x :: xs, hx => by
    simp only [AV.withinL, Bool.and_eq_true] at hx
    simp only [AV.renL, AV.withinL, Bool.and_eq_true]
    exact ⟨AV.within_ren h x hx.1, AV.withinL_ren h xs hx.2⟩
end
/-- What such a call does at the caller's: σ names the blocks that are handed in, L those that are new. -/
def objDelta (σ : Nat → Nat) (L : List (Nat × Nat)) (I : List Nat) (Bs : List (Nat × Blk)) (av : AV) (cs' : List AV) (Bs' : List (Nat × Blk)) : Delta where
  v := av
  new := L.map fun x => (x.1, ((heapOf Bs' x.2).getD (.cells [])))
  wr := (σ 0, some (.cells (AV.renL (Names.τ ⟨σ, L⟩ I) cs'))) :: Bs.map fun x => (σ x.1, heapOf Bs' x.1)
theorem inj_of_nodup {α β : Type} {f : α → β} : ∀ {l : List α}, (l.map f).Nodup → ∀ {a b : α}, a ∈ l → b ∈ l → f a = f b → a = b
  | [], _, _, _, ha, _, _ => by cases ha
  | x :: l, h, a, b, ha, hb, e => by
    rw [List.map_cons, List.nodup_cons] at h
    rcases List.mem_cons.1 ha with h1 | h1 <;> rcases List.mem_cons.1 hb with h2 | h2
    · rw [h1, h2]
    · exact (h.1 (List.mem_map.2 ⟨b, h2, by rw [← e, h1]⟩)).elim
    · exact (h.1 (List.mem_map.2 ⟨a, h1, by rw [e, h2]⟩)).elim
    · exact inj_of_nodup h.2 h1 h2 e
theorem heapOf_cons_ne {b : Nat} {k : Blk} {H : List (Nat × Blk)} {c : Nat} (h : c ≠ b) : heapOf ((b, k) :: H) c = heapOf H c := by
  have : (c == b) = false := by simpa using h
  simp only [heapOf, List.lookup, this]
theorem rexec_callObj {P : Program} (hP : E.P = P) (C : Cx E T n) {f : FuncId} {avs args cs cs' : List AV} {Bs Bs' : List (Nat × Blk)} {av : AV} {d : Option Nat} {c : Call} {ty : TypeId} {pos : String} {af : Array Edge} {g : Option (Nat × Bool)} {st : St} {K : St → Prop}
    (σ : Nat → Nat) (L : List (Nat × Nat)) (h1 : dstB n ⟨d, .call c, ty, pos, af, g⟩ = true) (hc : c.callee = .value (.func f)) (hv : evls st.S c.args.toList = some args)
    (F : ObjCalls P f avs cs Bs av cs' Bs') (ha : AV.renL σ avs = args) (hb : st.H (σ 0) = some (.cells (AV.renL σ cs))) (hBs : eqsH st.H (Bs.map fun x => (σ x.1, x.2))) (hinj : ((0 :: Bs.map (·.1)).map σ).Nodup) (hU : (L.all fun x => !st.U x.1) = true)
    (hL1 : (L.map (·.1)).Nodup) (hL2 : (L.map (·.2)).Nodup) (hL3 : ∀ x ∈ L, inI (0 :: Bs.map (·.1)) x.2 = false) (hL4 : ∀ x ∈ L, (heapOf Bs' x.2).isSome = true) (hL5 : ∀ x ∈ Bs', Names.knows ⟨σ, L⟩ (0 :: Bs.map (·.1)) x.1 = true)
    (h7 : K (st.after d (objDelta σ L (0 :: Bs.map (·.1)) Bs av cs' Bs')))
    (hreach : refs (.fn f [] [] :: args) [] (σ 0) = true) (hrb : ∀ x ∈ Bs, AV.withinL (· != σ x.1) (args ++ AV.renL σ cs) = false)
    (hp : clsOf cq ⟨d, .call c, ty, pos, af, g⟩ ≠ .pure := by decide) (hq : clsOf cq ⟨d, .call c, ty, pos, af, g⟩ ≠ .quiet := by decide)
    (hft : footB (clsOf cq ⟨d, .call c, ty, pos, af, g⟩) ((σ 0, .cells (AV.renL σ cs)) :: Bs.map fun x => (σ x.1, x.2)) (objDelta σ L (0 :: Bs.map (·.1)) Bs av cs' Bs') = true := by rfl) : rexec E cq n ⟨d, .call c, ty, pos, af, g⟩ st K := by
  subst hP
  obtain ⟨fn, q1, q2, q3⟩ := F.fn
  have hd : ∀ x, d = some x → x < E.n := dst_lt C h1
  have hnone : ∀ (U : Nat → Bool) (b : Nat), (fun _ : Nat => false) b = true → U b = true := fun _ _ h => by cases h
  have hI0 : inI (0 :: Bs.map (·.1)) 0 = true := by simp [inI]
  have hIB : ∀ x ∈ Bs, inI (0 :: Bs.map (·.1)) x.1 = true := fun x hx => by
    simp only [inI, List.contains_iff_mem]
    exact List.mem_cons_of_mem _ (List.mem_map.2 ⟨x, hx, rfl⟩)
  have h0B : ∀ x ∈ Bs, x.1 ≠ 0 := fun x hx e => by
    have := (List.nodup_cons.1 F.nd).1
    exact this (List.mem_map.2 ⟨x, hx, e⟩)
  have h0B' : ∀ x ∈ Bs', x.1 ≠ 0 := fun x hx e => by
    have := (List.nodup_cons.1 F.nd').1
    exact this (List.mem_map.2 ⟨x, hx, e⟩)
  have hinj' : ∀ b c, inI (0 :: Bs.map (·.1)) b = true → inI (0 :: Bs.map (·.1)) c = true → σ b = σ c → b = c := fun b c hb hc e => by
    simp only [inI, List.contains_iff_mem] at hb hc
    exact inj_of_nodup hinj hb hc e
  have hknow0 : Names.knows ⟨σ, L⟩ (0 :: Bs.map (·.1)) 0 = true := by simp [Names.knows, hI0]
  have ok : CallOk ⟨σ, L⟩ (0 :: Bs.map (·.1)) avs ((0, .cells cs) :: Bs) ((0, .cells cs') :: Bs') av := by
    refine { args := F.args, ids := ?_, blks := ?_, nodup := by simpa using F.nd, inj := hinj', nodupL := hL1, nodupR := hL2, fresh := hL3, res := ?_, res' := ?_, kept := ?_, all := ?_, used := ?_ }
    · intro x hx
      rcases List.mem_cons.1 hx with rfl | hx
      · exact hI0
      · exact hIB x hx
    · intro x hx
      rcases List.mem_cons.1 hx with rfl | hx
      · exact F.c0
      · exact Blk.within_mono (hnone _) _ (F.b0 x hx)
    · exact AV.within_mono (hnone _) av F.res
    · intro x hx
      rcases List.mem_cons.1 hx with rfl | hx
      · refine ⟨hknow0, AV.withinL_mono (fun b hb => ?_) cs' F.c1⟩
        simp only [inI, List.contains_iff_mem, List.mem_cons] at hb
        rcases hb with rfl | hb
        · exact hknow0
        · obtain ⟨y, hy, rfl⟩ := List.mem_map.1 hb
          exact hL5 y hy
      · exact ⟨hL5 x hx, Blk.within_mono (hnone _) _ (F.b1 x hx)⟩
    · intro x hx hI
      simp only [inI, List.contains_iff_mem, List.mem_cons] at hI
      rcases hI with h0 | hI
      · exact ⟨.cells cs, by rw [h0]; exact List.mem_cons_self ..⟩
      · obtain ⟨y, hy, e⟩ := List.mem_map.1 hI
        exact ⟨y.2, List.mem_cons_of_mem _ (by rw [← e]; exact hy)⟩
    · intro x hx
      have hne : x.2 ≠ 0 := fun e => by
        have := hL3 x hx
        rw [e, hI0] at this; cases this
      rw [heapOf_cons_ne hne]; exact hL4 x hx
    · intro b hb
      simp only [inI, List.contains_iff_mem, List.mem_cons] at hb
      rcases hb with rfl | hb
      · exact .inr rfl
      · obtain ⟨y, hy, rfl⟩ := List.mem_map.1 hb
        right
        rw [heapOf_cons_ne (h0B y hy)]
        have := lookup_of_mem (l := Bs) (x := y) (List.nodup_cons.1 F.nd).2 hy
        simp only [heapOf, this]; rfl
  have hdo := does_call (E := E) (o := ⟨d, .call c, ty, pos, af, g⟩) (c := c) rfl hc hd q1 q2 q3 F.calls ok (args := args) (caps := []) (by simpa using ha)
  have pure1 : ∀ x, heapOf Bs' x = none ∨ ∃ k, heapOf Bs' x = some k ∧ k.within (fun _ => false) = true := fun x => by
    cases e : heapOf Bs' x with
    | none => exact .inl rfl
    | some k => exact .inr ⟨k, rfl, F.b1 (x, k) (lookup_mem (l := Bs') e)⟩
  have hren : ∀ (τ : Nat → Nat) x, (heapOf Bs' x).map (·.ren τ) = heapOf Bs' x := fun τ x => by
    rcases pure1 x with h | ⟨k, h, hk⟩
    · rw [h]; rfl
    · rw [h, Option.map_some, Blk.ren_none hk]
  have hH : (((0, Blk.cells cs) :: Bs).map fun x => (σ x.1, x.2.ren σ)) = (σ 0, .cells (AV.renL σ cs)) :: Bs.map fun x => (σ x.1, x.2) := by
    rw [List.map_cons]
    congr 1
    exact List.map_congr_left fun x hx => by rw [Blk.ren_none (F.b0 x hx)]
  have he : Names.delta ⟨σ, L⟩ (0 :: Bs.map (·.1)) ((0, .cells cs) :: Bs) ((0, .cells cs') :: Bs') av = objDelta σ L (0 :: Bs.map (·.1)) Bs av cs' Bs' := by
    unfold Names.delta objDelta
    congr 1
    · exact AV.ren_none av F.res
    · refine List.map_congr_left fun x hx => ?_
      have hne : x.2 ≠ 0 := fun e => by
        have := hL3 x hx
        rw [e, hI0] at this; cases this
      rw [heapOf_cons_ne hne]
      obtain ⟨k, hk⟩ := Option.isSome_iff_exists.1 (hL4 x hx)
      have := hren (Names.τ ⟨σ, L⟩ (0 :: Bs.map (·.1))) x.2
      rw [hk] at this ⊢
      simp only [Option.map_some, Option.some.injEq] at this
      simp only [Option.getD_some, this]
    · rw [List.map_cons]
      congr 1
      refine List.map_congr_left fun x hx => ?_
      rw [heapOf_cons_ne (h0B x hx), hren]
  rw [he] at hdo
  have hdo' : Does E ⟨d, .call c, ty, pos, af, g⟩ (.fn f [] [] :: args) ((σ 0, .cells (AV.renL σ cs)) :: Bs.map fun x => (σ x.1, x.2)) (objDelta σ L (0 :: Bs.map (·.1)) Bs av cs' Bs') := by
    rw [← hH]; exact hdo
  have hops : (Op.operands (.call c)).toList = .func f :: c.args.toList := by simp [Op.operands, Call.operands, hc]
  have hr0 : ∀ hs, refs (.fn f [] [] :: args) hs (σ 0) = true := fun hs => by
    simp only [refs, Bool.or_eq_true] at hreach ⊢
    rcases hreach with h | h
    · exact .inl h
    · simp at h
  have hrB : ∀ x ∈ Bs, ∀ hs, (σ 0, Blk.cells (AV.renL σ cs)) ∈ hs → refs (.fn f [] [] :: args) hs (σ x.1) = true := fun x hx hs hm => by
    have h := hrb x hx
    simp only [refs, Bool.or_eq_true, Bool.not_eq_true', List.any_eq_true]
    have key : AV.withinL (· != σ x.1) args = false ∨ AV.withinL (· != σ x.1) (AV.renL σ cs) = false := by
      cases e1 : AV.withinL (· != σ x.1) args
      · exact .inl rfl
      · cases e2 : AV.withinL (· != σ x.1) (AV.renL σ cs)
        · exact .inr rfl
        · have : AV.withinL (· != σ x.1) (args ++ AV.renL σ cs) = true := AV.withinL_of fun y hy => by
            rcases List.mem_append.1 hy with hy | hy
            · exact AV.withinL_mem e1 y hy
            · exact AV.withinL_mem e2 y hy
          rw [this] at h; cases h
    rcases key with h | h
    · left; simp only [AV.withinL, h, Bool.and_false]
    · right; exact ⟨_, hm, by simpa [Blk.within] using h⟩
  have hrAll : reachB (.fn f [] [] :: args) [] ((σ 0, .cells (AV.renL σ cs)) :: Bs.map fun x => (σ x.1, x.2)) = true := by
    have key : ∀ (bs : List (Nat × Blk)) (seen : List (Nat × Blk)), (∀ x ∈ bs, x ∈ Bs) → (σ 0, Blk.cells (AV.renL σ cs)) ∈ seen → reachB (.fn f [] [] :: args) seen (bs.map fun x => (σ x.1, x.2)) = true := by
      intro bs
      induction bs with
      | nil => intro _ _ _; rfl
      | cons y bs ih =>
        intro seen hb hm
        simp only [List.map_cons, reachB, Bool.and_eq_true]
        exact ⟨hrB y (hb y (List.mem_cons_self ..)) seen hm, ih _ (fun x hx => hb x (List.mem_cons_of_mem _ hx)) (List.mem_cons_of_mem _ hm)⟩
    simp only [reachB, Bool.and_eq_true]
    exact ⟨hr0 [], key Bs _ (fun _ h => h) (List.mem_cons_self ..)⟩
  have hknown : ∀ b, inI (0 :: Bs'.map (·.1)) b = true → ((objDelta σ L (0 :: Bs.map (·.1)) Bs av cs' Bs').new.lookup (Names.τ ⟨σ, L⟩ (0 :: Bs.map (·.1)) b)).isSome = true ∨ refs (.fn f [] [] :: args) ((σ 0, .cells (AV.renL σ cs)) :: Bs.map fun x => (σ x.1, x.2)) (Names.τ ⟨σ, L⟩ (0 :: Bs.map (·.1)) b) = true := fun b hb => by
    have hk : Names.knows ⟨σ, L⟩ (0 :: Bs.map (·.1)) b = true := by
      simp only [inI, List.contains_iff_mem, List.mem_cons] at hb
      rcases hb with rfl | hb
      · exact hknow0
      · obtain ⟨y, hy, rfl⟩ := List.mem_map.1 hb
        exact hL5 y hy
    cases hi : inI (0 :: Bs.map (·.1)) b with
    | true =>
      right
      have e : Names.τ ⟨σ, L⟩ (0 :: Bs.map (·.1)) b = σ b := by simp only [Names.τ, hi, if_true]
      rw [e]
      simp only [inI, List.contains_iff_mem, List.mem_cons] at hi
      rcases hi with rfl | hi
      · exact hr0 _
      · obtain ⟨y, hy, rfl⟩ := List.mem_map.1 hi
        exact hrB y hy _ (List.mem_cons_self ..)
    | false =>
      left
      simp only [Names.knows, hi, Bool.false_or, List.any_eq_true, beq_iff_eq] at hk
      obtain ⟨y, hy, rfl⟩ := hk
      have e : Names.τ ⟨σ, L⟩ (0 :: Bs.map (·.1)) y.2 = y.1 := by
        simp only [Names.τ, hi, Bool.false_eq_true, if_false, find_snd hL2 hy]; rfl
      rw [e]
      have : (L.map fun x => (x.1, (heapOf Bs' x.2).getD (.cells []))).lookup y.1 = some ((heapOf Bs' y.2).getD (.cells [])) :=
        lookup_of_mem (l := L.map fun x => (x.1, (heapOf Bs' x.2).getD (.cells []))) (x := (y.1, (heapOf Bs' y.2).getD (.cells []))) (by rw [List.map_map]; exact hL1) (List.mem_map.2 ⟨y, hy, rfl⟩)
      show ((L.map fun x => (x.1, (heapOf Bs' x.2).getD (.cells []))).lookup y.1).isSome = true
      rw [this]; rfl
  refine ⟨h1, .fn f [] [] :: args, _, _, { vals := ?_, deps := ?_, fresh := ?_, does := hdo', reach := hrAll, inV := ?_, inN := ?_, inW := ?_, wr := ?_, pure := fun h => absurd h hp, quiet := fun h => absurd h hq, foot := hft }, h7⟩
  · show evls st.S (Op.operands (.call c)).toList = _
    rw [hops]; simp only [evls, evl, hv]
  · intro x hx
    rcases List.mem_cons.1 hx with rfl | hx
    · exact hb
    · exact eqsH_mem hBs x hx
  · intro x hx
    obtain ⟨y, hy, rfl⟩ := List.mem_map.1 hx
    have := List.all_eq_true.1 hU y hy
    simpa using this
  · exact AV.within_mono (hnone _) av F.res
  · intro x hx
    obtain ⟨y, hy, rfl⟩ := List.mem_map.1 hx
    rcases pure1 y.2 with h | ⟨k, h, hk⟩
    · rw [h]; rfl
    · show ((heapOf Bs' y.2).getD _).within _ = true
      rw [h]; exact Blk.within_mono (hnone _) _ hk
  · intro x hx k hk
    rcases List.mem_cons.1 hx with rfl | hx
    · obtain rfl := Option.some.inj hk
      refine AV.withinL_ren (fun b hb => ?_) cs' F.c1
      have := hknown b hb
      simpa using this
    · obtain ⟨y, hy, rfl⟩ := List.mem_map.1 hx
      rcases pure1 y.1 with h | ⟨k', h, hk'⟩
      · have hk : heapOf Bs' y.1 = some k := hk
        rw [h] at hk; cases hk
      · have hk : heapOf Bs' y.1 = some k := hk
        rw [h] at hk
        obtain rfl := Option.some.inj hk
        exact Blk.within_mono (hnone _) _ hk'
  · intro x hx
    simp only [Bool.or_eq_true]
    right
    rcases List.mem_cons.1 hx with rfl | hx
    · exact hr0 _
    · obtain ⟨y, hy, rfl⟩ := List.mem_map.1 hx
      exact hrB y hy _ (List.mem_cons_self ..)
end steps
end Go.Am
/- An abstract machine over the kit's calls, part 43: maps at loops' heads; keys told; a row of one's own cut at its end. No conditions. -/
namespace Go.Am
section heads
variable {κ β : Type} {KE : KEnc κ} {VE : VEnc β} {f : Nat → Option Blk} {τ : Nat → Nat} {U Ks : List Nat} {H : List (Nat × Blk)}
theorem okH_map {c : Nat} {D : List (κ × β)} (h1 : f (τ c) = some (mapE KE VE.enc D)) (h2 : Ks.contains c = true) (h3 : U.contains c = true) (h : okH f τ U Ks H) : okH f τ U Ks ((c, mapE KE VE.enc D) :: H) :=
  okH_cons (by rw [h1, mapE_ren]) h2 h3 (mapE_within _ _) h
end heads
theorem allB_nil {α : Type} {P : α → Prop} : ∀ x ∈ ([] : List α), P x := fun _ h => by cases h
theorem allB_cons {α : Type} {P : α → Prop} {x : α} {l : List α} (h : P x) (hl : ∀ y ∈ l, P y) : ∀ y ∈ x :: l, P y := fun y hy => by
  rcases List.mem_cons.1 hy with e | hy
  · rw [e]; exact h
  · exact hl y hy
section steps
variable {E : Env} {T : Tab} {cq : Oper → Cls} {n : Nat}
end steps
end Go.Am
/- An abstract machine over the kit's calls, part 49: maps told whole, iterators over them: a map ranged over in whatever order. No conditions. -/
namespace Go.Am
section worlds
variable {E : Env} {κ β : Type} {KE : KEnc κ} {ve : β → AV} {ι : Nat → Option (Nat × Nat)} {imm : Nat → Prop} {st : St} {a : Act} {w : World}
/-- A map told whole: entries in order, with their stamps. -/
def mapX {κ β : Type} (KE : KEnc κ) (ve : β → AV) (X : List ((κ × β) × Nat)) (q : Nat) : Blk := .mapx (X.map fun e => (KE.enc e.1.1, ve e.1.2, e.2)) q
theorem dropB_mapX (X : List ((κ × β) × Nat)) : dropB (X.map fun e => (KE.enc e.1.1, ve e.1.2, e.2)) = (X.map (·.1)).map fun e => (KE.enc e.1, ve e.2) := by
  simp [dropB]
theorem Delta.H_wr {v : AV} {b : Nat} {k : Option Blk} {H : Nat → Option Blk} : (Delta.mk v [] [(b, k)]).H H = fun b' => if b' = b then k else H b' := by
  funext b'
  simp only [Delta.H, List.lookup]
  by_cases hbb : b' = b
  · subst hbb; simp
  · have : (b' == b) = false := by simpa using hbb
    simp [this, hbb]
/-- A block is told in other words. -/
theorem SR.retell' (h : SR E ι imm st a w) {b : Nat} {k k' : Blk} (hb : st.H b = some k) (hk : ∀ r z, ι b = some (r, z) → BlkH ι imm w r z k') (v : AV) : SR E ι imm ⟨st.S, (Delta.mk v [] [(b, some k')]).H st.H, (Delta.mk v [] [(b, some k')]).U st.U⟩ a w := by
  refine { h with defers := h.defers, size := h.size, slot := h.slot, heap := ⟨fun b' k1 hk1 => ?_, fun b1 b2 k1 k2 r1 z1 z2 hk1 hk2 hi1 hi2 => ?_⟩, used := fun b' x hx => ?_ }
  · rw [Delta.H_wr] at hk1
    dsimp only at hk1
    split at hk1
    · rename_i e
      subst e
      obtain rfl := Option.some.inj hk1
      obtain ⟨r, z, q1, q2, q3, _⟩ := h.heap.blk b' k hb
      exact ⟨r, z, q1, q2, q3, hk r z q1⟩
    · exact h.heap.blk b' k1 hk1
  · have old : ∀ b' k1, (Delta.mk v [] [(b, some k')]).H st.H b' = some k1 → ∃ k2, st.H b' = some k2 := fun b' k1 hk1 => by
      rw [Delta.H_wr] at hk1
      dsimp only at hk1
      split at hk1
      · rename_i e; subst e; exact ⟨_, hb⟩
      · exact ⟨_, hk1⟩
    obtain ⟨_, q1⟩ := old b1 k1 hk1
    obtain ⟨_, q2⟩ := old b2 k2 hk2
    exact h.heap.inj b1 b2 _ _ r1 z1 z2 q1 q2 hi1 hi2
  · simp only [Delta.U, List.lookup, Option.isSome_none, Bool.false_or]; exact h.used b' x hx
/-- A block that is no row is written. -/
theorem SR.writeObj (h : SR E ι imm st a w) {b : Nat} {k k' : Blk} (hb : st.H b = some k) {r z : Nat} (hi : ι b = some (r, z)) {o o' : Obj} (ho : w.heap[r]? = some o) (hc : ∀ c e f, o ≠ Obj.cells c e f)
    (hk : Grows ι ι imm imm w { w with heap := w.heap.setIfInBounds r o' } → BlkH ι imm { w with heap := w.heap.setIfInBounds r o' } r z k') (v : AV) :
    SR E ι imm ⟨st.S, (Delta.mk v [] [(b, some k')]).H st.H, (Delta.mk v [] [(b, some k')]).U st.U⟩ a { w with heap := w.heap.setIfInBounds r o' } := by
  obtain ⟨r', z', q1, h6, h7, _⟩ := h.heap.blk b k hb
  rw [hi] at q1
  simp only [Option.some.injEq, Prod.mk.injEq] at q1
  obtain ⟨rfl, rfl⟩ := q1
  obtain ⟨hs1, hs2⟩ := Go.MapKept.heap_set (o' := o') ho
  have g : Grows ι ι imm imm w { w with heap := w.heap.setIfInBounds r o' } := ⟨fun _ _ h => h, ⟨fun _ h => h, fun k hk => hs2 k (fun e => h6 (e ▸ hk))⟩, fun r' c1 e1 f1 hr' => by
    by_cases hrr : r' = r
    · subst hrr; rw [ho] at hr'; exact absurd (Option.some.inj hr') (hc _ _ _)
    · exact ⟨c1, f1, (hs2 r' hrr).trans hr', rfl⟩⟩
  have hH : ∀ b' k1, (Delta.mk v [] [(b, some k')]).H st.H b' = some k1 → (b' = b ∧ k1 = k') ∨ (b' ≠ b ∧ st.H b' = some k1) := fun b' k1 hk1 => by
    rw [Delta.H_wr] at hk1
    dsimp only at hk1
    split at hk1
    · rename_i e; exact .inl ⟨e, (Option.some.inj hk1).symm⟩
    · rename_i e; exact .inr ⟨e, hk1⟩
  have hold : ∀ b' k1, (Delta.mk v [] [(b, some k')]).H st.H b' = some k1 → ∃ k2, st.H b' = some k2 := fun b' k1 hk1 => by
    rcases hH b' k1 hk1 with ⟨rfl, _⟩ | ⟨_, h⟩
    · exact ⟨_, hb⟩
    · exact ⟨_, h⟩
  have hsz : ({ w with heap := w.heap.setIfInBounds r o' } : World).heap.size = w.heap.size := by simp
  refine h.turn g rfl rfl rfl (Nat.le_refl _) (by rw [hsz]; exact Nat.le_refl _) (fun k _ hM => hs2 k (fun e => hM (e ▸ h7))) ⟨fun b' k1 hk1 => ?_, fun b1 b2 k1 k2 r1 z1 z2 hk1 hk2 hi1 hi2 => ?_⟩ (fun b' x hx => ?_) (fun _ hk => .inl hk) (fun k hk => by rw [hsz]; exact h.immlt k hk)
  · rcases hH b' k1 hk1 with ⟨rfl, rfl⟩ | ⟨hne, hk1⟩
    · exact ⟨r, z, hi, h6, h7, hk g⟩
    · obtain ⟨r', z', q1, q2, q3, q4⟩ := h.heap.blk b' k1 hk1
      have hrr : r' ≠ r := fun e => hne (h.heap.inj b' b k1 _ r z' z hk1 hb (e ▸ q1) hi)
      exact ⟨r', z', q1, q2, q3, q4.grows g (hs2 r' hrr)⟩
  · obtain ⟨k1', q1⟩ := hold b1 k1 hk1
    obtain ⟨k2', q2⟩ := hold b2 k2 hk2
    exact h.heap.inj b1 b2 k1' k2' r1 z1 z2 q1 q2 hi1 hi2
  · simp only [Delta.U, List.lookup, Option.isSome_none, Bool.false_or]; exact h.used b' x hx
/-- One draw more. -/
theorem SR.drew (h : SR E ι imm st a w) : SR E ι imm st a w.drew := by
  have g : Grows ι ι imm imm w w.drew := ⟨fun _ _ h => h, ⟨fun _ h => h, fun _ _ => rfl⟩, fun _ c _ f h => ⟨c, f, h, rfl⟩⟩
  have := h.turn (H := st.H) (U := st.U) g rfl rfl rfl (Nat.le_succ _) (Nat.le_refl _) (fun _ _ _ => rfl) ⟨fun b k hk => by
    obtain ⟨r, z, q1, q2, q3, q4⟩ := h.heap.blk b k hk
    exact ⟨r, z, q1, q2, q3, q4.grows g rfl⟩, h.heap.inj⟩ h.used (fun _ hk => .inl hk) h.immlt
  exact this
theorem SR.iterB (h : SR E ι imm st a w) {i b since : Nat} {seen : List Nat} {c0 : Nat} (hi : st.H i = some (.iter b since seen c0)) {r z : Nat} (hr : ι i = some (r, z)) : z = 0 ∧ ∃ m, ι b = some (m, 0) ∧ w.heap[r]? = some (Obj.mapIter (some m) since (List.toArray seen) c0) := by
  obtain ⟨r', z', q1, _, _, m, q2, q3, q4⟩ := h.heap.blk i _ hi
  rw [hr] at q1
  simp only [Option.some.injEq, Prod.mk.injEq] at q1
  obtain ⟨rfl, rfl⟩ := q1
  exact ⟨q2, m, q3, q4⟩
theorem SR.mapXB (h : SR E ι imm st a w) {b : Nat} {X : List ((κ × β) × Nat)} {q : Nat} (hb : st.H b = some (mapX KE ve X q)) {m z : Nat} (hm : ι b = some (m, z)) : z = 0 ∧ ∃ c, w.heap[m]? = some (Obj.map c q) ∧ EntsH ι imm w ((X.map (·.1)).map fun e => (KE.enc e.1, ve e.2)) c.toList ∧ c.toList.map (·.born) = X.map (·.2) ∧ mOnce KE (X.map (·.1)) ∧ BornOk c.toList q := by
  obtain ⟨r', z', q1, _, _, c, q2, q3, q4, q5, q6, q7⟩ := h.heap.blk b _ hb
  rw [hm] at q1
  simp only [Option.some.injEq, Prod.mk.injEq] at q1
  obtain ⟨rfl, rfl⟩ := q1
  rw [dropB_mapX] at q4 q6
  refine ⟨q2, c, q3, q4, ?_, keysOk_map.1 q6, q7⟩
  rw [q5]; simp
theorem EntsH.length {es : List (AV × AV)} {l : List MapEntry} (h : EntsH ι imm w es l) : l.length = es.length := by
  induction es generalizing l with
  | nil => simp only [EntsH] at h; rw [h]; rfl
  | cons x xs ih => obtain ⟨e, us, rfl, _, _, h⟩ := h; simp [ih h]
/-- An entry of a map told whole. -/
theorem EntsH.at {X : List ((κ × β) × Nat)} {l : List MapEntry} (h : EntsH ι imm w ((X.map (·.1)).map fun e => (KE.enc e.1, ve e.2)) l) (hb : l.map (·.born) = X.map (·.2)) {x : MapEntry} (hx : x ∈ l) : ∃ e ∈ X, x.born = e.2 ∧ VH ι imm w (KE.enc e.1.1) x.key ∧ VH ι imm w (ve e.1.2) x.val := by
  induction X generalizing l with
  | nil => simp only [List.map_nil, EntsH] at h; subst h; cases hx
  | cons y X ih =>
    obtain ⟨e, us, rfl, h1, h2, h3⟩ := h
    simp only [List.map_cons, List.cons.injEq] at hb
    rcases List.mem_cons.1 hx with rfl | hx
    · exact ⟨y, List.mem_cons_self .., hb.1, h1, h2⟩
    · obtain ⟨e', q1, q2⟩ := ih h3 hb.2 hx
      exact ⟨e', List.mem_cons_of_mem _ q1, q2⟩
end worlds
section tell
variable {E : Env} {κ β : Type} {KE : KEnc κ} {VE : VEnc β} {st : St} {Q : Exit → St → Prop}
theorem zip_fst {α γ : Type} : ∀ {l : List α} {m : List γ}, l.length = m.length → (l.zip m).map (·.1) = l
  | [], [], _ => rfl
  | x :: l, y :: m, h => by simp only [List.zip_cons_cons, List.map_cons, List.length_cons, Nat.add_right_cancel_iff] at h ⊢; rw [zip_fst h]
  | [], _ :: _, h => by cases h
  | _ :: _, [], h => by cases h
theorem zip_snd {α γ : Type} : ∀ {l : List α} {m : List γ}, l.length = m.length → (l.zip m).map (·.2) = m
  | [], [], _ => rfl
  | x :: l, y :: m, h => by simp only [List.zip_cons_cons, List.map_cons, List.length_cons, Nat.add_right_cancel_iff] at h ⊢; rw [zip_snd h]
  | [], _ :: _, h => by cases h
  | _ :: _, [], h => by cases h
theorem St.after_none (st : St) (δ : Delta) : st.after none δ = ⟨st.S, δ.H st.H, δ.U st.U⟩ := rfl
theorem Awp.openMap {c : Code} {b : Nat} {D : List (κ × β)} (hb : st.H b = some (mapE KE VE.enc D))
    (h : ∀ (X : List ((κ × β) × Nat)) (q : Nat), D.Perm (X.map (·.1)) → mOnce KE (X.map (·.1)) → (X.map (·.2)).Nodup → (∀ e ∈ X, e.2 < q) → Awp E c (st.after none { v := .undef, wr := [(b, some (mapX KE VE.enc X q))] }) Q) : Awp E c st Q := by
  intro a w hat
  obtain ⟨ι, imm, hs⟩ := hat
  obtain ⟨r, z, hi, _⟩ := hs.heap.blk b _ hb
  obtain ⟨rfl, c1, q, D', h1, h2, h3, h4, h5, _, _⟩ := hs.map hb hi
  have hlen : D'.length = (c1.toList.map (·.born)).length := by
    have := h3.length
    rw [List.length_map] at this
    rw [List.length_map, this]
  have f1 := zip_fst hlen
  have f2 := zip_snd hlen
  refine h (D'.zip (c1.toList.map (·.born))) q (by rw [f1]; exact h2) (by rw [f1]; exact h4) (by rw [f2]; exact h5.nodup) (fun e he => ?_) a w ⟨ι, imm, ?_⟩
  · have : e.2 ∈ (D'.zip (c1.toList.map (·.born))).map (·.2) := List.mem_map.2 ⟨e, he, rfl⟩
    rw [f2] at this
    obtain ⟨x, hx, e2⟩ := List.mem_map.1 this
    rw [← e2]; exact h5.lt x hx
  · rw [St.after_none]
    obtain ⟨r', z', q1, q2, q3, _⟩ := hs.heap.blk b _ hb
    refine hs.retell' hb (fun r1 z1 hι => ?_) .undef
    rw [hi] at hι
    simp only [Option.some.injEq, Prod.mk.injEq] at hι
    obtain ⟨rfl, rfl⟩ := hι
    refine ⟨c1, rfl, h1, ?_, ?_, ?_, h5⟩
    · rw [dropB_mapX, f1]; exact h3
    · rw [show ((D'.zip (c1.toList.map (·.born))).map fun e => (KE.enc e.1.1, VE.enc e.1.2, e.2)).map (·.2.2) = (D'.zip (c1.toList.map (·.born))).map (·.2) by simp, f2]
    · rw [dropB_mapX, f1]; exact keysOk_map.2 h4
theorem Awp.closeMap {c : Code} {b : Nat} {X : List ((κ × β) × Nat)} {q : Nat} (hb : st.H b = some (mapX KE VE.enc X q)) (D : List (κ × β)) (hD : D.Perm (X.map (·.1)))
    (h : Awp E c (st.after none { v := .undef, wr := [(b, some (mapE KE VE.enc D))] }) Q) : Awp E c st Q := by
  intro a w hat
  obtain ⟨ι, imm, hs⟩ := hat
  obtain ⟨r, z, hi, _⟩ := hs.heap.blk b _ hb
  obtain ⟨rfl, c1, h1, h2, h3, h4, h5⟩ := hs.mapXB hb hi
  refine h a w ⟨ι, imm, ?_⟩
  rw [St.after_none]
  refine hs.retell' hb (fun r1 z1 hι => ?_) .undef
  rw [hi] at hι
  simp only [Option.some.injEq, Prod.mk.injEq] at hι
  obtain ⟨rfl, rfl⟩ := hι
  obtain ⟨l', p1, p2⟩ := EntsH.perm' ((hD.map (fun e => (KE.enc e.1, VE.enc e.2))).symm) h2
  exact ⟨c1, q, l', rfl, h1, p1.symm, p2, keysOk_map.2 (h4.perm hD.symm), ⟨(p1.map _).nodup_iff.1 h5.nodup, fun e he => h5.lt e (p1.mem_iff.2 he)⟩⟩
end tell
end Go.Am
/- An abstract machine over the kit's calls, part 50: maps told whole: ranged over, the next entry, the entry, looked up, deleted, entered. No conditions. -/
namespace Go.Am
section plain
variable {κ β : Type} (KE : KEnc κ)
def xDel (k : κ) : List ((κ × β) × Nat) → List ((κ × β) × Nat)
  | [] => []
  | e :: X => if KE.eq k e.1.1 then X else e :: xDel k X
def xGet (k : κ) : List ((κ × β) × Nat) → Option (β × Nat)
  | [] => none
  | e :: X => if KE.eq k e.1.1 then some (e.1.2, e.2) else xGet k X
def xPut (n : Nat) (u : β) (X : List ((κ × β) × Nat)) : List ((κ × β) × Nat) := X.map fun e => if e.2 = n then ((e.1.1, u), e.2) else e
theorem xDel_map (k : κ) : ∀ (X : List ((κ × β) × Nat)), (xDel KE k X).map (·.1) = mDel KE k (X.map (·.1))
  | [] => rfl
  | e :: X => by
    simp only [xDel, mDel, List.map_cons]
    split
    · rfl
    · rw [List.map_cons, xDel_map k X]
theorem xGet_map (k : κ) : ∀ (X : List ((κ × β) × Nat)), (xGet KE k X).map (·.1) = mGet KE k (X.map (·.1))
  | [] => rfl
  | e :: X => by
    simp only [xGet, mGet, List.map_cons]
    split
    · rfl
    · exact xGet_map k X
theorem xDel_sub (k : κ) : ∀ (X : List ((κ × β) × Nat)), (xDel KE k X).Sublist X
  | [] => .refl _
  | e :: X => by
    unfold xDel
    split
    · exact .cons _ (.refl _)
    · exact (xDel_sub k X).cons_cons _
end plain
theorem map_erase {α γ : Type} (f : α → γ) : ∀ (l : List α) (i : Nat), (l.eraseIdx i).map f = (l.map f).eraseIdx i
  | [], _ => rfl
  | _ :: _, 0 => rfl
  | x :: l, i + 1 => by simp only [List.eraseIdx_cons_succ, List.map_cons, map_erase f l i]
section worlds
variable {E : Env} {κ β : Type} {KE : KEnc κ} {ve : β → AV} {ι : Nat → Option (Nat × Nat)} {imm : Nat → Prop} {st : St} {a : Act} {w : World}
theorem EntsH.of {X : List ((κ × β) × Nat)} {l : List MapEntry} (h : EntsH ι imm w ((X.map (·.1)).map fun e => (KE.enc e.1, ve e.2)) l) (hb : l.map (·.born) = X.map (·.2)) {e : (κ × β) × Nat} (he : e ∈ X) : ∃ x ∈ l, x.born = e.2 ∧ VH ι imm w (KE.enc e.1.1) x.key ∧ VH ι imm w (ve e.1.2) x.val := by
  induction X generalizing l with
  | nil => cases he
  | cons y X ih =>
    obtain ⟨x, us, rfl, h1, h2, h3⟩ := h
    simp only [List.map_cons, List.cons.injEq] at hb
    rcases List.mem_cons.1 he with rfl | he
    · exact ⟨x, List.mem_cons_self .., hb.1, h1, h2⟩
    · obtain ⟨x', q1, q2⟩ := ih h3 hb.2 he
      exact ⟨x', List.mem_cons_of_mem _ q1, q2⟩
/-- What was found in a map told whole. -/
theorem lookL_at {k : κ} : ∀ {X : List ((κ × β) × Nat)} {l : List MapEntry} {i j : Nat} {x : Value}, l.map (·.born) = X.map (·.2) → lookL KE k (X.map (·.1)) l i = some (j, x) →
    ∃ m e y, j = i + m ∧ X[m]? = some e ∧ l[m]? = some y ∧ y.born = e.2 ∧ KE.eq k e.1.1 = true ∧ xDel KE k X = X.eraseIdx m ∧ xGet KE k X = some (e.1.2, e.2)
  | [], _, _, _, _, _, h => by simp [lookL] at h
  | x0 :: X, [], _, _, _, hb, _ => by simp at hb
  | x0 :: X, y :: l, i, j, x, hb, h => by
    simp only [List.map_cons, List.cons.injEq] at hb
    simp only [List.map_cons, lookL] at h
    split at h
    · rename_i hq
      simp only [Option.some.injEq, Prod.mk.injEq] at h
      obtain ⟨rfl, rfl⟩ := h
      exact ⟨0, x0, y, rfl, rfl, rfl, hb.1, hq, by simp only [xDel, hq, if_true]; rfl, by simp only [xGet, hq, if_true]⟩
    · rename_i hq
      obtain ⟨m, e, y', q1, q2, q3, q4, q5, q6, q7⟩ := lookL_at hb.2 h
      exact ⟨m + 1, e, y', by omega, by simpa using q2, by simpa using q3, q4, q5, by simp only [xDel, hq, q6]; rfl, by simp only [xGet, hq]; exact q7⟩
theorem lookL_not {k : κ} : ∀ {X : List ((κ × β) × Nat)} {l : List MapEntry} {i : Nat}, l.map (·.born) = X.map (·.2) → lookL KE k (X.map (·.1)) l i = none → xDel KE k X = X ∧ xGet KE k X = none ∧ ∀ e ∈ X, KE.eq k e.1.1 = false
  | [], _, _, _, _ => ⟨rfl, rfl, fun _ h => by cases h⟩
  | x0 :: X, [], _, hb, _ => by simp at hb
  | x0 :: X, y :: l, i, hb, h => by
    simp only [List.map_cons, List.cons.injEq] at hb
    simp only [List.map_cons, lookL] at h
    split at h
    · cases h
    · rename_i hq
      obtain ⟨a, b, c⟩ := lookL_not hb.2 h
      refine ⟨by simp only [xDel, hq, a]; rfl, by simp only [xGet, hq]; exact b, fun e he => ?_⟩
      rcases List.mem_cons.1 he with rfl | he
      · simpa using hq
      · exact c e he
/-- A map told whole is told by its entries. -/
theorem mapX_blk {X : List ((κ × β) × Nat)} {q r : Nat} {c : Array MapEntry} {w : World} (h1 : w.heap[r]? = some (Obj.map c q)) (h2 : EntsH ι imm w ((X.map (·.1)).map fun e => (KE.enc e.1, ve e.2)) c.toList) (h3 : c.toList.map (·.born) = X.map (·.2)) (h4 : mOnce KE (X.map (·.1))) (h5 : BornOk c.toList q) : BlkH ι imm w r 0 (mapX KE ve X q) :=
  ⟨c, rfl, h1, by rw [dropB_mapX]; exact h2, by rw [h3]; simp, by rw [dropB_mapX]; exact keysOk_map.2 h4, h5⟩
end worlds
section ops
variable {E : Env} {T : Tab} {κ β : Type} {KE : KEnc κ} {ve : β → AV}
theorem does_rangeX (hT : TabOk E.P T) {o : Oper} {t : TypeId} {x : Operand} (ho : o.op = .range t x) {d : Nat} (hdst : o.dst = some d) (hd : d < E.n) {r : TyRow} (hr : T.lookup t = some r) {kt et : TypeId} (hdesc : r.desc = .map kt et) {b : Nat} {X : List ((κ × β) × Nat)} {q : Nat} :
    Does E o [.mp b] [(b, mapX KE ve X q)] { v := .ptr d 0, new := [(d, .iter b q [] q)] } := by
  refine Does.alloc hdst hd fun ι imm st a w hs hv hh => ?_
  rw [ho] at hv
  simp only [Op.operands, List.map_cons, List.map_nil] at hv
  have hv1 := hv.one
  simp only [VH] at hv1
  obtain ⟨m, z, hi, he⟩ := hv1
  obtain ⟨rfl, c, h1, _⟩ := hs.mapXB (hh _ (List.mem_cons_self ..)) hi
  have hu : E.P.underlying t = some (.map kt et) := by rw [(hT t r hr).1, hdesc]
  refine ⟨.mapIter (some m) q #[] q, .pointer (some ⟨w.heap.size, 0, none⟩), ?_, ⟨m, hi, rfl⟩, fun ι' h => ⟨_, _, h, rfl⟩⟩
  simp only [execOp, ho, he, run_bind', Go.run_range_map w t kt et m c q hu h1, run_pure']
  rfl
theorem does_entryX {o : Oper} {x : Operand} (ho : o.op = .entry x) (hd : ∀ d, o.dst = some d → d < E.n) {i b since : Nat} {seen : List Nat} {X : List ((κ × β) × Nat)} {q : Nat} {e : (κ × β) × Nat} (he : e ∈ X) :
    Does E o [.ptr i 0] [(i, .iter b since (seen ++ [e.2]) q), (b, mapX KE ve X q)] { v := .tup [KE.enc e.1.1, ve e.1.2] } := by
  refine Does.value hd fun ι imm st a w hs hv hh => ?_
  rw [ho] at hv
  simp only [Op.operands, List.map_cons, List.map_nil] at hv
  have hv1 := hv.one
  simp only [VH] at hv1
  obtain ⟨r, z, hi, hev⟩ := hv1
  obtain ⟨rfl, m, hm, h1⟩ := hs.iterB (hh _ (List.mem_cons_self ..)) hi
  obtain ⟨_, c, h2, h3, h4, h5, h6⟩ := hs.mapXB (hh _ (List.mem_cons_of_mem _ (List.mem_cons_self ..))) hm
  obtain ⟨y, hy, e1, e2, e3⟩ := h3.of h4 he
  rw [show List.toArray (seen ++ [e.2]) = (List.toArray seen).push y.born by rw [e1]; simp] at h1
  refine ⟨.tuple #[y.key, y.val], ?_, ?_⟩
  · simp only [execOp, ho, hev, Nat.add_zero, run_bind', Go.run_entry_at w r m since (List.toArray seen) c q y h1 h2 hy h6.nodup, run_pure']
  · simp only [VH]
    exact ⟨[y.key, y.val], rfl, _, _, rfl, e2, _, _, rfl, e3, rfl⟩
theorem does_lookupX (hT : TabOk E.P T) {o : Oper} {t : TypeId} {x y : Operand} (ho : o.op = .lookup t x y false) (hd : ∀ d, o.dst = some d → d < E.n) {r re : TyRow} (hr : T.lookup t = some r) {kt et : TypeId} (hdesc : r.desc = .map kt et) (hre : T.lookup et = some re)
    (K : KeyOk E.P kt KE) {b : Nat} {X : List ((κ × β) × Nat)} {q : Nat} {k : κ} {z : β} (hz : ve z = constAV re.zero) :
    Does E o [.mp b, KE.enc k] [(b, mapX KE ve X q)] { v := ve ((mGet KE k (X.map (·.1))).getD z) } := by
  refine Does.value hd fun ι imm st a w hs hv hh => ?_
  rw [ho] at hv
  simp only [Op.operands, List.map_cons, List.map_nil] at hv
  obtain ⟨hv1, hv2⟩ := hv.two
  simp only [VH] at hv1
  obtain ⟨rr, zz, hi, he⟩ := hv1
  obtain ⟨rfl, c, h1, h3, _⟩ := hs.mapXB (hh _ (List.mem_cons_self ..)) hi
  have hu : (underlying t).run E.P w = .ok (.map kt et) w := by rw [run_underlying hT hr, hdesc]
  have hf := run_find (ve := ve) K hv2 (X.map (·.1)) c.toList h3
  have hck := K.check c.isEmpty k _ hv2
  cases hl : lookL KE k (X.map (·.1)) c.toList 0 with
  | none =>
    rw [hl] at hf
    obtain ⟨q1, _, _⟩ := lookL_none h3 hl
    rw [q1]
    have hval := constAV_holds ι imm w re.zero
    rw [← hz] at hval
    refine ⟨re.zero, ?_, hval⟩
    simp only [execOp, ho, he, Instr.lookup, run_bind', hu, Go.MapKept.run_getObj_map h1, run_pure', hck, hf, run_zeroValue hT hre, Bool.false_eq_true, if_false]
  | some p =>
    obtain ⟨j, x⟩ := p
    rw [hl] at hf
    obtain ⟨m, e, y0, _, _, _, q4, q5, _, _⟩ := lookL_some h3 hl
    rw [q4]
    refine ⟨x, ?_, q5⟩
    simp only [execOp, ho, he, Instr.lookup, run_bind', hu, Go.MapKept.run_getObj_map h1, run_pure', hck, hf, Bool.false_eq_true, if_false]
theorem does_deleteX (hT : TabOk E.P T) {o : Oper} {c : Call} {t t2 : TypeId} (ho : o.op = .call c) (hc : c.callee = .builtin .delete) (hty : c.argTypes = #[t, t2]) (hd : ∀ d, o.dst = some d → d < E.n) {r : TyRow} (hr : T.lookup t = some r) {kt et : TypeId} (hdesc : r.desc = .map kt et)
    (K : KeyOk E.P kt KE) {b : Nat} {X : List ((κ × β) × Nat)} {q : Nat} {k : κ} : Does E o [.mp b, KE.enc k] [(b, mapX KE ve X q)] { v := .tup [], wr := [(b, some (mapX KE ve (xDel KE k X) q))] } := by
  intro ι imm st a w Q hs hv hh _
  have hv := hs.evls hv
  have hops : o.op.operands.toList = c.args.toList := by rw [ho]; simp [Op.operands, Call.operands, hc]
  rw [hops] at hv
  obtain ⟨v1, us, hea, hv1, v2, us2, he2, hv2, hv3⟩ := hv
  subst he2
  simp only [VHs] at hv3
  subst hv3
  have hargs : c.args.map a.eval = #[v1, v2] := by apply Array.ext'; simpa using hea
  simp only [VH] at hv1
  obtain ⟨rr, zz, hi, he⟩ := hv1
  have hb := hh _ (List.mem_cons_self ..)
  obtain ⟨rfl, m, h1, h3, h4, h5, h6⟩ := hs.mapXB hb hi
  have hu : (underlying t).run E.P w = .ok (.map kt et) w := by rw [run_underlying hT hr, hdesc]
  have hf := run_find (ve := ve) K hv2 (X.map (·.1)) m.toList h3
  have hck := K.check m.isEmpty k _ hv2
  have hfin : ∀ c' : Array MapEntry, EntsH ι imm w (((xDel KE k X).map (·.1)).map fun e => (KE.enc e.1, ve e.2)) c'.toList → c'.toList.map (·.born) = (xDel KE k X).map (·.2) → BornOk c'.toList q → (execOp a.eval o).run E.P w = .ok (.value (.tuple #[])) { w with heap := w.heap.setIfInBounds rr (.map c' q) } →
      o.wp E.P a w (fun a' w' => ∃ ι' imm', SR E ι' imm' (st.after o.dst { v := .tup [], wr := [(b, some (mapX KE ve (xDel KE k X) q))] }) a' w') Q := fun c' e1 e2 e3 hrun => by
    unfold Oper.wp
    rw [hrun, Oper.upon_value]
    have := hs.writeObj hb hi h1 (fun _ _ _ e => by cases e) (o' := .map c' q) (k' := mapX KE ve (xDel KE k X) q) (fun g => mapX_blk (Go.MapKept.heap_set h1).1 (e1.grows g) e2 (by rw [xDel_map]; exact mDel_once h5) e3) (.tup [])
    exact ⟨ι, imm, this.put o.dst hd (by simp only [VH]; exact ⟨[], rfl, rfl⟩)⟩
  cases hl : lookL KE k (X.map (·.1)) m.toList 0 with
  | none =>
    rw [hl] at hf
    obtain ⟨q1, _, _⟩ := lookL_not h4 hl
    refine hfin m (by rw [q1]; exact h3) (by rw [q1]; exact h4) h6 ?_
    simp [execOp, ho, resolve, hc, invoke, builtin, hargs, Builtin.delete_, hty, he, hu, Go.MapKept.run_getObj_map h1, hck, hf, Go.MapKept.run_setObj_map _ h1]
  | some p =>
    obtain ⟨j, x⟩ := p
    rw [hl] at hf
    obtain ⟨m', e, y0, hj, q2, q3, _, _, q6, _⟩ := lookL_at h4 hl
    obtain ⟨m2, e', y1, hj2, _, _, _, q5, _, q7⟩ := lookL_some h3 hl
    have hjm : j = m' := by omega
    subst hjm
    have hj2' : m2 = j := by omega
    subst hj2'
    have hjl : m2 < m.size := by
      have := (List.getElem?_eq_some_iff.1 q3).1
      simpa using this
    have hto : (m.eraseIdxIfInBounds m2).toList = m.toList.eraseIdx m2 := by
      unfold Array.eraseIdxIfInBounds
      rw [dif_pos hjl, Array.toList_eraseIdx]
    refine hfin (m.eraseIdxIfInBounds m2) ?_ ?_ ?_ ?_
    · rw [hto, xDel_map]; exact (q7 x y1 q5).2
    · rw [hto, q6, map_erase, map_erase, h4]
    · rw [hto]; exact h6.sub (List.eraseIdx_sublist _ _)
    · simp [execOp, ho, resolve, hc, invoke, builtin, hargs, Builtin.delete_, hty, he, hu, Go.MapKept.run_getObj_map h1, hck, hf, Go.MapKept.run_setObj_map _ h1]
end ops
end Go.Am
/- An abstract machine over the kit's calls, part 51: the next entry of a map, whichever it is; entries made and stored; these as rules of a region. No conditions. -/
namespace Go.Am
section next
variable {E : Env} {T : Tab} {n : Nat} {κ β : Type} {KE : KEnc κ} {ve : β → AV} {st : St} {Q : Exit → St → Prop}
/-- A region that begins with the step to the next entry: nothing is left, or some entry that is left comes out. -/
theorem Awp.next (C : Cx E T n) (cq : Oper → Cls) {id d t : Nat} {ty : TypeId} {pos : String} {af : Array Edge} {rest : List Oper} {i b since : Nat} {seen : List Nat} {c0 : Nat} {X : List ((κ × β) × Nat)} {q : Nat} (hd : decide (d < n) = true)
    (ht : st.S t = some (.ptr i 0)) (hi : st.H i = some (.iter b since seen c0)) (hb : st.H b = some (mapX KE ve X q)) (hold : ∀ e ∈ X, e.2 < since) (hsc : since ≤ c0)
    (h0 : (∀ e ∈ X, e.2 ∈ seen) → rvc E cq n (⟨some d, .next (.tmp t) false, ty, pos, af, none⟩ :: rest).toArray rest (st.after (some d) { v := .tup [.pv (.lit (.bool false))] }) fun st' => Q .normal st')
    (h1 : ∀ e ∈ X, e.2 ∉ seen → rvc E cq n (⟨some d, .next (.tmp t) false, ty, pos, af, none⟩ :: rest).toArray rest (st.after (some d) { v := .tup [.pv (.lit (.bool true)), KE.enc e.1.1, ve e.1.2], wr := [(i, some (.iter b since (seen ++ [e.2]) q))] }) fun st' => Q .normal st') :
    Awp E (.region id (⟨some d, .next (.tmp t) false, ty, pos, af, none⟩ :: rest).toArray false) st Q := by
  intro a w hat
  obtain ⟨ι, imm, hs⟩ := hat
  have hdn : d < E.n := C.n ▸ of_decide_eq_true hd
  have hv := hs.slot t _ ht
  simp only [VH] at hv
  obtain ⟨r, z, hr, hev⟩ := hv
  obtain ⟨rfl, m, hm, g1⟩ := hs.iterB hi hr
  obtain ⟨_, c, g2, g3, g4, g5, g6⟩ := hs.mapXB hb hm
  have hold' : ∀ x ∈ c.toList, x.born < since := fun x hx => by
    obtain ⟨e, he, q1, _⟩ := g3.at g4 hx
    rw [q1]; exact hold e he
  have rest' : ∀ (st' : St) (a' : Act) (w' : World), At E st' a' w' → (rvc E cq n (⟨some d, .next (.tmp t) false, ty, pos, af, none⟩ :: rest).toArray rest st' fun st' => Q .normal st') →
      wpOps E.P (⟨some d, .next (.tmp t) false, ty, pos, af, none⟩ :: rest).toArray (fun e a' w' => ∃ st', Q e st' ∧ At E st' a' w') (List.range' 1 rest.length) a' w' := fun st' a' w' hat' hrv => by
    obtain ⟨sn, h1, h2⟩ := run_of_rvc C.n rest 1 st' _ (fun j => by rw [Nat.add_comm 1 j]; simp) hrv
    exact run_wpOps h1 hat' fun a w h3 => ⟨sn, h2, h3⟩
  refine wp_region ?_
  rw [show (List.range (⟨some d, .next (.tmp t) false, ty, pos, af, none⟩ :: rest : List Oper).toArray.size) = 0 :: List.range' 1 rest.length by rw [List.range_eq_range']; simp [List.range'_succ]]
  rw [wpOps_cons]
  unfold wpOp
  rw [show ((⟨some d, .next (.tmp t) false, ty, pos, af, none⟩ :: rest : List Oper).toArray)[0]? = some ⟨some d, .next (.tmp t) false, ty, pos, af, none⟩ by simp]
  dsimp only
  rw [if_pos (by simp [Region.wanted])]
  left
  unfold Oper.wp
  have hx : (execOp a.eval ⟨some d, .next (.tmp t) false, ty, pos, af, none⟩) = (do let x ← Instr.next (a.eval (.tmp t)) false ty; pure (.value x)) := rfl
  have hev' : a.eval (.tmp t) = .pointer (some ⟨r, 0, none⟩) := hev
  rw [hx, hev']
  rcases Go.run_next_at (P := E.P) w ty r m since c0 (List.toArray seen) c q g1 g2 hold' hsc with ⟨k0, hrun⟩ | ⟨e, he, w1, hal, hrun⟩
  · rw [run_bind', hrun]
    show Oper.upon _ _ _ _ _ (.ok (.value _) w)
    rw [Oper.upon_value]
    refine rest' _ _ _ ⟨ι, imm, ?_⟩ (h0 fun e he => ?_)
    · rw [St.after_skip']
      exact hs.put (some d) (fun x hx => by cases hx; exact hdn) (by simp only [VH]; exact ⟨[.bool false], rfl, _, _, rfl, ⟨rfl, rfl⟩, rfl⟩)
    · obtain ⟨y, hy, q1, _⟩ := g3.of g4 he
      have hall : (c.filter fun e => !(List.toArray seen).contains e.born) = #[] := Array.eq_empty_of_size_eq_zero k0
      rw [Array.filter_eq_empty_iff] at hall
      have := hall y (by simpa using hy)
      rw [← q1]
      simpa using this
  · rw [run_bind', hrun]
    show Oper.upon _ _ _ _ _ (.ok (.value _) _)
    rw [Oper.upon_value]
    have hmem : e ∈ c.toList ∧ e.born ∉ seen := by
      unfold Go.leftOf at he
      simp at he
      exact ⟨by simpa using he.1, he.2⟩
    obtain ⟨x, hxX, q1, q2, q3⟩ := g3.at g4 hmem.1
    have hs1 : SR E ι imm st a w1 := by
      rcases hal with rfl | rfl
      · exact hs
      · exact hs.drew
    have g1' : w1.heap[r]? = some (Obj.mapIter (some m) since (List.toArray seen) c0) := by rcases hal with rfl | rfl <;> exact g1
    have hgr : Grows ι ι imm imm w w1 := by
      rcases hal with rfl | rfl
      · exact .refl _ _ _
      · exact ⟨fun _ _ h => h, ⟨fun _ h => h, fun _ _ => rfl⟩, fun _ c _ f h => ⟨c, f, h, rfl⟩⟩
    have hw := hs1.writeObj hi hr g1' (fun _ _ _ e => by cases e) (o' := .mapIter (some m) since ((List.toArray seen).push e.born) q) (k' := .iter b since (seen ++ [x.2]) q)
      (fun g => ⟨m, rfl, hm, by rw [(Go.MapKept.heap_set g1').1, q1]; simp⟩) (.tup [])
    refine rest' _ _ _ ⟨ι, imm, hw.put (some d) (fun x hx => by cases hx; exact hdn) (v := .tup [.pv (.lit (.bool true)), KE.enc x.1.1, ve x.1.2]) ?_⟩ (h1 x hxX (by rw [← q1]; exact hmem.2))
    have hg2 : Grows ι ι imm imm w1 { w1 with heap := w1.heap.setIfInBounds r (.mapIter (some m) since ((List.toArray seen).push e.born) q) } := by
      obtain ⟨r', z', p1, p2, p3, _⟩ := hs1.heap.blk i _ hi
      rw [hr] at p1
      simp only [Option.some.injEq, Prod.mk.injEq] at p1
      obtain ⟨rfl, rfl⟩ := p1
      have hs2 := (Go.MapKept.heap_set (o' := Obj.mapIter (some m) since ((List.toArray seen).push e.born) q) g1').2
      exact ⟨fun _ _ h => h, ⟨fun _ h => h, fun k hk => hs2 k (fun e => p2 (e ▸ hk))⟩, fun r' c1 e1 f1 hr' => by
        by_cases hrr : r' = r
        · subst hrr; rw [g1'] at hr'; cases hr'
        · exact ⟨c1, f1, (hs2 r' hrr).trans hr', rfl⟩⟩
    simp only [VH]
    exact ⟨[.bool true, e.key, e.val], rfl, _, _, rfl, ⟨rfl, rfl⟩, _, _, rfl, VH.grows (hgr.trans hg2) _ _ q2, _, _, rfl, VH.grows (hgr.trans hg2) _ _ q3, rfl⟩
end next
end Go.Am
/- An abstract machine over the kit's calls, part 52: entries made and stored; the operations on maps told whole as rules of a region. No conditions. -/
namespace Go.Am
section plain
variable {κ β : Type} (KE : KEnc κ)
variable {KE}
end plain
section ops
variable {E : Env} {T : Tab} {κ β : Type} {KE : KEnc κ} {ve : β → AV}
theorem mOnce_iff {X : List ((κ × β) × Nat)} : mOnce KE (X.map (·.1)) ↔ (X.map fun e => KE.enc e.1.1).Nodup := by
  unfold mOnce; rw [List.map_map]; rfl
end ops
end Go.Am
/- An abstract machine over the kit's calls, part 53: maps told whole: the operations as rules of a region. No conditions. -/
namespace Go.Am
section steps
variable {E : Env} {T : Tab} {cq : Oper → Cls} {n : Nat} {ops : Array Oper} {κ β : Type} {KE : KEnc κ} {VE : VEnc β} {P : Program}
theorem mapX_within (X : List ((κ × β) × Nat)) (q : Nat) (U : Nat → Bool) : (mapX KE VE.enc X q).within U = true := by
  simp only [mapX, Blk.within, dropB_mapX, List.all_map, List.all_eq_true, Function.comp_apply, Bool.and_eq_true]
  exact fun e _ => ⟨rigid_within U _ (KE.rig _), VE.pure _ _⟩
theorem refs_ptr (i o : Nat) (vs : List AV) (hs : List (Nat × Blk)) : refs (.ptr i o :: vs) hs i = true := by
  simp [refs, AV.withinL, AV.within]
theorem refs_iter (vs : List AV) (i b s : Nat) (l : List Nat) (c : Nat) (hs : List (Nat × Blk)) : refs vs ((i, .iter b s l c) :: hs) b = true := by
  simp [refs, Blk.within]
theorem rexec_rangeX (C : Cx E T n) {d : Nat} {t ty : TypeId} {x : Operand} {pos : String} {af : Array Edge} {g : Option (Nat × Bool)} {st : St} {K : St → Prop} (h1 : dstB n ⟨some d, .range t x, ty, pos, af, g⟩ = true) (hU : st.U d = false) {b : Nat} {X : List ((κ × β) × Nat)} {q : Nat}
    (hx : evl st.S x = some (.mp b)) (hb : st.H b = some (mapX KE VE.enc X q)) {r : TyRow} (hr : T.lookup t = some r) {kt et : TypeId} (hdesc : r.desc = .map kt et) (h7 : K (st.after (some d) { v := .ptr d 0, new := [(d, .iter b q [] q)] }))
    (hp : clsOf cq ⟨some d, .range t x, ty, pos, af, g⟩ ≠ .pure := by decide) (hft : footB (clsOf cq ⟨some d, .range t x, ty, pos, af, g⟩) [(b, mapX KE VE.enc X q)] { v := .ptr d 0, new := [(d, .iter b q [] q)] } = true := by rfl) : rexec E cq n ⟨some d, .range t x, ty, pos, af, g⟩ st K := by
  refine ⟨h1, [.mp b], [(b, mapX KE VE.enc X q)], _, { vals := ?_, deps := ?_, fresh := ?_, does := does_rangeX C.tab rfl rfl (dst_lt C h1 d rfl) hr hdesc, reach := ?_, inV := ?_, inN := ?_, inW := fun _ h => (by cases h), wr := fun _ h => (by cases h), pure := fun h => absurd h hp, quiet := fun _ => rfl, foot := hft }, h7⟩
  · show evls st.S [x] = _
    simp only [evls, hx]
  · intro y hy; simp only [List.mem_singleton] at hy; subst hy; exact hb
  · intro y hy; simp only [List.mem_singleton] at hy; subst hy; exact hU
  · simp only [reachB, refs_mp, Bool.and_self]
  · simp [AV.within]
  · intro y hy; simp only [List.mem_singleton] at hy; subst hy
    simp only [Blk.within, refs_mp, Bool.or_true]
theorem rexec_entryX (C : Cx E T n) {d : Option Nat} {ty : TypeId} {x : Operand} {pos : String} {af : Array Edge} {g : Option (Nat × Bool)} {st : St} {K : St → Prop} (h1 : dstB n ⟨d, .entry x, ty, pos, af, g⟩ = true) {i b since : Nat} {seen : List Nat} {X : List ((κ × β) × Nat)} {q : Nat} (e : (κ × β) × Nat) (he : e ∈ X)
    (hx : evl st.S x = some (.ptr i 0)) (hi : st.H i = some (.iter b since (seen ++ [e.2]) q)) (hb : st.H b = some (mapX KE VE.enc X q)) (h7 : K (st.after d { v := .tup [KE.enc e.1.1, VE.enc e.1.2] }))
    (hp : clsOf cq ⟨d, .entry x, ty, pos, af, g⟩ ≠ .pure := by decide) (hft : footB (clsOf cq ⟨d, .entry x, ty, pos, af, g⟩) [(i, .iter b since (seen ++ [e.2]) q), (b, mapX KE VE.enc X q)] { v := .tup [KE.enc e.1.1, VE.enc e.1.2] } = true := by rfl) : rexec E cq n ⟨d, .entry x, ty, pos, af, g⟩ st K := by
  refine ⟨h1, [.ptr i 0], [(i, .iter b since (seen ++ [e.2]) q), (b, mapX KE VE.enc X q)], _, { vals := ?_, deps := ?_, fresh := fun _ h => (by cases h), does := does_entryX rfl (dst_lt C h1) he, reach := ?_, inV := ?_, inN := fun _ h => (by cases h), inW := fun _ h => (by cases h), wr := fun _ h => (by cases h), pure := fun h => absurd h hp, quiet := fun _ => rfl, foot := hft }, h7⟩
  · show evls st.S [x] = _
    simp only [evls, hx]
  · intro y hy
    rcases List.mem_cons.1 hy with rfl | hy
    · exact hi
    · simp only [List.mem_singleton] at hy; subst hy; exact hb
  · simp only [reachB, refs_ptr, refs_iter, Bool.and_self]
  · simp only [AV.within, AV.withinL, rigid_within _ _ (KE.rig _), VE.pure, Bool.and_self]
theorem rexec_deleteX (hP : E.P = P) (C : Cx E T n) {d : Option Nat} {c : Call} {t t2 ty : TypeId} {pos : String} {af : Array Edge} {g : Option (Nat × Bool)} {st : St} {K : St → Prop} (h1 : dstB n ⟨d, .call c, ty, pos, af, g⟩ = true) (hc : c.callee = .builtin .delete) (hty : c.argTypes = #[t, t2]) {b : Nat} {X : List ((κ × β) × Nat)} {q : Nat} (k : κ)
    (hx : evls st.S c.args.toList = some [.mp b, KE.enc k]) (hb : st.H b = some (mapX KE VE.enc X q)) {r : TyRow} (hr : T.lookup t = some r) {kt et : TypeId} (hdesc : r.desc = .map kt et) (KO : KeyOk P kt KE)
    (h7 : K (st.after d { v := .tup [], wr := [(b, some (mapX KE VE.enc (xDel KE k X) q))] }))
    (hp : clsOf cq ⟨d, .call c, ty, pos, af, g⟩ ≠ .pure := by decide) (hq : clsOf cq ⟨d, .call c, ty, pos, af, g⟩ ≠ .quiet := by decide) (hft : footB (clsOf cq ⟨d, .call c, ty, pos, af, g⟩) [(b, mapX KE VE.enc X q)] { v := .tup [], wr := [(b, some (mapX KE VE.enc (xDel KE k X) q))] } = true := by rfl) : rexec E cq n ⟨d, .call c, ty, pos, af, g⟩ st K := by
  subst hP
  refine ⟨h1, [.mp b, KE.enc k], [(b, mapX KE VE.enc X q)], _, { vals := ?_, deps := ?_, fresh := fun _ h => (by cases h), does := does_deleteX C.tab rfl hc hty (dst_lt C h1) hr hdesc KO, reach := ?_, inV := rfl, inN := fun _ h => (by cases h), inW := ?_, wr := ?_, pure := fun h => absurd h hp, quiet := fun h => absurd h hq, foot := hft }, h7⟩
  · show evls st.S (Op.operands (.call c)).toList = _
    have : (Op.operands (.call c)).toList = c.args.toList := by simp [Op.operands, Call.operands, hc]
    rw [this]; exact hx
  · intro q hq; simp only [List.mem_singleton] at hq; subst hq; exact hb
  · simp only [reachB, refs_mp, Bool.and_self]
  · intro q hq k' hk'
    simp only [List.mem_singleton] at hq
    subst hq
    obtain rfl := Option.some.inj hk'
    exact mapX_within _ _ _
  · intro q hq
    simp only [List.mem_singleton] at hq
    subst hq
    simp [refs_mp]
end steps
end Go.Am
/- An abstract machine over the kit's calls, part 54: a row of one's own put into a map: it will not change any more. No conditions. -/
namespace Go.Am
section worlds
variable {E : Env} {ι : Nat → Option (Nat × Nat)} {imm : Nat → Prop} {st : St} {a : Act} {w : World}
/-- A row of one's own is one that will not change. -/
theorem SR.freezeB (h : SR E ι imm st a w) {d : Nat} {ps : List PV} (hb : st.H d = some (.cells (ps.map .pv))) : ∃ imm', Grows ι ι imm imm' w w ∧ SR E ι imm' ⟨st.S, fun x => if x = d then none else st.H x, st.U⟩ a w ∧
    ∀ m s tt v, VH ι imm w (.sl d 0 m s tt) v → VH ι imm' w (.pv (.sl (some false) m ps)) v := by
  obtain ⟨r, z, q1, q2, q3, c, e, f, q4, q5, q6, q7⟩ := h.heap.blk d _ hb
  have hlt : r < w.heap.size := by
    rcases Nat.lt_or_ge r w.heap.size with h' | h'
    · exact h'
    · rw [Array.getElem?_eq_none h'] at q4; cases q4
  let imm' : Nat → Prop := fun k => imm k ∨ k = r
  have g : Grows ι ι imm imm' w w := ⟨fun _ _ h => h, ⟨fun _ hk => .inl hk, fun _ _ => rfl⟩, fun r c e f hr => ⟨c, f, hr, rfl⟩⟩
  have hH : ∀ x k, (if x = d then none else st.H x) = some k → x ≠ d ∧ st.H x = some k := fun x k hx => by
    split at hx
    · cases hx
    · rename_i hne; exact ⟨hne, hx⟩
  refine ⟨imm', g, ⟨h.defers, h.size, fun t v hv => VH.grows g v _ (h.slot t v hv), ⟨fun x k hx => ?_, fun x x' k k' r z z' hx hx' => h.heap.inj x x' k k' r z z' (hH x k hx).2 (hH x' k' hx').2⟩, h.used, h.grow.trans g, h.ext, fun k hk => ?_, fun k hk => ?_⟩, fun m s tt v hv => ?_⟩
  · obtain ⟨hne, hx⟩ := hH x k hx
    obtain ⟨r', z', p1, p2, p3, p4⟩ := h.heap.blk x k hx
    refine ⟨r', z', p1, fun hi => hi.elim p2 fun e => ?_, p3, p4.grows g rfl⟩
    subst e
    exact hne (h.heap.inj x d k _ r' z' z hx hb p1 q1)
  · rcases hk with hk | rfl
    · exact h.immM k hk
    · exact .inr q3
  · rcases hk with hk | rfl
    · exact h.immlt k hk
    · exact hlt
  · simp only [VH] at hv
    obtain ⟨r', z', cap, i1, i2, i3, _⟩ := hv
    rw [q1] at i1
    simp only [Option.some.injEq, Prod.mk.injEq] at i1
    obtain ⟨rfl, rfl⟩ := i1
    rw [i2]
    simp only [VH, PH]
    refine ⟨_, cap, rfl, i3, fun h => (by simp at h), fun _ h => (by simp at h), fun h => (by simp at h), fun A hA _ => ?_⟩
    simp only [Option.some.injEq] at hA
    subst hA
    exact ⟨rfl, .inr rfl, PHs.of_cells (i := imm) (ι := ι) (w := w) ⟨fun _ hk => .inl hk, fun _ _ => rfl⟩ (fun o => cell_of_heap q4 o) q7⟩
end worlds
section ops
variable {E : Env} {T : Tab} {κ β : Type} {KE : KEnc κ} {ve : β → AV}
theorem does_mapUpdateO (hT : TabOk E.P T) {o : Oper} {t : TypeId} {x y z : Operand} (ho : o.op = .mapUpdate t x y z) (hdst : o.dst = none) {r : TyRow} (hr : T.lookup t = some r) {kt et : TypeId} (hdesc : r.desc = .map kt et)
    (K : KeyOk E.P kt KE) {b d : Nat} (hne : b ≠ d) {D : List (κ × β)} {k : κ} {u : β} {m s : Nat} {tt : Bool} {ps : List PV} (hu : ve u = .pv (.sl (some false) m ps)) :
    Does E o [.mp b, KE.enc k, .sl d 0 m s tt] [(b, mapE KE ve D), (d, .cells (ps.map .pv))] { v := .undef, wr := [(b, some (mapE KE ve (mSet KE k u D))), (d, none)] } := by
  intro ι imm0 st a w Q hs0 hv hh _
  have hv := hs0.evls hv
  rw [ho] at hv
  simp only [Op.operands, List.map_cons, List.map_nil] at hv
  obtain ⟨hv1, hv2, hv3⟩ := hv.three
  have hbd := hh _ (List.mem_cons_of_mem _ (List.mem_cons_self ..))
  have hb0 := hh _ (List.mem_cons_self ..)
  obtain ⟨imm, g, hs, hf3⟩ := hs0.freezeB hbd
  have hv3 := hf3 _ _ _ _ hv3
  rw [← hu] at hv3
  have hv2 := VH.grows g _ _ hv2
  simp only [VH] at hv1
  obtain ⟨rr, zz, hi, he⟩ := hv1
  have hb : (⟨st.S, fun x => if x = d then none else st.H x, st.U⟩ : St).H b = some (mapE KE ve D) := by
    show (if b = d then none else st.H b) = _
    rw [if_neg hne]; exact hb0
  obtain ⟨rfl, c, q, D', h1, h2, h3, h4, h5, _, _⟩ := hs.map hb hi
  have hun : (underlying t).run E.P w = .ok (.map kt et) w := by rw [run_underlying hT hr, hdesc]
  have hf := run_find (ve := ve) K hv2 D' c.toList h3
  have hck := K.check false k _ hv2
  have hfin : ∀ c' q', EntsH ι imm w ((mSet KE k u D').map fun e => (KE.enc e.1, ve e.2)) c'.toList → BornOk c'.toList q' → (execOp a.eval o).run E.P w = .ok .skip { w with heap := w.heap.setIfInBounds rr (.map c' q') } →
      o.wp E.P a w (fun a' w' => ∃ ι' imm', SR E ι' imm' (st.after o.dst { v := .undef, wr := [(b, some (mapE KE ve (mSet KE k u D))), (d, none)] }) a' w') Q := fun c' q' e1 e2 hrun => by
    unfold Oper.wp
    rw [hrun, Oper.upon_skip]
    have := hs.writeMap hb hi (mSet_perm (k := k) (x := u) h2 (h4.perm h2.symm)) e1 (mSet_once (h4.perm h2.symm)) e2 .undef
    have e : (Delta.mk .undef [] [(b, some (mapE KE ve (mSet KE k u D))), (d, none)]).H st.H = (Delta.mk .undef [] [(b, some (mapE KE ve (mSet KE k u D)))]).H (fun x => if x = d then none else st.H x) := by
      funext x
      simp only [Delta.H, List.lookup]
      by_cases h1 : x = b
      · subst h1; simp
      · have h1' : (x == b) = false := by simpa using h1
        rw [h1']
        by_cases h2 : x = d
        · subst h2; simp
        · have h2' : (x == d) = false := by simpa using h2
          simp [h2', h2]
    refine ⟨ι, imm, ?_⟩
    have e2 : st.after o.dst { v := .undef, wr := [(b, some (mapE KE ve (mSet KE k u D))), (d, none)] } = ⟨st.S, (Delta.mk .undef [] [(b, some (mapE KE ve (mSet KE k u D)))]).H (fun x => if x = d then none else st.H x), (Delta.mk .undef [] [(b, some (mapE KE ve (mSet KE k u D)))]).U st.U⟩ := by
      rw [hdst]
      show (⟨st.S, _, _⟩ : St) = _
      rw [e]; rfl
    rw [e2]
    simpa [Act.put, hdst] using this
  cases hl : lookL KE k D' c.toList 0 with
  | none =>
    rw [hl] at hf
    obtain ⟨_, _, q3⟩ := lookL_none h3 hl
    refine hfin (c.push { key := a.eval y, val := a.eval z, born := q }) (q + 1) ?_ ?_ ?_
    · rw [q3, List.map_append, Array.toList_push]
      exact EntsH.append h3 hv2 hv3
    · rw [Array.toList_push]; exact h5.push rfl
    · simp only [execOp, ho, he, Instr.mapUpdate, run_bind', hun, Go.MapKept.run_getObj_map h1, run_pure', hck, hf, Go.MapKept.run_setObj_map _ h1]
  | some p =>
    obtain ⟨j, x⟩ := p
    rw [hl] at hf
    obtain ⟨m', e, y0, hj, q2, _, _, _, q6, q7⟩ := lookL_some h3 hl
    have hjm : j = m' := by omega
    subst hjm
    have hkey := rigid_eq _ (KE.rig k) _ _ q6 hv2
    have hce : c[j]? = some e := by simpa using q2
    have hst : (Instr.keyThatStays (((c[j]?).map (·.key)).getD (a.eval y)) (a.eval y)).run E.P w = .ok (a.eval y) w := by
      rw [hce]
      simp only [Option.map_some, Option.getD_some, hkey, Instr.keyThatStays, rigid_same _ (KE.rig k) _ hv2 10000 (KE.dep k), if_true, run_pure']
    refine hfin (c.modify j fun e => { e with key := a.eval y, val := a.eval z }) q ?_ ?_ ?_
    · rw [Array.toList_modify, modify_congr (g := fun e => { e with val := a.eval z }) q2 (by rw [← hkey])]
      exact (q7 _ _ hv3).1
    · rw [Array.toList_modify]; exact h5.modify fun _ => rfl
    · simp only [execOp, ho, he, Instr.mapUpdate, run_bind', hun, Go.MapKept.run_getObj_map h1, run_pure', hck, hf, hst, Go.MapKept.run_setObj_map _ h1]
end ops
section steps
variable {E : Env} {T : Tab} {cq : Oper → Cls} {n : Nat} {ops : Array Oper} {κ β : Type} {KE : KEnc κ} {VE : VEnc β} {P : Program}
theorem rexec_mapUpdateO (hP : E.P = P) (C : Cx E T n) {t ty : TypeId} {x y z : Operand} {pos : String} {af : Array Edge} {g : Option (Nat × Bool)} {st : St} {K : St → Prop} {b d : Nat} {D : List (κ × β)} (k : κ) (u : β) {α : Type} {en : Enc α} {L : List α} {nn : Nat} {tt : Bool}
    (hx : evl st.S x = some (.mp b)) (hy : evl st.S y = some (KE.enc k)) (hz : evl st.S z = some (.sl d 0 nn en.sz tt)) (hb : st.H b = some (mapE KE VE.enc D)) (hd : st.H d = some (.cells (encC en L))) (hne : (b == d) = false) (hn : nn = L.length) (hu : VE.enc u = sS (some false) en L) {r : TyRow} (hr : T.lookup t = some r) {kt et : TypeId} (hdesc : r.desc = .map kt et) (KO : KeyOk P kt KE)
    (h7 : K (st.after none { v := .undef, wr := [(b, some (mapE KE VE.enc (mSet KE k u D))), (d, none)] }))
    (hp : clsOf cq ⟨none, .mapUpdate t x y z, ty, pos, af, g⟩ ≠ .pure := by decide) (hq : clsOf cq ⟨none, .mapUpdate t x y z, ty, pos, af, g⟩ ≠ .quiet := by decide) (hft : footB (clsOf cq ⟨none, .mapUpdate t x y z, ty, pos, af, g⟩) [(b, mapE KE VE.enc D), (d, .cells (encC en L))] { v := .undef, wr := [(b, some (mapE KE VE.enc (mSet KE k u D))), (d, none)] } = true := by rfl) : rexec E cq n ⟨none, .mapUpdate t x y z, ty, pos, af, g⟩ st K := by
  subst hP
  subst hn
  refine ⟨rfl, [.mp b, KE.enc k, .sl d 0 L.length en.sz tt], [(b, mapE KE VE.enc D), (d, .cells (encC en L))], _, { vals := ?_, deps := ?_, fresh := fun _ h => (by cases h), does := does_mapUpdateO C.tab rfl rfl hr hdesc KO (by simpa using hne) hu, reach := ?_, inV := rfl, inN := fun _ h => (by cases h), inW := ?_, wr := ?_, pure := fun h => absurd h hp, quiet := fun h => absurd h hq, foot := hft }, h7⟩
  · show evls st.S [x, y, z] = _
    simp only [evls, hx, hy, hz]
  · intro q hq
    rcases List.mem_cons.1 hq with rfl | hq
    · exact hb
    · simp only [List.mem_singleton] at hq; subst hq; exact hd
  · simp only [reachB, refs_mp, Bool.true_and, Bool.and_true]
    simp [refs, AV.withinL, AV.within]
  · intro q hq k' hk'
    rcases List.mem_cons.1 hq with rfl | hq
    · obtain rfl := Option.some.inj hk'
      exact mapE_within _ _
    · simp only [List.mem_singleton] at hq
      subst hq
      cases hk'
  · intro q hq
    rcases List.mem_cons.1 hq with rfl | hq
    · simp [refs_mp]
    · simp only [List.mem_singleton] at hq
      subst hq
      simp [refs, AV.withinL, AV.within]
end steps
end Go.Am
/- Small functions of mask and links. No conditions. -/
namespace Go.Proofs.Ytpeeofofagfooaa
open Go.Am
structure Link where
  from_ : Int
  to : Int
  deriving Inhabited
def eLink : Enc Link := ⟨2, fun x => [.lit (.int .i64 x.from_), .lit (.int .i64 x.to)], fun _ => rfl⟩
def mIn (n : Int) : Bool :=
  (bif (decide (n ≥ 0)) then (decide (n < 64)) else false)
theorem mIn_calls (n : Int)  : PCalls Try.prog 55 [.pv (.lit (.int .i64 n))] (.pv (.lit (.bool (mIn n)))) := by
 generalize hR : mIn n = R
 refine PCalls.of_body tabOk Try.func55 rfl rfl rfl rfl rfl mixed fun E hP C hI => ?_
 refine Awp.consP C ?_
 refine rvP C (.pv (.lit (.bool false))) ?_
 refine rvc_nil ?_
 refine Awp.consP C ?_
 refine rvP C (.pv (.lit (.int .i64 n))) ?_
 refine rvP C (.pv (.lit (.bool (decide (n ≥ 0))))) ?_
 refine rvP C (.pv (.lit (.bool (decide (n ≥ 0))))) ?_
 refine rvc_case 5 (decide (n ≥ 0)) rfl (fun h1 => ?_) (fun h1 => ?_)
 ·
  replace hR := of_true h1 hR
  refine rvO C (.pv (.lit (.int .i64 n))) ?_
  refine rvO C (.pv (.lit (.bool (decide (n < 64))))) ?_
  refine rvP C (.pv (.lit (.bool (decide (n < 64))))) ?_
  refine rvP C (.pv (.lit (.bool (decide (n < 64))))) ?_
  refine rvc_nil ?_
  refine Awp.ret ?_
  subst hR
  exact ⟨.inl rfl, rfl⟩
 ·
  replace hR := of_false h1 hR
  refine rvS ?_
  refine rvS ?_
  refine rvP C (.pv (.lit (.bool false))) ?_
  refine rvP C (.pv (.lit (.bool false))) ?_
  refine rvc_nil ?_
  refine Awp.ret ?_
  subst hR
  exact ⟨.inl rfl, rfl⟩
def mHas (s : Int) (n : Int) : Bool :=
  (bif (mIn n) then ((bitI .and .u64 (shrI .u64 s n) 1) == 1) else false)
theorem mHas_calls (s : Int) (n : Int)  : PCalls Try.prog 49 [.pv (.lit (.int .u64 s)), .pv (.lit (.int .i64 n))] (.pv (.lit (.bool (mHas s n)))) := by
 generalize hR : mHas s n = R
 refine PCalls.of_body tabOk Try.func49 rfl rfl rfl rfl rfl mixed fun E hP C hI => ?_
 refine Awp.consP C ?_
 refine rvP C (.pv (.lit (.bool false))) ?_
 refine rvc_nil ?_
 refine Awp.consP C ?_
 refine rvP C (.pv (.lit (.int .i64 n))) ?_
 refine rvc_un (rexec_call hP C rfl rfl rfl (mIn_calls n) ?_)
 refine rvP C (.pv (.lit (.bool (mIn n)))) ?_
 refine rvc_case 7 (mIn n) rfl (fun h1 => ?_) (fun h1 => ?_)
 ·
  replace hR := of_true h1 hR
  refine rvO C (.pv (.lit (.int .u64 s))) ?_
  refine rvO C (.pv (.lit (.int .i64 n))) ?_
  refine rvc_open rfl rfl rfl (rexec_prim C (δ := { v := .pv (.lit (.int .u64 (shrI .u64 s n))) }) rfl rfl rfl rfl (by simp [mIn] at h1; omega) rfl ?_)
  refine rvO C (.pv (.lit (.int .u64 (bitI .and .u64 (shrI .u64 s n) 1)))) ?_
  refine rvO C (.pv (.lit (.bool ((bitI .and .u64 (shrI .u64 s n) 1) == 1)))) ?_
  refine rvP C (.pv (.lit (.bool ((bitI .and .u64 (shrI .u64 s n) 1) == 1)))) ?_
  refine rvP C (.pv (.lit (.bool ((bitI .and .u64 (shrI .u64 s n) 1) == 1)))) ?_
  refine rvc_nil ?_
  refine Awp.ret ?_
  subst hR
  exact ⟨.inl rfl, rfl⟩
 ·
  replace hR := of_false h1 hR
  refine rvS ?_
  refine rvS ?_
  refine rvS ?_
  refine rvS ?_
  refine rvS ?_
  refine rvP C (.pv (.lit (.bool false))) ?_
  refine rvP C (.pv (.lit (.bool false))) ?_
  refine rvc_nil ?_
  refine Awp.ret ?_
  subst hR
  exact ⟨.inl rfl, rfl⟩
def mWith (s : Int) (n : Int) : Int :=
  (bif (!(mIn n)) then s else (bitI .or .u64 s (shlI .u64 1 n)))
theorem mWith_calls (s : Int) (n : Int)  : PCalls Try.prog 50 [.pv (.lit (.int .u64 s)), .pv (.lit (.int .i64 n))] (.pv (.lit (.int .u64 (mWith s n)))) := by
 generalize hR : mWith s n = R
 refine PCalls.of_body tabOk Try.func50 rfl rfl rfl rfl rfl mixed fun E hP C hI => ?_
 refine Awp.consP C ?_
 refine rvP C (.pv (.lit (.int .u64 0))) ?_
 refine rvc_nil ?_
 refine Awp.seq ?_
 refine Awp.consP C ?_
 refine rvP C (.pv (.lit (.int .i64 n))) ?_
 refine rvc_un (rexec_call hP C rfl rfl rfl (mIn_calls n) ?_)
 refine rvP C (.pv (.lit (.bool (!(mIn n))))) ?_
 refine rvc_nil ?_
 refine Awp.cond (b := (!(mIn n))) rfl (fun h1 => ?_) (fun h1 => ?_)
 ·
  replace hR := of_true h1 hR
  refine Awp.consP C ?_
  refine rvP C (.pv (.lit (.int .u64 s))) ?_
  refine rvP C (.pv (.lit (.int .u64 s))) ?_
  refine rvc_nil ?_
  refine Awp.ret ?_
  subst hR
  exact ⟨.inl rfl, rfl⟩
 ·
  replace hR := of_false h1 hR
  refine Awp.skip ?_
  refine Awp.consP C ?_
  refine rvP C (.pv (.lit (.int .u64 s))) ?_
  refine rvP C (.pv (.lit (.int .i64 n))) ?_
  refine rvc_un (rexec_prim C (δ := { v := .pv (.lit (.int .u64 (shlI .u64 1 n))) }) rfl rfl rfl rfl (by simp [mIn] at h1; omega) rfl ?_)
  refine rvP C (.pv (.lit (.int .u64 (bitI .or .u64 s (shlI .u64 1 n))))) ?_
  refine rvP C (.pv (.lit (.int .u64 (bitI .or .u64 s (shlI .u64 1 n))))) ?_
  refine rvc_nil ?_
  refine Awp.ret ?_
  subst hR
  exact ⟨.inl rfl, rfl⟩
def fitsL (l : Link) : Bool :=
  (bif (decide (l.from_ ≥ 0)) then (bif (decide (l.from_ < 32)) then (bif (decide (l.to ≥ 0)) then (bif (decide (l.to < 32)) then (l.from_ != l.to) else false) else false) else false) else false)
theorem fitsL_calls (l : Link)  : PCalls Try.prog 46 [.agg [.pv (.lit (.int .i64 l.from_)), .pv (.lit (.int .i64 l.to))]] (.pv (.lit (.bool (fitsL l)))) := by
 generalize hR : fitsL l = R
 refine PCalls.of_body tabOk Try.func46 rfl rfl rfl rfl rfl mixed fun E hP C hI => ?_
 refine Awp.consP C ?_
 refine rvc_un (rexec_prim C (δ := { v := .ptr 1 0, new := [(1, .cells [.pv (.lit (.int .i64 l.from_)), .pv (.lit (.int .i64 l.to))])] }) rfl rfl rfl rfl trivial rfl ?_)
 refine rvP C (.pv (.lit (.bool false))) ?_
 refine rvc_nil ?_
 refine Awp.consP C ?_
 refine rvP C (.ptr 1 0) ?_
 refine rvP C (.pv (.lit (.int .i64 l.from_))) ?_
 refine rvP C (.pv (.lit (.bool (decide (l.from_ ≥ 0))))) ?_
 refine rvP C (.pv (.lit (.bool (decide (l.from_ ≥ 0))))) ?_
 refine rvc_case 6 (decide (l.from_ ≥ 0)) rfl (fun h1 => ?_) (fun h1 => ?_)
 ·
  replace hR := of_true h1 hR
  refine rvO C (.ptr 1 0) ?_
  refine rvO C (.pv (.lit (.int .i64 l.from_))) ?_
  refine rvO C (.pv (.lit (.bool (decide (l.from_ < 32))))) ?_
  refine rvP C (.pv (.lit (.bool (decide (l.from_ < 32))))) ?_
  refine rvP C (.pv (.lit (.bool (decide (l.from_ < 32))))) ?_
  refine rvc_case 11 (decide (l.from_ < 32)) rfl (fun h2 => ?_) (fun h2 => ?_)
  ·
   replace hR := of_true h2 hR
   refine rvO C (.ptr 1 1) ?_
   refine rvO C (.pv (.lit (.int .i64 l.to))) ?_
   refine rvO C (.pv (.lit (.bool (decide (l.to ≥ 0))))) ?_
   refine rvP C (.pv (.lit (.bool (decide (l.to ≥ 0))))) ?_
   refine rvP C (.pv (.lit (.bool (decide (l.to ≥ 0))))) ?_
   refine rvc_case 16 (decide (l.to ≥ 0)) rfl (fun h3 => ?_) (fun h3 => ?_)
   ·
    replace hR := of_true h3 hR
    refine rvO C (.ptr 1 1) ?_
    refine rvO C (.pv (.lit (.int .i64 l.to))) ?_
    refine rvO C (.pv (.lit (.bool (decide (l.to < 32))))) ?_
    refine rvP C (.pv (.lit (.bool (decide (l.to < 32))))) ?_
    refine rvP C (.pv (.lit (.bool (decide (l.to < 32))))) ?_
    refine rvc_case 21 (decide (l.to < 32)) rfl (fun h4 => ?_) (fun h4 => ?_)
    ·
     replace hR := of_true h4 hR
     refine rvO C (.ptr 1 0) ?_
     refine rvO C (.pv (.lit (.int .i64 l.from_))) ?_
     refine rvO C (.ptr 1 1) ?_
     refine rvO C (.pv (.lit (.int .i64 l.to))) ?_
     refine rvO C (.pv (.lit (.bool (l.from_ != l.to)))) ?_
     refine rvP C (.pv (.lit (.bool (l.from_ != l.to)))) ?_
     refine rvP C (.pv (.lit (.bool (l.from_ != l.to)))) ?_
     refine rvc_nil ?_
     refine Awp.ret ?_
     subst hR
     exact ⟨.inl rfl, rfl⟩
    ·
     replace hR := of_false h4 hR
     refine rvS ?_
     refine rvS ?_
     refine rvS ?_
     refine rvS ?_
     refine rvS ?_
     refine rvP C (.pv (.lit (.bool false))) ?_
     refine rvP C (.pv (.lit (.bool false))) ?_
     refine rvc_nil ?_
     refine Awp.ret ?_
     subst hR
     exact ⟨.inl rfl, rfl⟩
   ·
    replace hR := of_false h3 hR
    refine rvS ?_
    refine rvS ?_
    refine rvS ?_
    refine rvP C (.pv (.lit (.bool false))) ?_
    refine rvP C (.pv (.lit (.bool false))) ?_
    refine rvS ?_
    refine rvS ?_
    refine rvS ?_
    refine rvS ?_
    refine rvS ?_
    refine rvP C (.pv (.lit (.bool false))) ?_
    refine rvP C (.pv (.lit (.bool false))) ?_
    refine rvc_nil ?_
    refine Awp.ret ?_
    subst hR
    exact ⟨.inl rfl, rfl⟩
  ·
   replace hR := of_false h2 hR
   refine rvS ?_
   refine rvS ?_
   refine rvS ?_
   refine rvP C (.pv (.lit (.bool false))) ?_
   refine rvP C (.pv (.lit (.bool false))) ?_
   refine rvS ?_
   refine rvS ?_
   refine rvS ?_
   refine rvP C (.pv (.lit (.bool false))) ?_
   refine rvP C (.pv (.lit (.bool false))) ?_
   refine rvS ?_
   refine rvS ?_
   refine rvS ?_
   refine rvS ?_
   refine rvS ?_
   refine rvP C (.pv (.lit (.bool false))) ?_
   refine rvP C (.pv (.lit (.bool false))) ?_
   refine rvc_nil ?_
   refine Awp.ret ?_
   subst hR
   exact ⟨.inl rfl, rfl⟩
 ·
  replace hR := of_false h1 hR
  refine rvS ?_
  refine rvS ?_
  refine rvS ?_
  refine rvP C (.pv (.lit (.bool false))) ?_
  refine rvP C (.pv (.lit (.bool false))) ?_
  refine rvS ?_
  refine rvS ?_
  refine rvS ?_
  refine rvP C (.pv (.lit (.bool false))) ?_
  refine rvP C (.pv (.lit (.bool false))) ?_
  refine rvS ?_
  refine rvS ?_
  refine rvS ?_
  refine rvP C (.pv (.lit (.bool false))) ?_
  refine rvP C (.pv (.lit (.bool false))) ?_
  refine rvS ?_
  refine rvS ?_
  refine rvS ?_
  refine rvS ?_
  refine rvS ?_
  refine rvP C (.pv (.lit (.bool false))) ?_
  refine rvP C (.pv (.lit (.bool false))) ?_
  refine rvc_nil ?_
  refine Awp.ret ?_
  subst hR
  exact ⟨.inl rfl, rfl⟩
def maskOf_l0 : List Int → Nat → Int → Int
  | [], _, s => s
  | x :: xs, i, s => maskOf_l0 xs (i + 1) (mWith s x)
def maskOf (l : (Sl Int)) : Int :=
  maskOf_l0 l.D 0 0
theorem maskOf_calls (l : (Sl Int)) (hl1 : l.D.length ≤ 1000000) : PCalls Try.prog 31 [sS (some l.nil) (eI .i64) l.D] (.pv (.lit (.int .u64 (maskOf l)))) := by
 generalize hR : maskOf l = R
 refine PCalls.of_body tabOk Try.func31 rfl rfl rfl rfl rfl mixed fun E hP C hI => ?_
 refine Awp.consP C ?_
 refine rvP C (.pv (.lit (.int .u64 0))) ?_
 refine rvc_nil ?_
 refine Awp.consP C ?_
 refine rvP C (.pv (.lit (.int .u64 0))) ?_
 refine rvc_nil ?_
 refine Awp.seq ?_
 refine Awp.consP C ?_
 refine rvP C (sS (some l.nil) (eI .i64) l.D) ?_
 refine rvP C (.pv (.lit (.int .i64 (l.D.length : Int)))) ?_
 refine rvP C (.pv (.lit (.int .i64 0))) ?_
 refine rvc_nil ?_
 refine Awp.block ?_
 refine Awp.forR (σ := Int) (l.D.length) (fun i v => [(3, .pv (.lit (.int .u64 v))), (6, sS (some l.nil) (eI .i64) l.D), (7, .pv (.lit (.int .i64 (l.D.length : Int)))), (8, .pv (.lit (.int .i64 (i : Int))))]) (fun i v => []) [] (fun i v => maskOf_l0 (l.D.drop i) i v = R) 0 ?_ ?_ (fun i s h1 hR => ?_)
 · exact hR
 · exact ⟨fun b => b, WeakerR.ofL (Ks := []) hI ⟨⟨rfl, rfl⟩, ⟨rfl, rfl⟩, ⟨rfl, rfl⟩, ⟨rfl, rfl⟩, trivial⟩ (okH_nil) rfl⟩
 refine Awp.consP C ?_
 refine rvP C (.pv (.lit (.bool (decide ((i : Int) < (l.D.length : Int)))))) ?_
 refine rvc_nil ?_
 refine Awp.seq ?_
 refine Awp.cond (b := (decide ((i : Int) < (l.D.length : Int)))) rfl (fun h2 => ?_) (fun h2 => ?_)
 ·
  have h3 : i < l.D.length := by have := of_decide_eq_true h2; omega
  obtain ⟨x, h4⟩ := getX h3
  rw [drop_at h4] at hR
  refine Awp.skip ?_
  refine Awp.seq ?_
  refine Awp.block ?_
  refine Awp.consP C ?_
  refine rvc_un (rexec_idxS C rfl rfl rfl rfl rfl rfl x (Int.natCast_nonneg _) h4 ?_)
  refine rvP C (.pv (.lit (.int .i64 x))) ?_
  refine rvP C (.pv (.lit (.int .i64 x))) ?_
  refine rvc_nil ?_
  refine Awp.regionP C ?_
  refine rvP C (.pv (.lit (.int .u64 s))) ?_
  refine rvP C (.pv (.lit (.int .i64 x))) ?_
  refine rvc_un (rexec_call hP C rfl rfl rfl (mWith_calls s x) ?_)
  refine rvP C (.pv (.lit (.int .u64 (mWith s x)))) ?_
  refine rvc_nil ?_
  refine Awp.regionP C ?_
  refine rvP C (.pv (.lit (.int .i64 (IntKind.i64.wrap ((i : Int) + 1))))) ?_
  refine rvP C (.pv (.lit (.int .i64 (IntKind.i64.wrap ((i : Int) + 1))))) ?_
  refine rvc_nil ?_
  refine ⟨h3, (mWith s x), ?_, ?_⟩
  · exact hR
  · exact ⟨fun b => b, WeakerR.ofL (Ks := []) hI ⟨⟨rfl, rfl⟩, ⟨rfl, rfl⟩, ⟨rfl, rfl⟩, ⟨lit_cast (wrap_i64 (by omega) (by omega)), rfl⟩, trivial⟩ (okH_nil) rfl⟩
 ·
  have h3 : ¬ i < l.D.length := by have := of_decide_eq_false h2; omega
  rw [drop_end h3] at hR
  refine Awp.exit ?_
  refine Awp.consP C ?_
  refine rvP C (.pv (.lit (.int .u64 s))) ?_
  refine rvP C (.pv (.lit (.int .u64 s))) ?_
  refine rvc_nil ?_
  refine Awp.ret ?_
  subst hR
  exact ⟨.inl rfl, rfl⟩
def cloneBytes (s : (Sl Int)) : (Sl Int) :=
  (bif s.nil then (Sl.mk true []) else (Sl.mk false s.D))
theorem cloneBytes_calls (s : (Sl Int)) (hl1 : s.D.length ≤ 1000000) : PCalls Try.prog 18 [sS (some s.nil) (eI .u8) s.D] (sS (some (cloneBytes s).nil) (eI .u8) ((cloneBytes s).D)) := by
 generalize hR : cloneBytes s = R
 refine PCalls.of_body tabOk Try.func18 rfl rfl rfl rfl rfl mixed fun E hP C hI => ?_
 refine Awp.consP C ?_
 refine rvP C (sS (some true) (eI .u8) []) ?_
 refine rvc_nil ?_
 refine Awp.seq ?_
 refine Awp.consP C ?_
 refine rvP C (sS (some s.nil) (eI .u8) s.D) ?_
 refine rvc_un (rexec_eqNil C (f := s.nil) rfl rfl rfl rfl ?_)
 refine rvc_nil ?_
 refine Awp.cond (b := s.nil) rfl (fun h1 => ?_) (fun h1 => ?_)
 ·
  replace hR := of_true h1 hR
  refine Awp.consP C ?_
  refine rvP C (sS (some true) (eI .u8) []) ?_
  refine rvc_nil ?_
  refine Awp.ret ?_
  subst hR
  exact ⟨.inl rfl, rfl⟩
 ·
  replace hR := of_false h1 hR
  refine Awp.skip ?_
  refine Awp.consP C ?_
  refine rvc_un (rexec_prim C (δ := { v := .sl 5 0 0 1 true, new := [(5, .cells (encC (eI .u8) []))] }) rfl rfl rfl rfl trivial rfl ?_)
  refine rvP C (sS (some s.nil) (eI .u8) s.D) ?_
  refine rvc_un (rexec_append C rfl rfl rfl rfl rfl rfl rfl rfl (fun _ h => by cases h) rfl (en := (eI .u8)) (D0 := []) (D := s.D) rfl rfl rfl rfl (by first | omega | (simp <;> omega)) (by decide) (nn := s.D.length) (by simp) ?_)
  refine rvP C (.sl 7 0 s.D.length 1 false) ?_
  refine rvc_nil ?_
  refine Awp.freezeW 7 (encL (eI .u8) s.D) ?_ [(2, sS (some false) (eI .u8) s.D)] [] ?_ ?_ ?_
  · rfl
  · exact ⟨⟨_, rfl, .inl (.inr ⟨_, _, _, rfl, rfl⟩)⟩, trivial⟩
  · exact trivial
  refine Awp.ret ?_
  subst hR
  exact ⟨.inl rfl, rfl⟩
end Go.Proofs.Ytpeeofofagfooaa
/- Links compared. No conditions. -/
namespace Go.Proofs.Ytpeeofofagfooaa
open Go.Am
def busyCmp (a : Link) (b : Link) : Int :=
  (bif (a.from_ != b.from_) then (IntKind.i64.wrap (a.from_ - b.from_)) else (IntKind.i64.wrap (a.to - b.to)))
theorem busyCmp_calls (a : Link) (b : Link)  : PCalls Try.prog 38 [.agg [.pv (.lit (.int .i64 a.from_)), .pv (.lit (.int .i64 a.to))], .agg [.pv (.lit (.int .i64 b.from_)), .pv (.lit (.int .i64 b.to))]] (.pv (.lit (.int .i64 (busyCmp a b)))) := by
 generalize hR : busyCmp a b = R
 refine PCalls.of_body tabOk Try.func38 rfl rfl rfl rfl rfl mixed fun E hP C hI => ?_
 refine Awp.consP C ?_
 refine rvc_un (rexec_prim C (δ := { v := .ptr 2 0, new := [(2, .cells [.pv (.lit (.int .i64 a.from_)), .pv (.lit (.int .i64 a.to))])] }) rfl rfl rfl rfl trivial rfl ?_)
 refine rvc_un (rexec_prim C (δ := { v := .ptr 3 0, new := [(3, .cells [.pv (.lit (.int .i64 b.from_)), .pv (.lit (.int .i64 b.to))])] }) rfl rfl rfl rfl trivial rfl ?_)
 refine rvP C (.pv (.lit (.int .i64 0))) ?_
 refine rvc_nil ?_
 refine Awp.seq ?_
 refine Awp.consP C ?_
 refine rvP C (.ptr 2 0) ?_
 refine rvP C (.pv (.lit (.int .i64 a.from_))) ?_
 refine rvP C (.ptr 3 0) ?_
 refine rvP C (.pv (.lit (.int .i64 b.from_))) ?_
 refine rvP C (.pv (.lit (.bool (a.from_ != b.from_)))) ?_
 refine rvc_nil ?_
 refine Awp.cond (b := (a.from_ != b.from_)) rfl (fun h1 => ?_) (fun h1 => ?_)
 ·
  replace hR := of_true h1 hR
  refine Awp.consP C ?_
  refine rvP C (.ptr 2 0) ?_
  refine rvP C (.pv (.lit (.int .i64 a.from_))) ?_
  refine rvP C (.ptr 3 0) ?_
  refine rvP C (.pv (.lit (.int .i64 b.from_))) ?_
  refine rvP C (.pv (.lit (.int .i64 (IntKind.i64.wrap (a.from_ - b.from_))))) ?_
  refine rvP C (.pv (.lit (.int .i64 (IntKind.i64.wrap (a.from_ - b.from_))))) ?_
  refine rvc_nil ?_
  refine Awp.ret ?_
  subst hR
  exact ⟨.inl rfl, rfl⟩
 ·
  replace hR := of_false h1 hR
  refine Awp.skip ?_
  refine Awp.consP C ?_
  refine rvP C (.ptr 2 1) ?_
  refine rvP C (.pv (.lit (.int .i64 a.to))) ?_
  refine rvP C (.ptr 3 1) ?_
  refine rvP C (.pv (.lit (.int .i64 b.to))) ?_
  refine rvP C (.pv (.lit (.int .i64 (IntKind.i64.wrap (a.to - b.to))))) ?_
  refine rvP C (.pv (.lit (.int .i64 (IntKind.i64.wrap (a.to - b.to))))) ?_
  refine rvc_nil ?_
  refine Awp.ret ?_
  subst hR
  exact ⟨.inl rfl, rfl⟩
end Go.Proofs.Ytpeeofofagfooaa
/- The document: asking. No conditions. -/
namespace Go.Proofs.Ytpeeofofagfooaa
open Go.Am
structure Item where
  l : Link
  b : ByteArray
  deriving Inhabited
def eItem : Enc Item := ⟨3, fun x => [.lit (.int .i64 x.l.from_), .lit (.int .i64 x.l.to), .lit (.string x.b)], fun _ => rfl⟩
structure Net51 where
  items : (Sl Item)
  side : (Nat → Bool)
  lost : Int
  deriving Inhabited
def rRight (l : Link) : Bool :=
  (bif (decide (l.from_ ≥ 0)) then (bif (decide (l.from_ < 32)) then (bif (decide (l.to ≥ 0)) then (bif (decide (l.to < 32)) then (l.from_ != l.to) else false) else false) else false) else false)
theorem rRight_calls (l : Link)  : PCalls Try.prog 53 [.agg [.pv (.lit (.int .i64 l.from_)), .pv (.lit (.int .i64 l.to))]] (.pv (.lit (.bool (rRight l)))) := by
 generalize hR : rRight l = R
 refine PCalls.of_body tabOk Try.func53 rfl rfl rfl rfl rfl mixed fun E hP C hI => ?_
 refine Awp.consP C ?_
 refine rvc_un (rexec_prim C (δ := { v := .ptr 1 0, new := [(1, .cells [.pv (.lit (.int .i64 l.from_)), .pv (.lit (.int .i64 l.to))])] }) rfl rfl rfl rfl trivial rfl ?_)
 refine rvP C (.pv (.lit (.bool false))) ?_
 refine rvc_nil ?_
 refine Awp.consP C ?_
 refine rvP C (.ptr 1 0) ?_
 refine rvP C (.pv (.lit (.int .i64 l.from_))) ?_
 refine rvP C (.pv (.lit (.bool (decide (l.from_ ≥ 0))))) ?_
 refine rvP C (.pv (.lit (.bool (decide (l.from_ ≥ 0))))) ?_
 refine rvc_case 6 (decide (l.from_ ≥ 0)) rfl (fun h1 => ?_) (fun h1 => ?_)
 ·
  replace hR := of_true h1 hR
  refine rvO C (.ptr 1 0) ?_
  refine rvO C (.pv (.lit (.int .i64 l.from_))) ?_
  refine rvO C (.pv (.lit (.bool (decide (l.from_ < 32))))) ?_
  refine rvP C (.pv (.lit (.bool (decide (l.from_ < 32))))) ?_
  refine rvP C (.pv (.lit (.bool (decide (l.from_ < 32))))) ?_
  refine rvc_case 11 (decide (l.from_ < 32)) rfl (fun h2 => ?_) (fun h2 => ?_)
  ·
   replace hR := of_true h2 hR
   refine rvO C (.ptr 1 1) ?_
   refine rvO C (.pv (.lit (.int .i64 l.to))) ?_
   refine rvO C (.pv (.lit (.bool (decide (l.to ≥ 0))))) ?_
   refine rvP C (.pv (.lit (.bool (decide (l.to ≥ 0))))) ?_
   refine rvP C (.pv (.lit (.bool (decide (l.to ≥ 0))))) ?_
   refine rvc_case 16 (decide (l.to ≥ 0)) rfl (fun h3 => ?_) (fun h3 => ?_)
   ·
    replace hR := of_true h3 hR
    refine rvO C (.ptr 1 1) ?_
    refine rvO C (.pv (.lit (.int .i64 l.to))) ?_
    refine rvO C (.pv (.lit (.bool (decide (l.to < 32))))) ?_
    refine rvP C (.pv (.lit (.bool (decide (l.to < 32))))) ?_
    refine rvP C (.pv (.lit (.bool (decide (l.to < 32))))) ?_
    refine rvc_case 21 (decide (l.to < 32)) rfl (fun h4 => ?_) (fun h4 => ?_)
    ·
     replace hR := of_true h4 hR
     refine rvO C (.ptr 1 0) ?_
     refine rvO C (.pv (.lit (.int .i64 l.from_))) ?_
     refine rvO C (.ptr 1 1) ?_
     refine rvO C (.pv (.lit (.int .i64 l.to))) ?_
     refine rvO C (.pv (.lit (.bool (l.from_ != l.to)))) ?_
     refine rvP C (.pv (.lit (.bool (l.from_ != l.to)))) ?_
     refine rvP C (.pv (.lit (.bool (l.from_ != l.to)))) ?_
     refine rvc_nil ?_
     refine Awp.ret ?_
     subst hR
     exact ⟨.inl rfl, rfl⟩
    ·
     replace hR := of_false h4 hR
     refine rvS ?_
     refine rvS ?_
     refine rvS ?_
     refine rvS ?_
     refine rvS ?_
     refine rvP C (.pv (.lit (.bool false))) ?_
     refine rvP C (.pv (.lit (.bool false))) ?_
     refine rvc_nil ?_
     refine Awp.ret ?_
     subst hR
     exact ⟨.inl rfl, rfl⟩
   ·
    replace hR := of_false h3 hR
    refine rvS ?_
    refine rvS ?_
    refine rvS ?_
    refine rvP C (.pv (.lit (.bool false))) ?_
    refine rvP C (.pv (.lit (.bool false))) ?_
    refine rvS ?_
    refine rvS ?_
    refine rvS ?_
    refine rvS ?_
    refine rvS ?_
    refine rvP C (.pv (.lit (.bool false))) ?_
    refine rvP C (.pv (.lit (.bool false))) ?_
    refine rvc_nil ?_
    refine Awp.ret ?_
    subst hR
    exact ⟨.inl rfl, rfl⟩
  ·
   replace hR := of_false h2 hR
   refine rvS ?_
   refine rvS ?_
   refine rvS ?_
   refine rvP C (.pv (.lit (.bool false))) ?_
   refine rvP C (.pv (.lit (.bool false))) ?_
   refine rvS ?_
   refine rvS ?_
   refine rvS ?_
   refine rvP C (.pv (.lit (.bool false))) ?_
   refine rvP C (.pv (.lit (.bool false))) ?_
   refine rvS ?_
   refine rvS ?_
   refine rvS ?_
   refine rvS ?_
   refine rvS ?_
   refine rvP C (.pv (.lit (.bool false))) ?_
   refine rvP C (.pv (.lit (.bool false))) ?_
   refine rvc_nil ?_
   refine Awp.ret ?_
   subst hR
   exact ⟨.inl rfl, rfl⟩
 ·
  replace hR := of_false h1 hR
  refine rvS ?_
  refine rvS ?_
  refine rvS ?_
  refine rvP C (.pv (.lit (.bool false))) ?_
  refine rvP C (.pv (.lit (.bool false))) ?_
  refine rvS ?_
  refine rvS ?_
  refine rvS ?_
  refine rvP C (.pv (.lit (.bool false))) ?_
  refine rvP C (.pv (.lit (.bool false))) ?_
  refine rvS ?_
  refine rvS ?_
  refine rvS ?_
  refine rvP C (.pv (.lit (.bool false))) ?_
  refine rvP C (.pv (.lit (.bool false))) ?_
  refine rvS ?_
  refine rvS ?_
  refine rvS ?_
  refine rvS ?_
  refine rvS ?_
  refine rvP C (.pv (.lit (.bool false))) ?_
  refine rvP C (.pv (.lit (.bool false))) ?_
  refine rvc_nil ?_
  refine Awp.ret ?_
  subst hR
  exact ⟨.inl rfl, rfl⟩
def rLen_l0 (l : Link) : List Item → Nat → Int → Int
  | [], _, k => k
  | x :: xs, i, k => (bif ((x.l.from_ == l.from_) && ((x.l.to == l.to) && true)) then rLen_l0 l xs (i + 1) (IntKind.i64.wrap (k + 1)) else rLen_l0 l xs (i + 1) k)
def rLen (n : Net51) (l : Link) : Int :=
  rLen_l0 l n.items.D 0 0
theorem rLen_calls (n : Net51) (l : Link) (hl1 : n.items.D.length ≤ 1000000) : MCalls Try.prog 21 [.ptr 0 0, .agg [.pv (.lit (.int .i64 l.from_)), .pv (.lit (.int .i64 l.to))]] (.cells [sS (some n.items.nil) eItem n.items.D, .pv (.lit (.bool (n.side 0))), .pv (.lit (.bool (n.side 1))), .pv (.lit (.bool (n.side 2))), .pv (.lit (.bool (n.side 3))), .pv (.lit (.bool (n.side 4))), .pv (.lit (.bool (n.side 5))), .pv (.lit (.bool (n.side 6))), .pv (.lit (.bool (n.side 7))), .pv (.lit (.bool (n.side 8))), .pv (.lit (.bool (n.side 9))), .pv (.lit (.bool (n.side 10))), .pv (.lit (.bool (n.side 11))), .pv (.lit (.bool (n.side 12))), .pv (.lit (.bool (n.side 13))), .pv (.lit (.bool (n.side 14))), .pv (.lit (.bool (n.side 15))), .pv (.lit (.bool (n.side 16))), .pv (.lit (.bool (n.side 17))), .pv (.lit (.bool (n.side 18))), .pv (.lit (.bool (n.side 19))), .pv (.lit (.bool (n.side 20))), .pv (.lit (.bool (n.side 21))), .pv (.lit (.bool (n.side 22))), .pv (.lit (.bool (n.side 23))), .pv (.lit (.bool (n.side 24))), .pv (.lit (.bool (n.side 25))), .pv (.lit (.bool (n.side 26))), .pv (.lit (.bool (n.side 27))), .pv (.lit (.bool (n.side 28))), .pv (.lit (.bool (n.side 29))), .pv (.lit (.bool (n.side 30))), .pv (.lit (.bool (n.side 31))), .pv (.lit (.bool (n.side 32))), .pv (.lit (.bool (n.side 33))), .pv (.lit (.bool (n.side 34))), .pv (.lit (.bool (n.side 35))), .pv (.lit (.bool (n.side 36))), .pv (.lit (.bool (n.side 37))), .pv (.lit (.bool (n.side 38))), .pv (.lit (.bool (n.side 39))), .pv (.lit (.bool (n.side 40))), .pv (.lit (.bool (n.side 41))), .pv (.lit (.bool (n.side 42))), .pv (.lit (.bool (n.side 43))), .pv (.lit (.bool (n.side 44))), .pv (.lit (.bool (n.side 45))), .pv (.lit (.bool (n.side 46))), .pv (.lit (.bool (n.side 47))), .pv (.lit (.bool (n.side 48))), .pv (.lit (.bool (n.side 49))), .pv (.lit (.bool (n.side 50))), .pv (.lit (.bool (n.side 51))), .pv (.lit (.bool (n.side 52))), .pv (.lit (.bool (n.side 53))), .pv (.lit (.bool (n.side 54))), .pv (.lit (.bool (n.side 55))), .pv (.lit (.bool (n.side 56))), .pv (.lit (.bool (n.side 57))), .pv (.lit (.bool (n.side 58))), .pv (.lit (.bool (n.side 59))), .pv (.lit (.bool (n.side 60))), .pv (.lit (.bool (n.side 61))), .pv (.lit (.bool (n.side 62))), .pv (.lit (.bool (n.side 63))), .pv (.lit (.int .i64 n.lost))]) (.pv (.lit (.int .i64 (rLen n l)))) (.cells [sS (some n.items.nil) eItem n.items.D, .pv (.lit (.bool (n.side 0))), .pv (.lit (.bool (n.side 1))), .pv (.lit (.bool (n.side 2))), .pv (.lit (.bool (n.side 3))), .pv (.lit (.bool (n.side 4))), .pv (.lit (.bool (n.side 5))), .pv (.lit (.bool (n.side 6))), .pv (.lit (.bool (n.side 7))), .pv (.lit (.bool (n.side 8))), .pv (.lit (.bool (n.side 9))), .pv (.lit (.bool (n.side 10))), .pv (.lit (.bool (n.side 11))), .pv (.lit (.bool (n.side 12))), .pv (.lit (.bool (n.side 13))), .pv (.lit (.bool (n.side 14))), .pv (.lit (.bool (n.side 15))), .pv (.lit (.bool (n.side 16))), .pv (.lit (.bool (n.side 17))), .pv (.lit (.bool (n.side 18))), .pv (.lit (.bool (n.side 19))), .pv (.lit (.bool (n.side 20))), .pv (.lit (.bool (n.side 21))), .pv (.lit (.bool (n.side 22))), .pv (.lit (.bool (n.side 23))), .pv (.lit (.bool (n.side 24))), .pv (.lit (.bool (n.side 25))), .pv (.lit (.bool (n.side 26))), .pv (.lit (.bool (n.side 27))), .pv (.lit (.bool (n.side 28))), .pv (.lit (.bool (n.side 29))), .pv (.lit (.bool (n.side 30))), .pv (.lit (.bool (n.side 31))), .pv (.lit (.bool (n.side 32))), .pv (.lit (.bool (n.side 33))), .pv (.lit (.bool (n.side 34))), .pv (.lit (.bool (n.side 35))), .pv (.lit (.bool (n.side 36))), .pv (.lit (.bool (n.side 37))), .pv (.lit (.bool (n.side 38))), .pv (.lit (.bool (n.side 39))), .pv (.lit (.bool (n.side 40))), .pv (.lit (.bool (n.side 41))), .pv (.lit (.bool (n.side 42))), .pv (.lit (.bool (n.side 43))), .pv (.lit (.bool (n.side 44))), .pv (.lit (.bool (n.side 45))), .pv (.lit (.bool (n.side 46))), .pv (.lit (.bool (n.side 47))), .pv (.lit (.bool (n.side 48))), .pv (.lit (.bool (n.side 49))), .pv (.lit (.bool (n.side 50))), .pv (.lit (.bool (n.side 51))), .pv (.lit (.bool (n.side 52))), .pv (.lit (.bool (n.side 53))), .pv (.lit (.bool (n.side 54))), .pv (.lit (.bool (n.side 55))), .pv (.lit (.bool (n.side 56))), .pv (.lit (.bool (n.side 57))), .pv (.lit (.bool (n.side 58))), .pv (.lit (.bool (n.side 59))), .pv (.lit (.bool (n.side 60))), .pv (.lit (.bool (n.side 61))), .pv (.lit (.bool (n.side 62))), .pv (.lit (.bool (n.side 63))), .pv (.lit (.int .i64 n.lost))]) := by
 generalize hR : rLen n l = R
 refine MCalls.of_body tabOk Try.func21 rfl rfl rfl rfl rfl rfl rfl mixed fun E hP C hI => ?_
 refine Awp.consP C ?_
 refine rvc_un (rexec_prim C (δ := { v := .ptr 3 0, new := [(3, .cells [.pv (.lit (.int .i64 l.from_)), .pv (.lit (.int .i64 l.to))])] }) rfl rfl rfl rfl trivial rfl ?_)
 refine rvP C (.pv (.lit (.int .i64 0))) ?_
 refine rvc_nil ?_
 refine Awp.consP C ?_
 refine rvP C (.pv (.lit (.int .i64 0))) ?_
 refine rvc_nil ?_
 refine Awp.seq ?_
 refine Awp.consP C ?_
 refine rvP C (.ptr 0 0) ?_
 refine rvP C (.ptr 0 0) ?_
 refine rvP C (.ptr 0 0) ?_
 refine rvP C (sS (some n.items.nil) eItem n.items.D) ?_
 refine rvP C (.pv (.lit (.int .i64 (n.items.D.length : Int)))) ?_
 refine rvP C (.pv (.lit (.int .i64 0))) ?_
 refine rvc_nil ?_
 refine Awp.block ?_
 refine Awp.forR (σ := Int) (n.items.D.length) (fun i v => [(0, .ptr 0 0), (3, .ptr 3 0), (5, .pv (.lit (.int .i64 v))), (11, sS (some n.items.nil) eItem n.items.D), (12, .pv (.lit (.int .i64 (n.items.D.length : Int)))), (13, .pv (.lit (.int .i64 (i : Int))))]) (fun i v => [(0, .cells [sS (some n.items.nil) eItem n.items.D, .pv (.lit (.bool (n.side 0))), .pv (.lit (.bool (n.side 1))), .pv (.lit (.bool (n.side 2))), .pv (.lit (.bool (n.side 3))), .pv (.lit (.bool (n.side 4))), .pv (.lit (.bool (n.side 5))), .pv (.lit (.bool (n.side 6))), .pv (.lit (.bool (n.side 7))), .pv (.lit (.bool (n.side 8))), .pv (.lit (.bool (n.side 9))), .pv (.lit (.bool (n.side 10))), .pv (.lit (.bool (n.side 11))), .pv (.lit (.bool (n.side 12))), .pv (.lit (.bool (n.side 13))), .pv (.lit (.bool (n.side 14))), .pv (.lit (.bool (n.side 15))), .pv (.lit (.bool (n.side 16))), .pv (.lit (.bool (n.side 17))), .pv (.lit (.bool (n.side 18))), .pv (.lit (.bool (n.side 19))), .pv (.lit (.bool (n.side 20))), .pv (.lit (.bool (n.side 21))), .pv (.lit (.bool (n.side 22))), .pv (.lit (.bool (n.side 23))), .pv (.lit (.bool (n.side 24))), .pv (.lit (.bool (n.side 25))), .pv (.lit (.bool (n.side 26))), .pv (.lit (.bool (n.side 27))), .pv (.lit (.bool (n.side 28))), .pv (.lit (.bool (n.side 29))), .pv (.lit (.bool (n.side 30))), .pv (.lit (.bool (n.side 31))), .pv (.lit (.bool (n.side 32))), .pv (.lit (.bool (n.side 33))), .pv (.lit (.bool (n.side 34))), .pv (.lit (.bool (n.side 35))), .pv (.lit (.bool (n.side 36))), .pv (.lit (.bool (n.side 37))), .pv (.lit (.bool (n.side 38))), .pv (.lit (.bool (n.side 39))), .pv (.lit (.bool (n.side 40))), .pv (.lit (.bool (n.side 41))), .pv (.lit (.bool (n.side 42))), .pv (.lit (.bool (n.side 43))), .pv (.lit (.bool (n.side 44))), .pv (.lit (.bool (n.side 45))), .pv (.lit (.bool (n.side 46))), .pv (.lit (.bool (n.side 47))), .pv (.lit (.bool (n.side 48))), .pv (.lit (.bool (n.side 49))), .pv (.lit (.bool (n.side 50))), .pv (.lit (.bool (n.side 51))), .pv (.lit (.bool (n.side 52))), .pv (.lit (.bool (n.side 53))), .pv (.lit (.bool (n.side 54))), .pv (.lit (.bool (n.side 55))), .pv (.lit (.bool (n.side 56))), .pv (.lit (.bool (n.side 57))), .pv (.lit (.bool (n.side 58))), .pv (.lit (.bool (n.side 59))), .pv (.lit (.bool (n.side 60))), .pv (.lit (.bool (n.side 61))), .pv (.lit (.bool (n.side 62))), .pv (.lit (.bool (n.side 63))), .pv (.lit (.int .i64 n.lost))]), (3, .cells [.pv (.lit (.int .i64 l.from_)), .pv (.lit (.int .i64 l.to))])]) [0, 3] (fun i v => rLen_l0 l (n.items.D.drop i) i v = R) 0 ?_ ?_ (fun i k h1 hR => ?_)
 · exact hR
 · exact ⟨fun b => b, WeakerR.ofLI (I := [0]) (Ks := [0, 3]) hI ⟨⟨rfl, rfl⟩, ⟨rfl, rfl⟩, ⟨rfl, rfl⟩, ⟨rfl, rfl⟩, ⟨rfl, rfl⟩, ⟨rfl, rfl⟩, trivial⟩ (okH_cons rfl rfl rfl rfl (okH_cons rfl rfl rfl rfl (okH_nil))) rfl rfl⟩
 refine Awp.consP C ?_
 refine rvP C (.pv (.lit (.bool (decide ((i : Int) < (n.items.D.length : Int)))))) ?_
 refine rvc_nil ?_
 refine Awp.seq ?_
 refine Awp.cond (b := (decide ((i : Int) < (n.items.D.length : Int)))) rfl (fun h2 => ?_) (fun h2 => ?_)
 ·
  have h3 : i < n.items.D.length := by have := of_decide_eq_true h2; omega
  obtain ⟨x, h4⟩ := getX h3
  rw [drop_at h4] at hR
  refine Awp.skip ?_
  refine Awp.seq ?_
  refine Awp.block ?_
  refine Awp.consP C ?_
  refine rvc_un (rexec_idxS C rfl rfl rfl rfl rfl rfl x (Int.natCast_nonneg _) h4 ?_)
  refine rvP C (.agg [.pv (.lit (.int .i64 x.l.from_)), .pv (.lit (.int .i64 x.l.to)), .pv (.lit (.string x.b))]) ?_
  refine rvc_un (rexec_prim C (δ := { v := .ptr 7 0, new := [(7, .cells [.pv (.lit (.int .i64 0)), .pv (.lit (.int .i64 0)), .pv (.lit (.string ⟨#[]⟩))])] }) rfl rfl rfl rfl trivial rfl ?_)
  refine rvc_un (rexec_prim C (δ := { v := .undef, wr := [(7, some (.cells [.pv (.lit (.int .i64 x.l.from_)), .pv (.lit (.int .i64 x.l.to)), .pv (.lit (.string x.b))]))] }) rfl rfl rfl rfl trivial rfl ?_)
  refine rvc_nil ?_
  refine Awp.consP C ?_
  refine rvP C (.ptr 7 0) ?_
  refine rvP C (.agg [.pv (.lit (.int .i64 x.l.from_)), .pv (.lit (.int .i64 x.l.to))]) ?_
  refine rvP C (.agg [.pv (.lit (.int .i64 l.from_)), .pv (.lit (.int .i64 l.to))]) ?_
  refine rvP C (.pv (.lit (.bool ((x.l.from_ == l.from_) && ((x.l.to == l.to) && true))))) ?_
  refine rvc_nil ?_
  refine Awp.cond (b := ((x.l.from_ == l.from_) && ((x.l.to == l.to) && true))) rfl (fun h5 => ?_) (fun h5 => ?_)
  ·
   replace hR := of_true h5 hR
   refine Awp.regionP C ?_
   refine rvP C (.pv (.lit (.int .i64 k))) ?_
   refine rvP C (.pv (.lit (.int .i64 (IntKind.i64.wrap (k + 1))))) ?_
   refine rvP C (.pv (.lit (.int .i64 (IntKind.i64.wrap (k + 1))))) ?_
   refine rvc_nil ?_
   refine Awp.regionP C ?_
   refine rvP C (.pv (.lit (.int .i64 (IntKind.i64.wrap ((i : Int) + 1))))) ?_
   refine rvP C (.pv (.lit (.int .i64 (IntKind.i64.wrap ((i : Int) + 1))))) ?_
   refine rvc_nil ?_
   refine ⟨h3, (IntKind.i64.wrap (k + 1)), ?_, ?_⟩
   · exact hR
   · exact ⟨fun b => b, WeakerR.ofLI (I := [0]) (Ks := [0, 3]) hI ⟨⟨rfl, rfl⟩, ⟨rfl, rfl⟩, ⟨rfl, rfl⟩, ⟨rfl, rfl⟩, ⟨rfl, rfl⟩, ⟨lit_cast (wrap_i64 (by omega) (by omega)), rfl⟩, trivial⟩ (okH_cons rfl rfl rfl rfl (okH_cons rfl rfl rfl rfl (okH_nil))) rfl rfl⟩
  ·
   replace hR := of_false h5 hR
   refine Awp.skip ?_
   refine Awp.regionP C ?_
   refine rvP C (.pv (.lit (.int .i64 (IntKind.i64.wrap ((i : Int) + 1))))) ?_
   refine rvP C (.pv (.lit (.int .i64 (IntKind.i64.wrap ((i : Int) + 1))))) ?_
   refine rvc_nil ?_
   refine ⟨h3, k, ?_, ?_⟩
   · exact hR
   · exact ⟨fun b => b, WeakerR.ofLI (I := [0]) (Ks := [0, 3]) hI ⟨⟨rfl, rfl⟩, ⟨rfl, rfl⟩, ⟨rfl, rfl⟩, ⟨rfl, rfl⟩, ⟨rfl, rfl⟩, ⟨lit_cast (wrap_i64 (by omega) (by omega)), rfl⟩, trivial⟩ (okH_cons rfl rfl rfl rfl (okH_cons rfl rfl rfl rfl (okH_nil))) rfl rfl⟩
 ·
  have h3 : ¬ i < n.items.D.length := by have := of_decide_eq_false h2; omega
  rw [drop_end h3] at hR
  refine Awp.exit ?_
  refine Awp.consP C ?_
  refine rvP C (.pv (.lit (.int .i64 k))) ?_
  refine rvP C (.pv (.lit (.int .i64 k))) ?_
  refine rvc_nil ?_
  refine Awp.ret ?_
  subst hR
  exact ⟨.inl rfl, rfl, rfl⟩
def rPlace_l0 (l : Link) (i : Int) : List Item → Nat → Int → Int
  | [], _, _ => (-1)
  | x :: xs, i1, k => (bif (!((x.l.from_ == l.from_) && ((x.l.to == l.to) && true))) then rPlace_l0 l i xs (i1 + 1) k else (bif (k == i) then (i1 : Int) else rPlace_l0 l i xs (i1 + 1) (IntKind.i64.wrap (k + 1))))
def rPlace (n : Net51) (l : Link) (i : Int) : Int :=
  rPlace_l0 l i n.items.D 0 0
theorem rPlace_calls (n : Net51) (l : Link) (i : Int) (hl1 : n.items.D.length ≤ 1000000) : MCalls Try.prog 45 [.ptr 0 0, .agg [.pv (.lit (.int .i64 l.from_)), .pv (.lit (.int .i64 l.to))], .pv (.lit (.int .i64 i))] (.cells [sS (some n.items.nil) eItem n.items.D, .pv (.lit (.bool (n.side 0))), .pv (.lit (.bool (n.side 1))), .pv (.lit (.bool (n.side 2))), .pv (.lit (.bool (n.side 3))), .pv (.lit (.bool (n.side 4))), .pv (.lit (.bool (n.side 5))), .pv (.lit (.bool (n.side 6))), .pv (.lit (.bool (n.side 7))), .pv (.lit (.bool (n.side 8))), .pv (.lit (.bool (n.side 9))), .pv (.lit (.bool (n.side 10))), .pv (.lit (.bool (n.side 11))), .pv (.lit (.bool (n.side 12))), .pv (.lit (.bool (n.side 13))), .pv (.lit (.bool (n.side 14))), .pv (.lit (.bool (n.side 15))), .pv (.lit (.bool (n.side 16))), .pv (.lit (.bool (n.side 17))), .pv (.lit (.bool (n.side 18))), .pv (.lit (.bool (n.side 19))), .pv (.lit (.bool (n.side 20))), .pv (.lit (.bool (n.side 21))), .pv (.lit (.bool (n.side 22))), .pv (.lit (.bool (n.side 23))), .pv (.lit (.bool (n.side 24))), .pv (.lit (.bool (n.side 25))), .pv (.lit (.bool (n.side 26))), .pv (.lit (.bool (n.side 27))), .pv (.lit (.bool (n.side 28))), .pv (.lit (.bool (n.side 29))), .pv (.lit (.bool (n.side 30))), .pv (.lit (.bool (n.side 31))), .pv (.lit (.bool (n.side 32))), .pv (.lit (.bool (n.side 33))), .pv (.lit (.bool (n.side 34))), .pv (.lit (.bool (n.side 35))), .pv (.lit (.bool (n.side 36))), .pv (.lit (.bool (n.side 37))), .pv (.lit (.bool (n.side 38))), .pv (.lit (.bool (n.side 39))), .pv (.lit (.bool (n.side 40))), .pv (.lit (.bool (n.side 41))), .pv (.lit (.bool (n.side 42))), .pv (.lit (.bool (n.side 43))), .pv (.lit (.bool (n.side 44))), .pv (.lit (.bool (n.side 45))), .pv (.lit (.bool (n.side 46))), .pv (.lit (.bool (n.side 47))), .pv (.lit (.bool (n.side 48))), .pv (.lit (.bool (n.side 49))), .pv (.lit (.bool (n.side 50))), .pv (.lit (.bool (n.side 51))), .pv (.lit (.bool (n.side 52))), .pv (.lit (.bool (n.side 53))), .pv (.lit (.bool (n.side 54))), .pv (.lit (.bool (n.side 55))), .pv (.lit (.bool (n.side 56))), .pv (.lit (.bool (n.side 57))), .pv (.lit (.bool (n.side 58))), .pv (.lit (.bool (n.side 59))), .pv (.lit (.bool (n.side 60))), .pv (.lit (.bool (n.side 61))), .pv (.lit (.bool (n.side 62))), .pv (.lit (.bool (n.side 63))), .pv (.lit (.int .i64 n.lost))]) (.pv (.lit (.int .i64 (rPlace n l i)))) (.cells [sS (some n.items.nil) eItem n.items.D, .pv (.lit (.bool (n.side 0))), .pv (.lit (.bool (n.side 1))), .pv (.lit (.bool (n.side 2))), .pv (.lit (.bool (n.side 3))), .pv (.lit (.bool (n.side 4))), .pv (.lit (.bool (n.side 5))), .pv (.lit (.bool (n.side 6))), .pv (.lit (.bool (n.side 7))), .pv (.lit (.bool (n.side 8))), .pv (.lit (.bool (n.side 9))), .pv (.lit (.bool (n.side 10))), .pv (.lit (.bool (n.side 11))), .pv (.lit (.bool (n.side 12))), .pv (.lit (.bool (n.side 13))), .pv (.lit (.bool (n.side 14))), .pv (.lit (.bool (n.side 15))), .pv (.lit (.bool (n.side 16))), .pv (.lit (.bool (n.side 17))), .pv (.lit (.bool (n.side 18))), .pv (.lit (.bool (n.side 19))), .pv (.lit (.bool (n.side 20))), .pv (.lit (.bool (n.side 21))), .pv (.lit (.bool (n.side 22))), .pv (.lit (.bool (n.side 23))), .pv (.lit (.bool (n.side 24))), .pv (.lit (.bool (n.side 25))), .pv (.lit (.bool (n.side 26))), .pv (.lit (.bool (n.side 27))), .pv (.lit (.bool (n.side 28))), .pv (.lit (.bool (n.side 29))), .pv (.lit (.bool (n.side 30))), .pv (.lit (.bool (n.side 31))), .pv (.lit (.bool (n.side 32))), .pv (.lit (.bool (n.side 33))), .pv (.lit (.bool (n.side 34))), .pv (.lit (.bool (n.side 35))), .pv (.lit (.bool (n.side 36))), .pv (.lit (.bool (n.side 37))), .pv (.lit (.bool (n.side 38))), .pv (.lit (.bool (n.side 39))), .pv (.lit (.bool (n.side 40))), .pv (.lit (.bool (n.side 41))), .pv (.lit (.bool (n.side 42))), .pv (.lit (.bool (n.side 43))), .pv (.lit (.bool (n.side 44))), .pv (.lit (.bool (n.side 45))), .pv (.lit (.bool (n.side 46))), .pv (.lit (.bool (n.side 47))), .pv (.lit (.bool (n.side 48))), .pv (.lit (.bool (n.side 49))), .pv (.lit (.bool (n.side 50))), .pv (.lit (.bool (n.side 51))), .pv (.lit (.bool (n.side 52))), .pv (.lit (.bool (n.side 53))), .pv (.lit (.bool (n.side 54))), .pv (.lit (.bool (n.side 55))), .pv (.lit (.bool (n.side 56))), .pv (.lit (.bool (n.side 57))), .pv (.lit (.bool (n.side 58))), .pv (.lit (.bool (n.side 59))), .pv (.lit (.bool (n.side 60))), .pv (.lit (.bool (n.side 61))), .pv (.lit (.bool (n.side 62))), .pv (.lit (.bool (n.side 63))), .pv (.lit (.int .i64 n.lost))]) := by
 generalize hR : rPlace n l i = R
 refine MCalls.of_body tabOk Try.func45 rfl rfl rfl rfl rfl rfl rfl mixed fun E hP C hI => ?_
 refine Awp.consP C ?_
 refine rvc_un (rexec_prim C (δ := { v := .ptr 4 0, new := [(4, .cells [.pv (.lit (.int .i64 l.from_)), .pv (.lit (.int .i64 l.to))])] }) rfl rfl rfl rfl trivial rfl ?_)
 refine rvP C (.pv (.lit (.int .i64 0))) ?_
 refine rvc_nil ?_
 refine Awp.consP C ?_
 refine rvP C (.pv (.lit (.int .i64 0))) ?_
 refine rvc_nil ?_
 refine Awp.seq ?_
 refine Awp.consP C ?_
 refine rvP C (.ptr 0 0) ?_
 refine rvP C (.ptr 0 0) ?_
 refine rvP C (.ptr 0 0) ?_
 refine rvP C (sS (some n.items.nil) eItem n.items.D) ?_
 refine rvP C (.pv (.lit (.int .i64 (n.items.D.length : Int)))) ?_
 refine rvP C (.pv (.lit (.int .i64 0))) ?_
 refine rvc_nil ?_
 refine Awp.block ?_
 refine Awp.forR (σ := Int) (n.items.D.length) (fun i1 v => [(0, .ptr 0 0), (2, .pv (.lit (.int .i64 i))), (4, .ptr 4 0), (7, .pv (.lit (.int .i64 v))), (13, sS (some n.items.nil) eItem n.items.D), (14, .pv (.lit (.int .i64 (n.items.D.length : Int)))), (15, .pv (.lit (.int .i64 (i1 : Int))))]) (fun i1 v => [(0, .cells [sS (some n.items.nil) eItem n.items.D, .pv (.lit (.bool (n.side 0))), .pv (.lit (.bool (n.side 1))), .pv (.lit (.bool (n.side 2))), .pv (.lit (.bool (n.side 3))), .pv (.lit (.bool (n.side 4))), .pv (.lit (.bool (n.side 5))), .pv (.lit (.bool (n.side 6))), .pv (.lit (.bool (n.side 7))), .pv (.lit (.bool (n.side 8))), .pv (.lit (.bool (n.side 9))), .pv (.lit (.bool (n.side 10))), .pv (.lit (.bool (n.side 11))), .pv (.lit (.bool (n.side 12))), .pv (.lit (.bool (n.side 13))), .pv (.lit (.bool (n.side 14))), .pv (.lit (.bool (n.side 15))), .pv (.lit (.bool (n.side 16))), .pv (.lit (.bool (n.side 17))), .pv (.lit (.bool (n.side 18))), .pv (.lit (.bool (n.side 19))), .pv (.lit (.bool (n.side 20))), .pv (.lit (.bool (n.side 21))), .pv (.lit (.bool (n.side 22))), .pv (.lit (.bool (n.side 23))), .pv (.lit (.bool (n.side 24))), .pv (.lit (.bool (n.side 25))), .pv (.lit (.bool (n.side 26))), .pv (.lit (.bool (n.side 27))), .pv (.lit (.bool (n.side 28))), .pv (.lit (.bool (n.side 29))), .pv (.lit (.bool (n.side 30))), .pv (.lit (.bool (n.side 31))), .pv (.lit (.bool (n.side 32))), .pv (.lit (.bool (n.side 33))), .pv (.lit (.bool (n.side 34))), .pv (.lit (.bool (n.side 35))), .pv (.lit (.bool (n.side 36))), .pv (.lit (.bool (n.side 37))), .pv (.lit (.bool (n.side 38))), .pv (.lit (.bool (n.side 39))), .pv (.lit (.bool (n.side 40))), .pv (.lit (.bool (n.side 41))), .pv (.lit (.bool (n.side 42))), .pv (.lit (.bool (n.side 43))), .pv (.lit (.bool (n.side 44))), .pv (.lit (.bool (n.side 45))), .pv (.lit (.bool (n.side 46))), .pv (.lit (.bool (n.side 47))), .pv (.lit (.bool (n.side 48))), .pv (.lit (.bool (n.side 49))), .pv (.lit (.bool (n.side 50))), .pv (.lit (.bool (n.side 51))), .pv (.lit (.bool (n.side 52))), .pv (.lit (.bool (n.side 53))), .pv (.lit (.bool (n.side 54))), .pv (.lit (.bool (n.side 55))), .pv (.lit (.bool (n.side 56))), .pv (.lit (.bool (n.side 57))), .pv (.lit (.bool (n.side 58))), .pv (.lit (.bool (n.side 59))), .pv (.lit (.bool (n.side 60))), .pv (.lit (.bool (n.side 61))), .pv (.lit (.bool (n.side 62))), .pv (.lit (.bool (n.side 63))), .pv (.lit (.int .i64 n.lost))]), (4, .cells [.pv (.lit (.int .i64 l.from_)), .pv (.lit (.int .i64 l.to))])]) [0, 4] (fun i1 v => rPlace_l0 l i (n.items.D.drop i1) i1 v = R) 0 ?_ ?_ (fun i1 k h1 hR => ?_)
 · exact hR
 · exact ⟨fun b => b, WeakerR.ofLI (I := [0]) (Ks := [0, 4]) hI ⟨⟨rfl, rfl⟩, ⟨rfl, rfl⟩, ⟨rfl, rfl⟩, ⟨rfl, rfl⟩, ⟨rfl, rfl⟩, ⟨rfl, rfl⟩, ⟨rfl, rfl⟩, trivial⟩ (okH_cons rfl rfl rfl rfl (okH_cons rfl rfl rfl rfl (okH_nil))) rfl rfl⟩
 refine Awp.consP C ?_
 refine rvP C (.pv (.lit (.bool (decide ((i1 : Int) < (n.items.D.length : Int)))))) ?_
 refine rvc_nil ?_
 refine Awp.seq ?_
 refine Awp.cond (b := (decide ((i1 : Int) < (n.items.D.length : Int)))) rfl (fun h2 => ?_) (fun h2 => ?_)
 ·
  have h3 : i1 < n.items.D.length := by have := of_decide_eq_true h2; omega
  obtain ⟨x, h4⟩ := getX h3
  rw [drop_at h4] at hR
  refine Awp.skip ?_
  refine Awp.seq ?_
  refine Awp.block ?_
  refine Awp.consP C ?_
  refine rvP C (.pv (.lit (.int .i64 (i1 : Int)))) ?_
  refine rvc_un (rexec_idxS C rfl rfl rfl rfl rfl rfl x (Int.natCast_nonneg _) h4 ?_)
  refine rvP C (.agg [.pv (.lit (.int .i64 x.l.from_)), .pv (.lit (.int .i64 x.l.to)), .pv (.lit (.string x.b))]) ?_
  refine rvc_un (rexec_prim C (δ := { v := .ptr 9 0, new := [(9, .cells [.pv (.lit (.int .i64 0)), .pv (.lit (.int .i64 0)), .pv (.lit (.string ⟨#[]⟩))])] }) rfl rfl rfl rfl trivial rfl ?_)
  refine rvP C (.pv (.lit (.int .i64 (i1 : Int)))) ?_
  refine rvc_un (rexec_prim C (δ := { v := .undef, wr := [(9, some (.cells [.pv (.lit (.int .i64 x.l.from_)), .pv (.lit (.int .i64 x.l.to)), .pv (.lit (.string x.b))]))] }) rfl rfl rfl rfl trivial rfl ?_)
  refine rvc_nil ?_
  refine Awp.seq ?_
  refine Awp.consP C ?_
  refine rvP C (.ptr 9 0) ?_
  refine rvP C (.agg [.pv (.lit (.int .i64 x.l.from_)), .pv (.lit (.int .i64 x.l.to))]) ?_
  refine rvP C (.agg [.pv (.lit (.int .i64 l.from_)), .pv (.lit (.int .i64 l.to))]) ?_
  refine rvP C (.pv (.lit (.bool (!((x.l.from_ == l.from_) && ((x.l.to == l.to) && true)))))) ?_
  refine rvc_nil ?_
  refine Awp.cond (b := (!((x.l.from_ == l.from_) && ((x.l.to == l.to) && true)))) rfl (fun h5 => ?_) (fun h5 => ?_)
  ·
   replace hR := of_true h5 hR
   refine Awp.exit ?_
   refine Awp.regionP C ?_
   refine rvP C (.pv (.lit (.int .i64 (IntKind.i64.wrap ((i1 : Int) + 1))))) ?_
   refine rvP C (.pv (.lit (.int .i64 (IntKind.i64.wrap ((i1 : Int) + 1))))) ?_
   refine rvc_nil ?_
   refine ⟨h3, k, ?_, ?_⟩
   · exact hR
   · exact ⟨fun b => b, WeakerR.ofLI (I := [0]) (Ks := [0, 4]) hI ⟨⟨rfl, rfl⟩, ⟨rfl, rfl⟩, ⟨rfl, rfl⟩, ⟨rfl, rfl⟩, ⟨rfl, rfl⟩, ⟨rfl, rfl⟩, ⟨lit_cast (wrap_i64 (by omega) (by omega)), rfl⟩, trivial⟩ (okH_cons rfl rfl rfl rfl (okH_cons rfl rfl rfl rfl (okH_nil))) rfl rfl⟩
  ·
   replace hR := of_false h5 hR
   refine Awp.skip ?_
   refine Awp.seq ?_
   refine Awp.consP C ?_
   refine rvP C (.pv (.lit (.int .i64 k))) ?_
   refine rvP C (.pv (.lit (.int .i64 i))) ?_
   refine rvP C (.pv (.lit (.bool (k == i)))) ?_
   refine rvc_nil ?_
   refine Awp.cond (b := (k == i)) rfl (fun h6 => ?_) (fun h6 => ?_)
   ·
    replace hR := of_true h6 hR
    refine Awp.consP C ?_
    refine rvP C (.pv (.lit (.int .i64 (i1 : Int)))) ?_
    refine rvP C (.pv (.lit (.int .i64 (i1 : Int)))) ?_
    refine rvc_nil ?_
    refine Awp.ret ?_
    subst hR
    exact ⟨.inl rfl, rfl, rfl⟩
   ·
    replace hR := of_false h6 hR
    refine Awp.skip ?_
    refine Awp.regionP C ?_
    refine rvP C (.pv (.lit (.int .i64 k))) ?_
    refine rvP C (.pv (.lit (.int .i64 (IntKind.i64.wrap (k + 1))))) ?_
    refine rvP C (.pv (.lit (.int .i64 (IntKind.i64.wrap (k + 1))))) ?_
    refine rvc_nil ?_
    refine Awp.regionP C ?_
    refine rvP C (.pv (.lit (.int .i64 (IntKind.i64.wrap ((i1 : Int) + 1))))) ?_
    refine rvP C (.pv (.lit (.int .i64 (IntKind.i64.wrap ((i1 : Int) + 1))))) ?_
    refine rvc_nil ?_
    refine ⟨h3, (IntKind.i64.wrap (k + 1)), ?_, ?_⟩
    · exact hR
    · exact ⟨fun b => b, WeakerR.ofLI (I := [0]) (Ks := [0, 4]) hI ⟨⟨rfl, rfl⟩, ⟨rfl, rfl⟩, ⟨rfl, rfl⟩, ⟨rfl, rfl⟩, ⟨rfl, rfl⟩, ⟨rfl, rfl⟩, ⟨lit_cast (wrap_i64 (by omega) (by omega)), rfl⟩, trivial⟩ (okH_cons rfl rfl rfl rfl (okH_cons rfl rfl rfl rfl (okH_nil))) rfl rfl⟩
 ·
  have h3 : ¬ i1 < n.items.D.length := by have := of_decide_eq_false h2; omega
  rw [drop_end h3] at hR
  refine Awp.exit ?_
  refine Awp.consP C ?_
  refine rvP C (.pv (.lit (.int .i64 (-1)))) ?_
  refine rvc_nil ?_
  refine Awp.ret ?_
  subst hR
  exact ⟨.inl rfl, rfl, rfl⟩
end Go.Proofs.Ytpeeofofagfooaa
/- The document's net: where a message stands. No conditions. -/
namespace Go.Proofs.Ytpeeofofagfooaa
open Go.Am
theorem rPlace_l0_lt (l : Link) (i : Int) : ∀ (D : List Item) (j : Nat) (k : Int), -1 ≤ rPlace_l0 l i D j k ∧ rPlace_l0 l i D j k < (j + D.length : Nat)
  | [], j, k => by unfold rPlace_l0; refine ⟨Int.le_refl _, ?_⟩; omega
  | x :: xs, j, k => by
    unfold rPlace_l0
    have h1 := rPlace_l0_lt l i xs (j + 1) k
    have h2 := rPlace_l0_lt l i xs (j + 1) (IntKind.i64.wrap (k + 1))
    rw [List.length_cons]
    cases !((x.l.from_ == l.from_) && ((x.l.to == l.to) && true))
    · rw [cond_false]
      cases k == i
      · rw [cond_false]; omega
      · rw [cond_true]; omega
    · rw [cond_true]; omega
theorem rPlace_lt (n : Net51) (l : Link) (i : Int) : -1 ≤ rPlace n l i ∧ rPlace n l i < (n.items.D.length : Int) := by
  have := rPlace_l0_lt l i n.items.D 0 0
  unfold rPlace; omega
theorem rPlace_l0_at (l : Link) (i : Int) : ∀ (D : List Item) (j : Nat) (k : Int), ¬ rPlace_l0 l i D j k < 0 → ∃ x ∈ D, x.l.from_ = l.from_ ∧ x.l.to = l.to
  | [], j, k => by unfold rPlace_l0; intro h; exact absurd (by decide) h
  | x :: xs, j, k => by
    unfold rPlace_l0
    have h1 := rPlace_l0_at l i xs (j + 1) k
    have h2 := rPlace_l0_at l i xs (j + 1) (IntKind.i64.wrap (k + 1))
    cases hx : !((x.l.from_ == l.from_) && ((x.l.to == l.to) && true))
    · rw [cond_false]
      intro _
      exact ⟨x, List.mem_cons_self .., by simpa using hx⟩
    · rw [cond_true]
      intro h
      obtain ⟨y, hy, e⟩ := h1 h
      exact ⟨y, List.mem_cons_of_mem _ hy, e⟩
/-- A net of the document: what is on its way is on links. -/
def okR (n : Net51) : Prop := ∀ x ∈ n.items.D, rRight x.l = true
theorem rRight_le {l : Link} (h : rRight l = true) : 0 ≤ l.from_ ∧ l.from_ < 32 ∧ 0 ≤ l.to ∧ l.to < 32 ∧ l.from_ ≠ l.to := by
  unfold rRight at h
  cases h1 : decide (l.from_ ≥ 0) <;> cases h2 : decide (l.from_ < 32) <;> cases h3 : decide (l.to ≥ 0) <;> cases h4 : decide (l.to < 32) <;> simp_all
theorem rTake_ix {n : Net51} {l : Link} {i : Int} (ho : okR n) (h : decide (rPlace n l i < 0) = false) : (0 ≤ l.from_ ∧ l.from_ < 64) ∧ (0 ≤ l.to ∧ l.to < 64) := by
  obtain ⟨x, hx, e1, e2⟩ := rPlace_l0_at l i n.items.D 0 0 (of_decide_eq_false h)
  have := rRight_le (ho x hx)
  omega
theorem rLen_l0_le (l : Link) : ∀ (D : List Item) (i : Nat) (k : Int), 0 ≤ k → k + D.length ≤ 9223372036854775807 → 0 ≤ rLen_l0 l D i k ∧ rLen_l0 l D i k ≤ k + D.length
  | [], i, k, h, _ => ⟨h, by unfold rLen_l0; omega⟩
  | x :: xs, i, k, h, h2 => by
    unfold rLen_l0
    rw [List.length_cons] at h2 ⊢
    have h3 := rLen_l0_le l xs (i + 1) k h (by omega)
    have e : IntKind.i64.wrap (k + 1) = k + 1 := wrapI _ (by show -9223372036854775808 ≤ k + 1 ∧ k + 1 ≤ 9223372036854775807; omega)
    have h4 := rLen_l0_le l xs (i + 1) (k + 1) (by omega) (by omega)
    rw [e]
    cases ((x.l.from_ == l.from_) && ((x.l.to == l.to) && true))
    · rw [cond_false]; omega
    · rw [cond_true]; omega
theorem rLen_le (n : Net51) (l : Link) : n.items.D.length ≤ 1000000 → 0 ≤ rLen n l ∧ rLen n l ≤ (n.items.D.length : Int) := fun h => by
  have := rLen_l0_le l n.items.D 0 0 (Int.le_refl _) (by omega)
  unfold rLen; omega
end Go.Proofs.Ytpeeofofagfooaa
/- The document: a message looked at. No conditions. -/
namespace Go.Proofs.Ytpeeofofagfooaa
open Go.Am
def rPeek (n : Net51) (l : Link) (i : Int) : ByteArray × Int :=
  (bif (decide ((rPlace n l i) < 0)) then (⟨#[]⟩, 40) else (n.items.D[(rPlace n l i).toNat]!.b, 0))
theorem rPeek_calls (n : Net51) (l : Link) (i : Int) (hl1 : n.items.D.length ≤ 1000000) : MCalls Try.prog 22 [.ptr 0 0, .agg [.pv (.lit (.int .i64 l.from_)), .pv (.lit (.int .i64 l.to))], .pv (.lit (.int .i64 i))] (.cells [sS (some n.items.nil) eItem n.items.D, .pv (.lit (.bool (n.side 0))), .pv (.lit (.bool (n.side 1))), .pv (.lit (.bool (n.side 2))), .pv (.lit (.bool (n.side 3))), .pv (.lit (.bool (n.side 4))), .pv (.lit (.bool (n.side 5))), .pv (.lit (.bool (n.side 6))), .pv (.lit (.bool (n.side 7))), .pv (.lit (.bool (n.side 8))), .pv (.lit (.bool (n.side 9))), .pv (.lit (.bool (n.side 10))), .pv (.lit (.bool (n.side 11))), .pv (.lit (.bool (n.side 12))), .pv (.lit (.bool (n.side 13))), .pv (.lit (.bool (n.side 14))), .pv (.lit (.bool (n.side 15))), .pv (.lit (.bool (n.side 16))), .pv (.lit (.bool (n.side 17))), .pv (.lit (.bool (n.side 18))), .pv (.lit (.bool (n.side 19))), .pv (.lit (.bool (n.side 20))), .pv (.lit (.bool (n.side 21))), .pv (.lit (.bool (n.side 22))), .pv (.lit (.bool (n.side 23))), .pv (.lit (.bool (n.side 24))), .pv (.lit (.bool (n.side 25))), .pv (.lit (.bool (n.side 26))), .pv (.lit (.bool (n.side 27))), .pv (.lit (.bool (n.side 28))), .pv (.lit (.bool (n.side 29))), .pv (.lit (.bool (n.side 30))), .pv (.lit (.bool (n.side 31))), .pv (.lit (.bool (n.side 32))), .pv (.lit (.bool (n.side 33))), .pv (.lit (.bool (n.side 34))), .pv (.lit (.bool (n.side 35))), .pv (.lit (.bool (n.side 36))), .pv (.lit (.bool (n.side 37))), .pv (.lit (.bool (n.side 38))), .pv (.lit (.bool (n.side 39))), .pv (.lit (.bool (n.side 40))), .pv (.lit (.bool (n.side 41))), .pv (.lit (.bool (n.side 42))), .pv (.lit (.bool (n.side 43))), .pv (.lit (.bool (n.side 44))), .pv (.lit (.bool (n.side 45))), .pv (.lit (.bool (n.side 46))), .pv (.lit (.bool (n.side 47))), .pv (.lit (.bool (n.side 48))), .pv (.lit (.bool (n.side 49))), .pv (.lit (.bool (n.side 50))), .pv (.lit (.bool (n.side 51))), .pv (.lit (.bool (n.side 52))), .pv (.lit (.bool (n.side 53))), .pv (.lit (.bool (n.side 54))), .pv (.lit (.bool (n.side 55))), .pv (.lit (.bool (n.side 56))), .pv (.lit (.bool (n.side 57))), .pv (.lit (.bool (n.side 58))), .pv (.lit (.bool (n.side 59))), .pv (.lit (.bool (n.side 60))), .pv (.lit (.bool (n.side 61))), .pv (.lit (.bool (n.side 62))), .pv (.lit (.bool (n.side 63))), .pv (.lit (.int .i64 n.lost))]) (.tup [.pv (.lit (.string ((rPeek n l i).1))), .pv (.lit (.int .i64 ((rPeek n l i).2)))]) (.cells [sS (some n.items.nil) eItem n.items.D, .pv (.lit (.bool (n.side 0))), .pv (.lit (.bool (n.side 1))), .pv (.lit (.bool (n.side 2))), .pv (.lit (.bool (n.side 3))), .pv (.lit (.bool (n.side 4))), .pv (.lit (.bool (n.side 5))), .pv (.lit (.bool (n.side 6))), .pv (.lit (.bool (n.side 7))), .pv (.lit (.bool (n.side 8))), .pv (.lit (.bool (n.side 9))), .pv (.lit (.bool (n.side 10))), .pv (.lit (.bool (n.side 11))), .pv (.lit (.bool (n.side 12))), .pv (.lit (.bool (n.side 13))), .pv (.lit (.bool (n.side 14))), .pv (.lit (.bool (n.side 15))), .pv (.lit (.bool (n.side 16))), .pv (.lit (.bool (n.side 17))), .pv (.lit (.bool (n.side 18))), .pv (.lit (.bool (n.side 19))), .pv (.lit (.bool (n.side 20))), .pv (.lit (.bool (n.side 21))), .pv (.lit (.bool (n.side 22))), .pv (.lit (.bool (n.side 23))), .pv (.lit (.bool (n.side 24))), .pv (.lit (.bool (n.side 25))), .pv (.lit (.bool (n.side 26))), .pv (.lit (.bool (n.side 27))), .pv (.lit (.bool (n.side 28))), .pv (.lit (.bool (n.side 29))), .pv (.lit (.bool (n.side 30))), .pv (.lit (.bool (n.side 31))), .pv (.lit (.bool (n.side 32))), .pv (.lit (.bool (n.side 33))), .pv (.lit (.bool (n.side 34))), .pv (.lit (.bool (n.side 35))), .pv (.lit (.bool (n.side 36))), .pv (.lit (.bool (n.side 37))), .pv (.lit (.bool (n.side 38))), .pv (.lit (.bool (n.side 39))), .pv (.lit (.bool (n.side 40))), .pv (.lit (.bool (n.side 41))), .pv (.lit (.bool (n.side 42))), .pv (.lit (.bool (n.side 43))), .pv (.lit (.bool (n.side 44))), .pv (.lit (.bool (n.side 45))), .pv (.lit (.bool (n.side 46))), .pv (.lit (.bool (n.side 47))), .pv (.lit (.bool (n.side 48))), .pv (.lit (.bool (n.side 49))), .pv (.lit (.bool (n.side 50))), .pv (.lit (.bool (n.side 51))), .pv (.lit (.bool (n.side 52))), .pv (.lit (.bool (n.side 53))), .pv (.lit (.bool (n.side 54))), .pv (.lit (.bool (n.side 55))), .pv (.lit (.bool (n.side 56))), .pv (.lit (.bool (n.side 57))), .pv (.lit (.bool (n.side 58))), .pv (.lit (.bool (n.side 59))), .pv (.lit (.bool (n.side 60))), .pv (.lit (.bool (n.side 61))), .pv (.lit (.bool (n.side 62))), .pv (.lit (.bool (n.side 63))), .pv (.lit (.int .i64 n.lost))]) := by
 generalize hR : rPeek n l i = R
 refine MCalls.of_body tabOk Try.func22 rfl rfl rfl rfl rfl rfl rfl mixed fun E hP C hI => ?_
 refine Awp.consP C ?_
 refine rvc_un (rexec_prim C (δ := { v := .ptr 4 0, new := [(4, .cells [.pv (.lit (.int .i64 l.from_)), .pv (.lit (.int .i64 l.to))])] }) rfl rfl rfl rfl trivial rfl ?_)
 refine rvP C (.pv (.lit (.string ⟨#[]⟩))) ?_
 refine rvP C (.pv (.lit (.int .i64 0))) ?_
 refine rvc_nil ?_
 refine Awp.cons C (fun _ => .writer) (by kernel_rfl) ?_
 refine rvP C (.ptr 0 0) ?_
 refine rvP C (.agg [.pv (.lit (.int .i64 l.from_)), .pv (.lit (.int .i64 l.to))]) ?_
 refine rvP C (.pv (.lit (.int .i64 i))) ?_
 refine rvc_un (rexec_callM hP C (b := 0) rfl rfl rfl (rPlace_calls n l i hl1) rfl rfl ?_)
 refine rvP C (.pv (.lit (.int .i64 (rPlace n l i)))) ?_
 refine rvc_nil ?_
 refine Awp.seq ?_
 refine Awp.consP C ?_
 refine rvP C (.pv (.lit (.int .i64 (rPlace n l i)))) ?_
 refine rvP C (.pv (.lit (.bool (decide ((rPlace n l i) < 0))))) ?_
 refine rvc_nil ?_
 refine Awp.cond (b := (decide ((rPlace n l i) < 0))) rfl (fun h1 => ?_) (fun h1 => ?_)
 ·
  replace hR := of_true h1 hR
  refine Awp.consP C ?_
  refine rvP C (.pv (.lit (.string ⟨#[]⟩))) ?_
  refine rvP C (.pv (.lit (.int .i64 40))) ?_
  refine rvc_nil ?_
  refine Awp.ret ?_
  subst hR
  exact ⟨.inl rfl, rfl, rfl⟩
 ·
  replace hR := of_false h1 hR
  refine Awp.skip ?_
  refine Awp.consP C ?_
  refine rvP C (.ptr 0 0) ?_
  refine rvP C (.ptr 0 0) ?_
  refine rvP C (.ptr 0 0) ?_
  refine rvP C (sS (some n.items.nil) eItem n.items.D) ?_
  refine rvP C (.pv (.lit (.int .i64 (rPlace n l i)))) ?_
  have h2 : n.items.D[(rPlace n l i).toNat]? = some n.items.D[(rPlace n l i).toNat]! := getE (by have := rPlace_lt n l i; have := wrapI (rPlace n l i + 1); have := of_decide_eq_false h1; omega)
  refine rvc_un (rexec_idxS C rfl rfl rfl rfl rfl rfl (n.items.D[(rPlace n l i).toNat]!) (by have := rPlace_lt n l i; have := wrapI (rPlace n l i + 1); have := of_decide_eq_false h1; omega) h2 ?_)
  refine rvP C (.rp [.lit (.string (n.items.D[(rPlace n l i).toNat]!.b))]) ?_
  refine rvP C (.pv (.lit (.string (n.items.D[(rPlace n l i).toNat]!.b)))) ?_
  refine rvP C (.pv (.lit (.string (n.items.D[(rPlace n l i).toNat]!.b)))) ?_
  refine rvP C (.pv (.lit (.int .i64 0))) ?_
  refine rvc_nil ?_
  refine Awp.ret ?_
  subst hR
  exact ⟨.inl rfl, rfl, rfl⟩
end Go.Proofs.Ytpeeofofagfooaa
/- A row of one's own that is frozen where the code ends. -/
namespace Go.Am
open Go
/-- What a code leaves may be frozen afterwards. -/
theorem Awp.orFreeze {E : Env} {c : Code} {st : St} {Q : Exit → St → Prop} (h : Awp E c st fun e st' => Q e st' ∨ ∃ (b : Nat) (ps : List PV) (S' : List (Nat × AV)) (H' : List (Nat × Blk)), st'.H b = some (.cells (ps.map .pv)) ∧ FrzS st' b ps S' ∧ FrzH st' b ps H' ∧ Q e ⟨fun t => S'.lookup t, fun x => H'.lookup x, st'.U⟩) : Awp E c st Q :=
  fun a w hat => wp_mono (h a w hat) fun _ _ _ ⟨st', hq, hat'⟩ => by
    cases hq with
    | inl hq => exact ⟨st', hq, hat'⟩
    | inr hq =>
      obtain ⟨b, ps, S', H', hb, hS, hH, hq⟩ := hq
      exact ⟨_, hq, hat'.freezeW b ps hb S' H' hS hH⟩
end Go.Am
