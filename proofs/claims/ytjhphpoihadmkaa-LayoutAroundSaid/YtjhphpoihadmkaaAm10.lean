/- An abstract machine over the kit's calls, part 10: slices cut, lengths, slices made, slices as arrays. No conditions. -/
import Derived.Test.YtjhphpoihadmkaaAm9
namespace Go.Am

/-- The bounds of a slice expression: none, or a number. -/
def optI : List AV → Option Operand → Option (Option Int × List AV)
  | vs, none => some (none, vs)
  | v :: vs, some _ => match v with
    | .pv (.lit (.int _ i)) => some (some i, vs)
    | _ => none
  | [], some _ => none

/-- `x[l:h:m]`, of a length and a capacity as far as known: l, h, m, what must hold, is m given? -/
structure Cut where
  l : Int
  h : Int
  m : Int
  pre : Prop

def cutOf (n : Nat) (lo hi mx : Option Int) : Option Cut :=
  match lo, hi, mx with
  | lo, some h, some m => some ⟨lo.getD 0, h, m, 0 ≤ lo.getD 0 ∧ lo.getD 0 ≤ h ∧ h ≤ m ∧ m ≤ n⟩
  | lo, some h, none => some ⟨lo.getD 0, h, n, 0 ≤ lo.getD 0 ∧ lo.getD 0 ≤ h ∧ h ≤ n⟩
  | lo, none, none => some ⟨lo.getD 0, n, n, 0 ≤ lo.getD 0 ∧ lo.getD 0 ≤ n⟩
  | _, none, some _ => none

section ops
variable {E : Env} {T : Tab}

theorem opt_bound {ι : Nat → Option (Nat × Nat)} {imm : Nat → Prop} {w : World} {a : Act} {lo : Option Operand} {vs rest : List AV} {l : Option Int} {us : List Operand} (h : optI vs lo = some (l, rest)) (hv : VHs ι imm w vs ((lo.toList ++ us).map a.eval)) :
    VHs ι imm w rest (us.map a.eval) ∧ (lo = none ∧ l = none ∨ ∃ x k i, lo = some x ∧ l = some i ∧ a.eval x = .int k i) := by
  cases lo with
  | none => simp only [optI, Option.some.injEq, Prod.mk.injEq] at h; obtain ⟨rfl, rfl⟩ := h; exact ⟨by simpa using hv, .inl ⟨rfl, rfl⟩⟩
  | some x =>
    cases vs with
    | nil => simp [optI] at h
    | cons v vs =>
      simp only [optI] at h
      split at h
      · rename_i k i
        simp only [Option.some.injEq, Prod.mk.injEq] at h
        obtain ⟨rfl, rfl⟩ := h
        simp only [Option.toList_some, List.cons_append, List.nil_append, List.map_cons] at hv
        obtain ⟨v', us', he, h1, h2⟩ := hv
        simp only [List.cons.injEq] at he
        obtain ⟨rfl, rfl⟩ := he
        simp only [VH, PH] at h1
        exact ⟨h2, .inr ⟨x, k, i, rfl, rfl, h1.1⟩⟩
      · cases h

/-- A cut of what is sliced: what must hold, and what comes out. -/
def sliceAV (T : Tab) (d : TypeDesc) (H : Nat → Option Blk) (x : AV) (lo hi mx : Option Int) : Option (Prop × List (Nat × Blk) × AV) :=
  match d with
  | .array n e => match T.lookup e with
    | some r => match x with
      | .ptr b o => match H b with
        | some (.cells cs) => match cutOf n lo hi mx with
          | some c => some (c.pre ∧ o + n * r.size ≤ cs.length ∧ (c.l = 0 ∨ c.l < c.m), [(b, .cells cs)], .sl b (o + c.l.toNat * r.size) (c.h.toNat - c.l.toNat) r.size (decide (c.m = c.h)))
          | none => none
        | _ => none
      | .rp ps => match cutOf n lo hi mx with
        | some c => some (c.pre, [], .pv (.sl (some false) (c.h.toNat - c.l.toNat) ((ps.drop (c.l.toNat * r.size)).take ((c.h.toNat - c.l.toNat) * r.size))))
        | none => none
      | _ => none
    | none => none
  | .slice e => match T.lookup e with
    | some r => match x with
      | .pv (.sl f n ps) => match cutOf n lo hi mx with
        | some c => match mx with
          | none => some (c.pre, [], .pv (.sl f (c.h.toNat - c.l.toNat) ((ps.drop (c.l.toNat * r.size)).take ((c.h.toNat - c.l.toNat) * r.size))))
          | some _ => some (c.pre ∧ c.m = c.h, [], .tsl (c.h.toNat - c.l.toNat) ((ps.drop (c.l.toNat * r.size)).take ((c.h.toNat - c.l.toNat) * r.size)))
        | none => none
      | .tsl n ps => match cutOf n lo hi mx with
        | some c => some (c.pre ∧ c.m = c.h, [], .tsl (c.h.toNat - c.l.toNat) ((ps.drop (c.l.toNat * r.size)).take ((c.h.toNat - c.l.toNat) * r.size)))
        | none => none
      | .sl b o n s t => if s = r.size then match cutOf n lo hi mx with
          | some c => some (c.pre ∧ (c.l = 0 ∨ c.l < c.m), [], .sl b (o + c.l.toNat * s) (c.h.toNat - c.l.toNat) s (decide (c.m = c.h) && (mx.isSome || t)))
          | none => none
        else none
      | _ => none
    | none => none
  | .string => match x with
    | .pv (.lit (.string s)) => match mx, cutOf s.size lo hi mx with
      | none, some c => some (c.pre, [], .pv (.lit (.string (s.extract c.l.toNat c.h.toNat))))
      | _, _ => none
    | _ => none
  | _ => none

theorem cut_runs {P : Program} {w : World} {a : Act} {isSlice : Bool} {n cap : Nat} {lo hi mx : Option Operand} {l h m : Option Int} {c : Cut} (hc : cutOf n l h m = some c) (hp : c.pre) (hn : n ≤ cap)
    (hl : lo = none ∧ l = none ∨ ∃ x k i, lo = some x ∧ l = some i ∧ a.eval x = .int k i) (hh : hi = none ∧ h = none ∨ ∃ x k i, hi = some x ∧ h = some i ∧ a.eval x = .int k i) (hm : mx = none ∧ m = none ∨ ∃ x k i, mx = some x ∧ m = some i ∧ a.eval x = .int k i) :
    (Instr.sliceBounds isSlice n cap (lo.map a.eval) (hi.map a.eval) (mx.map a.eval)).run P w = .ok (c.l.toNat, c.h.toNat, (if m.isSome then c.m.toNat else cap)) w ∧ 0 ≤ c.l ∧ c.l ≤ c.h ∧ c.h ≤ c.m ∧ c.m ≤ n ∧ (m = none → c.m = n) := by
  have e1 : (lo.map a.eval = none ∧ l.getD 0 = 0) ∨ ∃ k, lo.map a.eval = some (.int k (l.getD 0)) := by
    rcases hl with ⟨rfl, rfl⟩ | ⟨x, k, i, rfl, rfl, e⟩
    · exact .inl ⟨rfl, rfl⟩
    · exact .inr ⟨k, by simp [e]⟩
  cases m with
  | none =>
    have em : mx.map a.eval = none := by
      rcases hm with ⟨rfl, _⟩ | ⟨x, k, i, _, e, _⟩
      · rfl
      · cases e
    cases h with
    | none =>
      have eh : hi.map a.eval = none := by
        rcases hh with ⟨rfl, _⟩ | ⟨x, k, i, _, e, _⟩
        · rfl
        · cases e
      simp only [cutOf, Option.some.injEq] at hc
      subst hc
      simp only at hp ⊢
      refine ⟨?_, hp.1, hp.2, Int.le_refl _, Int.le_refl _, fun _ => by trivial⟩
      rw [em, eh]
      have := run_sliceBounds (P := P) (w := w) (isSlice := isSlice) (len := n) (cap := cap) (lo := lo.map a.eval) (hi := none) (mx := none) (l := l.getD 0) (h := n) (m := cap) e1 (.inl ⟨rfl, rfl, rfl⟩) (.inl ⟨rfl, rfl⟩) hp.1 hp.2 (by omega) (Int.le_refl _)
      simpa using this
    | some h =>
      obtain ⟨k, eh⟩ : ∃ k, hi.map a.eval = some (.int k h) := by
        rcases hh with ⟨_, e⟩ | ⟨x, k, i, rfl, e, e'⟩
        · cases e
        · simp only [Option.some.injEq] at e; subst e; exact ⟨k, by simp [e']⟩
      simp only [cutOf, Option.some.injEq] at hc
      subst hc
      simp only at hp ⊢
      refine ⟨?_, hp.1, hp.2.1, hp.2.2, Int.le_refl _, fun _ => by trivial⟩
      rw [em, eh]
      have := run_sliceBounds (P := P) (w := w) (isSlice := isSlice) (len := n) (cap := cap) (lo := lo.map a.eval) (hi := some (.int k h)) (mx := none) (l := l.getD 0) (h := h) (m := cap) e1 (.inr ⟨k, rfl⟩) (.inl ⟨rfl, rfl⟩) hp.1 hp.2.1 (by omega) (Int.le_refl _)
      simpa using this
  | some m =>
    obtain ⟨k2, em⟩ : ∃ k, mx.map a.eval = some (.int k m) := by
      rcases hm with ⟨_, e⟩ | ⟨x, k, i, rfl, e, e'⟩
      · cases e
      · simp only [Option.some.injEq] at e; subst e; exact ⟨k, by simp [e']⟩
    cases h with
    | none => simp [cutOf] at hc
    | some h =>
      obtain ⟨k, eh⟩ : ∃ k, hi.map a.eval = some (.int k h) := by
        rcases hh with ⟨_, e⟩ | ⟨x, k, i, rfl, e, e'⟩
        · cases e
        · simp only [Option.some.injEq] at e; subst e; exact ⟨k, by simp [e']⟩
      simp only [cutOf, Option.some.injEq] at hc
      subst hc
      simp only at hp ⊢
      refine ⟨?_, hp.1, hp.2.1, hp.2.2.1, hp.2.2.2, fun e => by cases e⟩
      rw [em, eh]
      have := run_sliceBounds (P := P) (w := w) (isSlice := isSlice) (len := n) (cap := cap) (lo := lo.map a.eval) (hi := some (.int k h)) (mx := some (.int k2 m)) (l := l.getD 0) (h := h) (m := m) e1 (.inr ⟨k, rfl⟩) (.inr ⟨k2, rfl⟩) hp.1 hp.2.1 hp.2.2.1 (by omega)
      simpa using this

theorem PHs_cut {imm : Nat → Prop} {w : World} {ad : Addr} {ps : List PV} (h : ps ≠ [] → ad.spot = none ∧ imm ad.block ∧ PHs imm w ps ad.block ad.off) (k len : Nat) (z : Addr) (hz : z = ad.add k ∨ len = 0) :
    (ps.drop k).take len ≠ [] → z.spot = none ∧ imm z.block ∧ PHs imm w ((ps.drop k).take len) z.block z.off := by
  intro hne
  rcases hz with rfl | rfl
  · obtain ⟨h3, h4, h5⟩ := h (fun e => hne (by rw [e]; simp))
    rw [addr_eta h3, add_none]
    exact ⟨rfl, h4, h5.drop.take⟩
  · simp at hne

theorem cut_addr {A : Option Addr} {M l k : Nat} : ∃ A', (if M = l then A else A.map (·.add k)) = A' ∧ (A' = none ↔ A = none) ∧ ∀ a', A' = some a' → ∃ ad, A = some ad ∧ (a' = ad.add k ∨ M = l ∧ a' = ad) := by
  refine ⟨_, rfl, ?_, fun a' h => ?_⟩
  · split <;> simp
  · split at h
    · rename_i e; exact ⟨a', h, .inr ⟨e, rfl⟩⟩
    · cases A with
      | none => simp at h
      | some ad => simp only [Option.map_some, Option.some.injEq] at h; exact ⟨ad, rfl, .inl h.symm⟩

theorem does_slice (hT : TabOk E.P T) {o : Oper} {t : TypeId} {x : Operand} {lo hi mx : Option Operand} (ho : o.op = .slice t x lo hi mx) (hd : ∀ d, o.dst = some d → d < E.n) {r : TyRow} (hr : T.lookup t = some r) {H : Nat → Option Blk} {u : AV} {vs v1 v2 v3 : List AV} {l h m : Option Int}
    (h1 : optI vs lo = some (l, v1)) (h2 : optI v1 hi = some (h, v2)) (h3 : optI v2 mx = some (m, v3)) {p : Prop} {hs : List (Nat × Blk)} {z : AV} (hz : sliceAV T r.desc H u l h m = some (p, hs, z)) (hp : p) :
    Does E o (u :: vs) hs { v := z } := by
  refine Does.value hd fun ι imm st a w hsr hv hh => ?_
  rw [ho] at hv
  simp only [Op.operands, Array.toList_append, List.append_assoc] at hv
  have hv' : VHs ι imm w (u :: vs) (a.eval x :: (lo.toList ++ (hi.toList ++ (mx.toList ++ []))).map a.eval) := by
    simpa using hv
  obtain ⟨v', us', he, hu, hvs⟩ := hv'
  simp only [List.cons.injEq] at he
  obtain ⟨rfl, rfl⟩ := he
  obtain ⟨q1, hl⟩ := opt_bound h1 hvs
  obtain ⟨q2, hh'⟩ := opt_bound h2 q1
  obtain ⟨_, hm⟩ := opt_bound h3 q2
  unfold sliceAV at hz
  split at hz
  · -- an array's address
    rename_i n e hdesc
    split at hz
    · rename_i re hre
      split at hz
      · rename_i b o'
        split at hz
        · rename_i cs hcs
          split at hz
          · rename_i c hc
            simp only [Option.some.injEq, Prod.mk.injEq] at hz
            obtain ⟨rfl, rfl, rfl⟩ := hz
            obtain ⟨hp, hlen, hlm⟩ := hp
            obtain ⟨hrun, c1, c2, c3, c4, c5⟩ := cut_runs (P := E.P) (w := w) (isSlice := false) hc hp (Nat.le_refl n) hl hh' hm
            simp only [VH] at hu
            obtain ⟨q, z0, hi', he⟩ := hu
            obtain ⟨cc, ee, ff, g1, g2, _⟩ := hsr.heap.cells (hh _ (List.mem_cons_self ..)) hi'
            have hmm : (if m.isSome then c.m.toNat else n) = c.m.toNat := by
              cases m with
              | none => have := c5 rfl; simp; omega
              | some m => rfl
            refine ⟨.slice (some ⟨q, z0 + (o' + c.l.toNat * re.size), none⟩) (c.h.toNat - c.l.toNat) (c.m.toNat - c.l.toNat), ?_, ⟨q, z0, c.m.toNat - c.l.toNat, hi', rfl, by omega, fun ht => by have := of_decide_eq_true ht; omega, cc, ee, ff, g1, ?_⟩⟩
            · simp only [execOp, ho, he, Instr.sliceAt, Instr.sureAddr, run_bind', run_pure', run_underlying hT hr, hdesc, hrun, run_sizeOf hT hre, hmm]
              congr 3
              split
              · rename_i heq
                have : c.l.toNat = 0 := by omega
                rw [this]; simp
              · rw [add_none, Nat.add_assoc]
            · have : c.m.toNat - c.l.toNat + c.l.toNat ≤ n := by omega
              have h9 : (c.m.toNat - c.l.toNat) * re.size + c.l.toNat * re.size ≤ n * re.size := by rw [← Nat.add_mul]; exact Nat.mul_le_mul_right _ this
              omega
          · cases hz
        · cases hz
      · rename_i ps
        split at hz
        · rename_i c hc
          simp only [Option.some.injEq, Prod.mk.injEq] at hz
          obtain ⟨rfl, rfl, rfl⟩ := hz
          obtain ⟨hrun, c1, c2, c3, c4, c5⟩ := cut_runs (P := E.P) (w := w) (isSlice := false) hc hp (Nat.le_refl n) hl hh' hm
          simp only [VH] at hu
          obtain ⟨ad, he, hq⟩ := hu
          have hmm : (if m.isSome then c.m.toNat else n) = c.m.toNat := by
            cases m with
            | none => have := c5 rfl; simp; omega
            | some m => rfl
          refine ⟨.slice (some (if c.m.toNat = c.l.toNat then ad else ad.add (c.l.toNat * re.size))) (c.h.toNat - c.l.toNat) (c.m.toNat - c.l.toNat), ?_, ?_⟩
          · simp only [execOp, ho, he, Instr.sliceAt, Instr.sureAddr, run_bind', run_pure', run_underlying hT hr, hdesc, hrun, run_sizeOf hT hre, hmm]
          · simp only [VH, PH]
            refine ⟨_, _, rfl, by omega, fun h => by simp at h, fun _ h => by simp at h, fun h => by simp at h, fun a' ha' => ?_⟩
            simp only [Option.some.injEq] at ha'
            subst ha'
            refine PHs_cut hq _ _ _ ?_
            split
            · right; rename_i heq; have : c.h.toNat - c.l.toNat = 0 := by omega
              rw [this]; simp
            · exact .inl rfl
        · cases hz
      · cases hz
    · cases hz
  · -- a slice
    rename_i e hdesc
    split at hz
    · rename_i re hre
      have general : ∀ {A : Option Addr} {n cap : Nat} {c : Cut}, a.eval x = .slice A n cap → n ≤ cap → cutOf n l h m = some c → c.pre → (0 ≤ c.l ∧ c.l ≤ c.h ∧ c.h ≤ c.m ∧ c.m ≤ n ∧ (m = none → c.m = n)) ∧
          ∃ A' : Option Addr, (if (if m.isSome then c.m.toNat else cap) = c.l.toNat then A else A.map (·.add (c.l.toNat * re.size))) = A' ∧ (A' = none ↔ A = none) ∧ (∀ a', A' = some a' → ∃ ad, A = some ad ∧ (a' = ad.add (c.l.toNat * re.size) ∨ (if m.isSome then c.m.toNat else cap) = c.l.toNat ∧ a' = ad)) ∧ (execOp a.eval o).run E.P w = .ok (.value (.slice A' (c.h.toNat - c.l.toNat) ((if m.isSome then c.m.toNat else cap) - c.l.toNat))) w := by
        intro A n cap c he hn hc hp
        obtain ⟨hrun, hrest⟩ := cut_runs (P := E.P) (w := w) (isSlice := true) hc hp hn hl hh' hm
        obtain ⟨A', e1, e2, e3⟩ := cut_addr (A := A) (M := (if m.isSome then c.m.toNat else cap)) (l := c.l.toNat) (k := c.l.toNat * re.size)
        refine ⟨hrest, A', e1, e2, e3, ?_⟩
        simp only [execOp, ho, he, Instr.sliceAt, Instr.slice, run_bind', run_pure', run_underlying hT hr, hdesc, hrun, run_sizeOf hT hre, e1]
      split at hz
      · rename_i f n ps
        split at hz
        · rename_i c hc
          simp only [VH, PH] at hu
          obtain ⟨A, cap, he, hn, f1, f2, f3, f4⟩ := hu
          split at hz
          · simp only [Option.some.injEq, Prod.mk.injEq] at hz
            obtain ⟨rfl, rfl, rfl⟩ := hz
            obtain ⟨⟨c1, c2, c3, c4, c5⟩, A', _, e2, e3, hrun⟩ := general he hn hc hp
            simp only [Option.isSome_none, Bool.false_eq_true, if_false] at hrun e3
            have c6 := c5 rfl
            refine ⟨_, hrun, ?_⟩
            simp only [VH, PH]
            refine ⟨_, _, rfl, by omega, fun hf => e2.2 (f1 hf), fun hf hA => f2 hf (e2.1 hA), fun hA => ?_, fun a' ha' => ?_⟩
            · obtain ⟨k1, k2, k3⟩ := f3 (e2.1 hA)
              subst k3
              simp; omega
            · obtain ⟨ad, hA, hor⟩ := e3 a' ha'
              refine PHs_cut (fun hne => f4 ad hA hne) _ _ _ ?_
              rcases hor with hor | ⟨heq, _⟩
              · exact .inl hor
              · right
                have : c.h.toNat - c.l.toNat = 0 := by omega
                rw [this]; simp
          · rename_i m'
            simp only [Option.some.injEq, Prod.mk.injEq] at hz
            obtain ⟨rfl, rfl, rfl⟩ := hz
            obtain ⟨hp, hmh⟩ := hp
            obtain ⟨⟨c1, c2, c3, c4, c5⟩, A', _, e2, e3, hrun⟩ := general he hn hc hp
            simp only [Option.isSome_some, if_true] at hrun e3
            refine ⟨_, hrun, ?_⟩
            simp only [VH]
            refine ⟨_, by rw [hmh], fun hA => ?_, fun a' ha' => ?_⟩
            · obtain ⟨k1, k2, k3⟩ := f3 (e2.1 hA)
              subst k3
              simp; omega
            · obtain ⟨ad, hA, hor⟩ := e3 a' ha'
              refine PHs_cut (fun hne => f4 ad hA hne) _ _ _ ?_
              rcases hor with hor | ⟨heq, _⟩
              · exact .inl hor
              · right
                have : c.h.toNat - c.l.toNat = 0 := by omega
                rw [this]; simp
        · cases hz
      · rename_i n ps
        split at hz
        · rename_i c hc
          simp only [Option.some.injEq, Prod.mk.injEq] at hz
          obtain ⟨rfl, rfl, rfl⟩ := hz
          obtain ⟨hp, hmh⟩ := hp
          simp only [VH] at hu
          obtain ⟨A, he, f3, f4⟩ := hu
          obtain ⟨⟨c1, c2, c3, c4, c5⟩, A', _, e2, e3, hrun⟩ := general he (Nat.le_refl n) hc hp
          have hmm : (if m.isSome then c.m.toNat else n) = c.m.toNat := by
            cases m with
            | none => have := c5 rfl; simp; omega
            | some m => rfl
          rw [hmm] at hrun e3
          refine ⟨_, hrun, ?_⟩
          simp only [VH]
          refine ⟨_, by rw [hmh], fun hA => ?_, fun a' ha' => ?_⟩
          · obtain ⟨k1, k3⟩ := f3 (e2.1 hA)
            subst k3
            simp; omega
          · obtain ⟨ad, hA, hor⟩ := e3 a' ha'
            refine PHs_cut (fun hne => f4 ad hA hne) _ _ _ ?_
            rcases hor with hor | ⟨heq, _⟩
            · exact .inl hor
            · right
              have : c.h.toNat - c.l.toNat = 0 := by omega
              rw [this]; simp
        · cases hz
      · rename_i b o' n s t'
        split at hz
        · rename_i hse
          subst hse
          split at hz
          · rename_i c hc
            simp only [Option.some.injEq, Prod.mk.injEq] at hz
            obtain ⟨rfl, rfl, rfl⟩ := hz
            obtain ⟨hp, hlm⟩ := hp
            simp only [VH] at hu
            obtain ⟨q, z0, cap, hi', he, hn, ht, cc, ee, ff, g1, g2⟩ := hu
            obtain ⟨⟨c1, c2, c3, c4, c5⟩, A', e1, _, _, hrun⟩ := general he hn hc hp
            rw [← e1] at hrun
            have hle : (if m.isSome then c.m.toNat else cap) ≤ cap := by cases m <;> simp; omega
            have hge : c.m.toNat ≤ (if m.isSome then c.m.toNat else cap) := by cases m <;> simp; omega
            generalize hM : (if m.isSome then c.m.toNat else cap) = M at hrun hle hge
            have haddr : (if M = c.l.toNat then (some (⟨q, z0 + o', none⟩ : Addr)) else (some (⟨q, z0 + o', none⟩ : Addr)).map (·.add (c.l.toNat * re.size))) = some ⟨q, z0 + (o' + c.l.toNat * re.size), none⟩ := by
              split
              · have : c.l.toNat = 0 := by omega
                rw [this]; simp
              · simp only [Option.map_some, add_none, Nat.add_assoc]
            rw [haddr] at hrun
            refine ⟨_, hrun, ⟨q, z0, M - c.l.toNat, hi', rfl, by omega, fun h9 => ?_, cc, ee, ff, g1, ?_⟩⟩
            · simp only [Bool.and_eq_true, decide_eq_true_eq, Bool.or_eq_true] at h9
              rcases h9.2 with h8 | h8
              · rw [h8] at hM; simp at hM; omega
              · have := ht h8
                cases m with
                | none => have := c5 rfl; simp at hM; omega
                | some m => simp at hM; omega
            · have : M - c.l.toNat + c.l.toNat ≤ cap := by omega
              have h9 : (M - c.l.toNat) * re.size + c.l.toNat * re.size ≤ cap * re.size := by rw [← Nat.add_mul]; exact Nat.mul_le_mul_right _ this
              omega
          · cases hz
        · cases hz
      · cases hz
    · cases hz
  · -- a string
    rename_i hdesc
    split at hz
    · rename_i s
      split at hz
      · rename_i c hc
        simp only [Option.some.injEq, Prod.mk.injEq] at hz
        obtain ⟨rfl, rfl, rfl⟩ := hz
        simp only [VH, PH] at hu
        obtain ⟨hrun, c1, c2, c3, c4, c5⟩ := cut_runs (P := E.P) (w := w) (isSlice := false) hc hp (Nat.le_refl s.size) hl hh' hm
        have hmx : mx = none := by
          rcases hm with ⟨e, _⟩ | ⟨_, _, _, _, e, _⟩
          · exact e
          · cases e
        subst hmx
        refine ⟨.string (s.extract c.l.toNat c.h.toNat), ?_, by simp [VH, PH, flatB]⟩
        simp only [Option.map_none, Option.isSome_none, Bool.false_eq_true, if_false] at hrun
        simp only [execOp, ho, hu.1, Instr.sliceAt, Instr.slice, run_bind', run_pure', run_underlying hT hr, hdesc, Option.map_none, Option.isSome_none, Bool.false_eq_true, if_false, hrun]
      · cases hz
    · cases hz
  · cases hz
end ops
end Go.Am
