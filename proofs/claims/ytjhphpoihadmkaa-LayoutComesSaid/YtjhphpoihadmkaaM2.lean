import Derived.Test.YtjhphpoihadmkaaM1
import Derived.Laws.StructEq
import Derived.ChangeKeysEq
import Derived.Deep.LoopGhost
import Derived.LoopN
import Derived.Test.YtjhphpoihadmkaaProg
import Derived.KernelRfl
/- An abstract machine over the kit's calls, part 10: slices cut, lengths, slices made, slices as arrays. No conditions. -/
namespace Go.Am

/-- The bounds of a slice expression: none, or a number. -/
def optI : List AV → Option Operand → Option (Option Int × List AV)
  | vs, none => some (none, vs)
  | v :: vs, some _ => match v with
    | .pv (.lit (.int _ i)) => some (some i, vs)
    | _ => none
  | [], some _ => none

/-- `x[l:h:m]`, of a length and a capacity as far as known: l, h, m, what must hold, is m given? -/
structure Cut where
  l : Int
  h : Int
  m : Int
  pre : Prop

def cutOf (n : Nat) (lo hi mx : Option Int) : Option Cut :=
  match lo, hi, mx with
  | lo, some h, some m => some ⟨lo.getD 0, h, m, 0 ≤ lo.getD 0 ∧ lo.getD 0 ≤ h ∧ h ≤ m ∧ m ≤ n⟩
  | lo, some h, none => some ⟨lo.getD 0, h, n, 0 ≤ lo.getD 0 ∧ lo.getD 0 ≤ h ∧ h ≤ n⟩
  | lo, none, none => some ⟨lo.getD 0, n, n, 0 ≤ lo.getD 0 ∧ lo.getD 0 ≤ n⟩
  | _, none, some _ => none

section ops
variable {E : Env} {T : Tab}

theorem opt_bound {ι : Nat → Option (Nat × Nat)} {imm : Nat → Prop} {w : World} {a : Act} {lo : Option Operand} {vs rest : List AV} {l : Option Int} {us : List Operand} (h : optI vs lo = some (l, rest)) (hv : VHs ι imm w vs ((lo.toList ++ us).map a.eval)) :
    VHs ι imm w rest (us.map a.eval) ∧ (lo = none ∧ l = none ∨ ∃ x k i, lo = some x ∧ l = some i ∧ a.eval x = .int k i) := by
  cases lo with
  | none => simp only [optI, Option.some.injEq, Prod.mk.injEq] at h; obtain ⟨rfl, rfl⟩ := h; exact ⟨by simpa using hv, .inl ⟨rfl, rfl⟩⟩
  | some x =>
    cases vs with
    | nil => simp [optI] at h
    | cons v vs =>
      simp only [optI] at h
      split at h
      · rename_i k i
        simp only [Option.some.injEq, Prod.mk.injEq] at h
        obtain ⟨rfl, rfl⟩ := h
        simp only [Option.toList_some, List.cons_append, List.nil_append, List.map_cons] at hv
        obtain ⟨v', us', he, h1, h2⟩ := hv
        simp only [List.cons.injEq] at he
        obtain ⟨rfl, rfl⟩ := he
        simp only [VH, PH] at h1
        exact ⟨h2, .inr ⟨x, k, i, rfl, rfl, h1.1⟩⟩
      · cases h

/-- A cut of what is sliced: what must hold, and what comes out. -/
def sliceAV (T : Tab) (d : TypeDesc) (H : Nat → Option Blk) (x : AV) (lo hi mx : Option Int) : Option (Prop × List (Nat × Blk) × AV) :=
  match d with
  | .array n e => match T.lookup e with
    | some r => match x with
      | .ptr b o => match H b with
        | some (.cells cs) => match cutOf n lo hi mx with
          | some c => some (c.pre ∧ o + n * r.size ≤ cs.length ∧ (c.l = 0 ∨ c.l < c.m), [(b, .cells cs)], .sl b (o + c.l.toNat * r.size) (c.h.toNat - c.l.toNat) r.size (decide (c.m = c.h)))
          | none => none
        | _ => none
      | .rp ps => match cutOf n lo hi mx with
        | some c => some (c.pre, [], .pv (.sl (some false) (c.h.toNat - c.l.toNat) ((ps.drop (c.l.toNat * r.size)).take ((c.h.toNat - c.l.toNat) * r.size))))
        | none => none
      | _ => none
    | none => none
  | .slice e => match T.lookup e with
    | some r => match x with
      | .pv (.sl f n ps) => match cutOf n lo hi mx with
        | some c => match mx with
          | none => some (c.pre, [], .pv (.sl f (c.h.toNat - c.l.toNat) ((ps.drop (c.l.toNat * r.size)).take ((c.h.toNat - c.l.toNat) * r.size))))
          | some _ => some (c.pre ∧ c.m = c.h, [], .tsl (c.h.toNat - c.l.toNat) ((ps.drop (c.l.toNat * r.size)).take ((c.h.toNat - c.l.toNat) * r.size)))
        | none => none
      | .tsl n ps => match cutOf n lo hi mx with
        | some c => some (c.pre ∧ c.m = c.h, [], .tsl (c.h.toNat - c.l.toNat) ((ps.drop (c.l.toNat * r.size)).take ((c.h.toNat - c.l.toNat) * r.size)))
        | none => none
      | .sl b o n s t => if s = r.size then match cutOf n lo hi mx with
          | some c => some (c.pre ∧ (c.l = 0 ∨ c.l < c.m), [], .sl b (o + c.l.toNat * s) (c.h.toNat - c.l.toNat) s (decide (c.m = c.h) && (mx.isSome || t)))
          | none => none
        else none
      | _ => none
    | none => none
  | .string => match x with
    | .pv (.lit (.string s)) => match mx, cutOf s.size lo hi mx with
      | none, some c => some (c.pre, [], .pv (.lit (.string (s.extract c.l.toNat c.h.toNat))))
      | _, _ => none
    | _ => none
  | _ => none

theorem cut_runs {P : Program} {w : World} {a : Act} {isSlice : Bool} {n cap : Nat} {lo hi mx : Option Operand} {l h m : Option Int} {c : Cut} (hc : cutOf n l h m = some c) (hp : c.pre) (hn : n ≤ cap)
    (hl : lo = none ∧ l = none ∨ ∃ x k i, lo = some x ∧ l = some i ∧ a.eval x = .int k i) (hh : hi = none ∧ h = none ∨ ∃ x k i, hi = some x ∧ h = some i ∧ a.eval x = .int k i) (hm : mx = none ∧ m = none ∨ ∃ x k i, mx = some x ∧ m = some i ∧ a.eval x = .int k i) :
    (Instr.sliceBounds isSlice n cap (lo.map a.eval) (hi.map a.eval) (mx.map a.eval)).run P w = .ok (c.l.toNat, c.h.toNat, (if m.isSome then c.m.toNat else cap)) w ∧ 0 ≤ c.l ∧ c.l ≤ c.h ∧ c.h ≤ c.m ∧ c.m ≤ n ∧ (m = none → c.m = n) := by
  have e1 : (lo.map a.eval = none ∧ l.getD 0 = 0) ∨ ∃ k, lo.map a.eval = some (.int k (l.getD 0)) := by
    rcases hl with ⟨rfl, rfl⟩ | ⟨x, k, i, rfl, rfl, e⟩
    · exact .inl ⟨rfl, rfl⟩
    · exact .inr ⟨k, by simp [e]⟩
  cases m with
  | none =>
    have em : mx.map a.eval = none := by
      rcases hm with ⟨rfl, _⟩ | ⟨x, k, i, _, e, _⟩
      · rfl
      · cases e
    cases h with
    | none =>
      have eh : hi.map a.eval = none := by
        rcases hh with ⟨rfl, _⟩ | ⟨x, k, i, _, e, _⟩
        · rfl
        · cases e
      simp only [cutOf, Option.some.injEq] at hc
      subst hc
      simp only at hp ⊢
      refine ⟨?_, hp.1, hp.2, Int.le_refl _, Int.le_refl _, fun _ => by trivial⟩
      rw [em, eh]
      have := run_sliceBounds (P := P) (w := w) (isSlice := isSlice) (len := n) (cap := cap) (lo := lo.map a.eval) (hi := none) (mx := none) (l := l.getD 0) (h := n) (m := cap) e1 (.inl ⟨rfl, rfl, rfl⟩) (.inl ⟨rfl, rfl⟩) hp.1 hp.2 (by omega) (Int.le_refl _)
      simpa using this
    | some h =>
      obtain ⟨k, eh⟩ : ∃ k, hi.map a.eval = some (.int k h) := by
        rcases hh with ⟨_, e⟩ | ⟨x, k, i, rfl, e, e'⟩
        · cases e
        · simp only [Option.some.injEq] at e; subst e; exact ⟨k, by simp [e']⟩
      simp only [cutOf, Option.some.injEq] at hc
      subst hc
      simp only at hp ⊢
      refine ⟨?_, hp.1, hp.2.1, hp.2.2, Int.le_refl _, fun _ => by trivial⟩
      rw [em, eh]
      have := run_sliceBounds (P := P) (w := w) (isSlice := isSlice) (len := n) (cap := cap) (lo := lo.map a.eval) (hi := some (.int k h)) (mx := none) (l := l.getD 0) (h := h) (m := cap) e1 (.inr ⟨k, rfl⟩) (.inl ⟨rfl, rfl⟩) hp.1 hp.2.1 (by omega) (Int.le_refl _)
      simpa using this
  | some m =>
    obtain ⟨k2, em⟩ : ∃ k, mx.map a.eval = some (.int k m) := by
      rcases hm with ⟨_, e⟩ | ⟨x, k, i, rfl, e, e'⟩
      · cases e
      · simp only [Option.some.injEq] at e; subst e; exact ⟨k, by simp [e']⟩
    cases h with
    | none => simp [cutOf] at hc
    | some h =>
      obtain ⟨k, eh⟩ : ∃ k, hi.map a.eval = some (.int k h) := by
        rcases hh with ⟨_, e⟩ | ⟨x, k, i, rfl, e, e'⟩
        · cases e
        · simp only [Option.some.injEq] at e; subst e; exact ⟨k, by simp [e']⟩
      simp only [cutOf, Option.some.injEq] at hc
      subst hc
      simp only at hp ⊢
      refine ⟨?_, hp.1, hp.2.1, hp.2.2.1, hp.2.2.2, fun e => by cases e⟩
      rw [em, eh]
      have := run_sliceBounds (P := P) (w := w) (isSlice := isSlice) (len := n) (cap := cap) (lo := lo.map a.eval) (hi := some (.int k h)) (mx := some (.int k2 m)) (l := l.getD 0) (h := h) (m := m) e1 (.inr ⟨k, rfl⟩) (.inr ⟨k2, rfl⟩) hp.1 hp.2.1 hp.2.2.1 (by omega)
      simpa using this

theorem PHs_cut {imm : Nat → Prop} {w : World} {ad : Addr} {ps : List PV} (h : ps ≠ [] → ad.spot = none ∧ imm ad.block ∧ PHs imm w ps ad.block ad.off) (k len : Nat) (z : Addr) (hz : z = ad.add k ∨ len = 0) :
    (ps.drop k).take len ≠ [] → z.spot = none ∧ imm z.block ∧ PHs imm w ((ps.drop k).take len) z.block z.off := by
  intro hne
  rcases hz with rfl | rfl
  · obtain ⟨h3, h4, h5⟩ := h (fun e => hne (by rw [e]; simp))
    rw [addr_eta h3, add_none]
    exact ⟨rfl, h4, h5.drop.take⟩
  · simp at hne

theorem cut_addr {A : Option Addr} {M l k : Nat} : ∃ A', (if M = l then A else A.map (·.add k)) = A' ∧ (A' = none ↔ A = none) ∧ ∀ a', A' = some a' → ∃ ad, A = some ad ∧ (a' = ad.add k ∨ M = l ∧ a' = ad) := by
  refine ⟨_, rfl, ?_, fun a' h => ?_⟩
  · split <;> simp
  · split at h
    · rename_i e; exact ⟨a', h, .inr ⟨e, rfl⟩⟩
    · cases A with
      | none => simp at h
      | some ad => simp only [Option.map_some, Option.some.injEq] at h; exact ⟨ad, rfl, .inl h.symm⟩

theorem does_slice (hT : TabOk E.P T) {o : Oper} {t : TypeId} {x : Operand} {lo hi mx : Option Operand} (ho : o.op = .slice t x lo hi mx) (hd : ∀ d, o.dst = some d → d < E.n) {r : TyRow} (hr : T.lookup t = some r) {H : Nat → Option Blk} {u : AV} {vs v1 v2 v3 : List AV} {l h m : Option Int}
    (h1 : optI vs lo = some (l, v1)) (h2 : optI v1 hi = some (h, v2)) (h3 : optI v2 mx = some (m, v3)) {p : Prop} {hs : List (Nat × Blk)} {z : AV} (hz : sliceAV T r.desc H u l h m = some (p, hs, z)) (hp : p) :
    Does E o (u :: vs) hs { v := z } := by
  refine Does.value hd fun ι imm st a w hsr hv hh => ?_
  rw [ho] at hv
  simp only [Op.operands, Array.toList_append, List.append_assoc] at hv
  have hv' : VHs ι imm w (u :: vs) (a.eval x :: (lo.toList ++ (hi.toList ++ (mx.toList ++ []))).map a.eval) := by
    simpa using hv
  obtain ⟨v', us', he, hu, hvs⟩ := hv'
  simp only [List.cons.injEq] at he
  obtain ⟨rfl, rfl⟩ := he
  obtain ⟨q1, hl⟩ := opt_bound h1 hvs
  obtain ⟨q2, hh'⟩ := opt_bound h2 q1
  obtain ⟨_, hm⟩ := opt_bound h3 q2
  unfold sliceAV at hz
  split at hz
  · -- an array's address
    rename_i n e hdesc
    split at hz
    · rename_i re hre
      split at hz
      · rename_i b o'
        split at hz
        · rename_i cs hcs
          split at hz
          · rename_i c hc
            simp only [Option.some.injEq, Prod.mk.injEq] at hz
            obtain ⟨rfl, rfl, rfl⟩ := hz
            obtain ⟨hp, hlen, hlm⟩ := hp
            obtain ⟨hrun, c1, c2, c3, c4, c5⟩ := cut_runs (P := E.P) (w := w) (isSlice := false) hc hp (Nat.le_refl n) hl hh' hm
            simp only [VH] at hu
            obtain ⟨q, z0, hi', he⟩ := hu
            obtain ⟨cc, ee, ff, g1, g2, _⟩ := hsr.heap.cells (hh _ (List.mem_cons_self ..)) hi'
            have hmm : (if m.isSome then c.m.toNat else n) = c.m.toNat := by
              cases m with
              | none => have := c5 rfl; simp; omega
              | some m => rfl
            refine ⟨.slice (some ⟨q, z0 + (o' + c.l.toNat * re.size), none⟩) (c.h.toNat - c.l.toNat) (c.m.toNat - c.l.toNat), ?_, ⟨q, z0, c.m.toNat - c.l.toNat, hi', rfl, by omega, fun ht => by have := of_decide_eq_true ht; omega, cc, ee, ff, g1, ?_⟩⟩
            · simp only [execOp, ho, he, Instr.sliceAt, Instr.sureAddr, run_bind', run_pure', run_underlying hT hr, hdesc, hrun, run_sizeOf hT hre, hmm]
              congr 3
              split
              · rename_i heq
                have : c.l.toNat = 0 := by omega
                rw [this]; simp
              · rw [add_none, Nat.add_assoc]
            · have : c.m.toNat - c.l.toNat + c.l.toNat ≤ n := by omega
              have h9 : (c.m.toNat - c.l.toNat) * re.size + c.l.toNat * re.size ≤ n * re.size := by rw [← Nat.add_mul]; exact Nat.mul_le_mul_right _ this
              omega
          · cases hz
        · cases hz
      · rename_i ps
        split at hz
        · rename_i c hc
          simp only [Option.some.injEq, Prod.mk.injEq] at hz
          obtain ⟨rfl, rfl, rfl⟩ := hz
          obtain ⟨hrun, c1, c2, c3, c4, c5⟩ := cut_runs (P := E.P) (w := w) (isSlice := false) hc hp (Nat.le_refl n) hl hh' hm
          simp only [VH] at hu
          obtain ⟨ad, he, hq⟩ := hu
          have hmm : (if m.isSome then c.m.toNat else n) = c.m.toNat := by
            cases m with
            | none => have := c5 rfl; simp; omega
            | some m => rfl
          refine ⟨.slice (some (if c.m.toNat = c.l.toNat then ad else ad.add (c.l.toNat * re.size))) (c.h.toNat - c.l.toNat) (c.m.toNat - c.l.toNat), ?_, ?_⟩
          · simp only [execOp, ho, he, Instr.sliceAt, Instr.sureAddr, run_bind', run_pure', run_underlying hT hr, hdesc, hrun, run_sizeOf hT hre, hmm]
          · simp only [VH, PH]
            refine ⟨_, _, rfl, by omega, fun h => by simp at h, fun _ h => by simp at h, fun h => by simp at h, fun a' ha' => ?_⟩
            simp only [Option.some.injEq] at ha'
            subst ha'
            refine PHs_cut hq _ _ _ ?_
            split
            · right; rename_i heq; have : c.h.toNat - c.l.toNat = 0 := by omega
              rw [this]; simp
            · exact .inl rfl
        · cases hz
      · cases hz
    · cases hz
  · -- a slice
    rename_i e hdesc
    split at hz
    · rename_i re hre
      have general : ∀ {A : Option Addr} {n cap : Nat} {c : Cut}, a.eval x = .slice A n cap → n ≤ cap → cutOf n l h m = some c → c.pre → (0 ≤ c.l ∧ c.l ≤ c.h ∧ c.h ≤ c.m ∧ c.m ≤ n ∧ (m = none → c.m = n)) ∧
          ∃ A' : Option Addr, (if (if m.isSome then c.m.toNat else cap) = c.l.toNat then A else A.map (·.add (c.l.toNat * re.size))) = A' ∧ (A' = none ↔ A = none) ∧ (∀ a', A' = some a' → ∃ ad, A = some ad ∧ (a' = ad.add (c.l.toNat * re.size) ∨ (if m.isSome then c.m.toNat else cap) = c.l.toNat ∧ a' = ad)) ∧ (execOp a.eval o).run E.P w = .ok (.value (.slice A' (c.h.toNat - c.l.toNat) ((if m.isSome then c.m.toNat else cap) - c.l.toNat))) w := by
        intro A n cap c he hn hc hp
        obtain ⟨hrun, hrest⟩ := cut_runs (P := E.P) (w := w) (isSlice := true) hc hp hn hl hh' hm
        obtain ⟨A', e1, e2, e3⟩ := cut_addr (A := A) (M := (if m.isSome then c.m.toNat else cap)) (l := c.l.toNat) (k := c.l.toNat * re.size)
        refine ⟨hrest, A', e1, e2, e3, ?_⟩
        simp only [execOp, ho, he, Instr.sliceAt, Instr.slice, run_bind', run_pure', run_underlying hT hr, hdesc, hrun, run_sizeOf hT hre, e1]
      split at hz
      · rename_i f n ps
        split at hz
        · rename_i c hc
          simp only [VH, PH] at hu
          obtain ⟨A, cap, he, hn, f1, f2, f3, f4⟩ := hu
          split at hz
          · simp only [Option.some.injEq, Prod.mk.injEq] at hz
            obtain ⟨rfl, rfl, rfl⟩ := hz
            obtain ⟨⟨c1, c2, c3, c4, c5⟩, A', _, e2, e3, hrun⟩ := general he hn hc hp
            simp only [Option.isSome_none, Bool.false_eq_true, if_false] at hrun e3
            have c6 := c5 rfl
            refine ⟨_, hrun, ?_⟩
            simp only [VH, PH]
            refine ⟨_, _, rfl, by omega, fun hf => e2.2 (f1 hf), fun hf hA => f2 hf (e2.1 hA), fun hA => ?_, fun a' ha' => ?_⟩
            · obtain ⟨k1, k2, k3⟩ := f3 (e2.1 hA)
              subst k3
              simp; omega
            · obtain ⟨ad, hA, hor⟩ := e3 a' ha'
              refine PHs_cut (fun hne => f4 ad hA hne) _ _ _ ?_
              rcases hor with hor | ⟨heq, _⟩
              · exact .inl hor
              · right
                have : c.h.toNat - c.l.toNat = 0 := by omega
                rw [this]; simp
          · rename_i m'
            simp only [Option.some.injEq, Prod.mk.injEq] at hz
            obtain ⟨rfl, rfl, rfl⟩ := hz
            obtain ⟨hp, hmh⟩ := hp
            obtain ⟨⟨c1, c2, c3, c4, c5⟩, A', _, e2, e3, hrun⟩ := general he hn hc hp
            simp only [Option.isSome_some, if_true] at hrun e3
            refine ⟨_, hrun, ?_⟩
            simp only [VH]
            refine ⟨_, by rw [hmh], fun hA => ?_, fun a' ha' => ?_⟩
            · obtain ⟨k1, k2, k3⟩ := f3 (e2.1 hA)
              subst k3
              simp; omega
            · obtain ⟨ad, hA, hor⟩ := e3 a' ha'
              refine PHs_cut (fun hne => f4 ad hA hne) _ _ _ ?_
              rcases hor with hor | ⟨heq, _⟩
              · exact .inl hor
              · right
                have : c.h.toNat - c.l.toNat = 0 := by omega
                rw [this]; simp
        · cases hz
      · rename_i n ps
        split at hz
        · rename_i c hc
          simp only [Option.some.injEq, Prod.mk.injEq] at hz
          obtain ⟨rfl, rfl, rfl⟩ := hz
          obtain ⟨hp, hmh⟩ := hp
          simp only [VH] at hu
          obtain ⟨A, he, f3, f4⟩ := hu
          obtain ⟨⟨c1, c2, c3, c4, c5⟩, A', _, e2, e3, hrun⟩ := general he (Nat.le_refl n) hc hp
          have hmm : (if m.isSome then c.m.toNat else n) = c.m.toNat := by
            cases m with
            | none => have := c5 rfl; simp; omega
            | some m => rfl
          rw [hmm] at hrun e3
          refine ⟨_, hrun, ?_⟩
          simp only [VH]
          refine ⟨_, by rw [hmh], fun hA => ?_, fun a' ha' => ?_⟩
          · obtain ⟨k1, k3⟩ := f3 (e2.1 hA)
            subst k3
            simp; omega
          · obtain ⟨ad, hA, hor⟩ := e3 a' ha'
            refine PHs_cut (fun hne => f4 ad hA hne) _ _ _ ?_
            rcases hor with hor | ⟨heq, _⟩
            · exact .inl hor
            · right
              have : c.h.toNat - c.l.toNat = 0 := by omega
              rw [this]; simp
        · cases hz
      · rename_i b o' n s t'
        split at hz
        · rename_i hse
          subst hse
          split at hz
          · rename_i c hc
            simp only [Option.some.injEq, Prod.mk.injEq] at hz
            obtain ⟨rfl, rfl, rfl⟩ := hz
            obtain ⟨hp, hlm⟩ := hp
            simp only [VH] at hu
            obtain ⟨q, z0, cap, hi', he, hn, ht, cc, ee, ff, g1, g2⟩ := hu
            obtain ⟨⟨c1, c2, c3, c4, c5⟩, A', e1, _, _, hrun⟩ := general he hn hc hp
            rw [← e1] at hrun
            have hle : (if m.isSome then c.m.toNat else cap) ≤ cap := by cases m <;> simp; omega
            have hge : c.m.toNat ≤ (if m.isSome then c.m.toNat else cap) := by cases m <;> simp; omega
            generalize hM : (if m.isSome then c.m.toNat else cap) = M at hrun hle hge
            have haddr : (if M = c.l.toNat then (some (⟨q, z0 + o', none⟩ : Addr)) else (some (⟨q, z0 + o', none⟩ : Addr)).map (·.add (c.l.toNat * re.size))) = some ⟨q, z0 + (o' + c.l.toNat * re.size), none⟩ := by
              split
              · have : c.l.toNat = 0 := by omega
                rw [this]; simp
              · simp only [Option.map_some, add_none, Nat.add_assoc]
            rw [haddr] at hrun
            refine ⟨_, hrun, ⟨q, z0, M - c.l.toNat, hi', rfl, by omega, fun h9 => ?_, cc, ee, ff, g1, ?_⟩⟩
            · simp only [Bool.and_eq_true, decide_eq_true_eq, Bool.or_eq_true] at h9
              rcases h9.2 with h8 | h8
              · rw [h8] at hM; simp at hM; omega
              · have := ht h8
                cases m with
                | none => have := c5 rfl; simp at hM; omega
                | some m => simp at hM; omega
            · have : M - c.l.toNat + c.l.toNat ≤ cap := by omega
              have h9 : (M - c.l.toNat) * re.size + c.l.toNat * re.size ≤ cap * re.size := by rw [← Nat.add_mul]; exact Nat.mul_le_mul_right _ this
              omega
          · cases hz
        · cases hz
      · cases hz
    · cases hz
  · -- a string
    rename_i hdesc
    split at hz
    · rename_i s
      split at hz
      · rename_i c hc
        simp only [Option.some.injEq, Prod.mk.injEq] at hz
        obtain ⟨rfl, rfl, rfl⟩ := hz
        simp only [VH, PH] at hu
        obtain ⟨hrun, c1, c2, c3, c4, c5⟩ := cut_runs (P := E.P) (w := w) (isSlice := false) hc hp (Nat.le_refl s.size) hl hh' hm
        have hmx : mx = none := by
          rcases hm with ⟨e, _⟩ | ⟨_, _, _, _, e, _⟩
          · exact e
          · cases e
        subst hmx
        refine ⟨.string (s.extract c.l.toNat c.h.toNat), ?_, by simp [VH, PH, flatB]⟩
        simp only [Option.map_none, Option.isSome_none, Bool.false_eq_true, if_false] at hrun
        simp only [execOp, ho, hu.1, Instr.sliceAt, Instr.slice, run_bind', run_pure', run_underlying hT hr, hdesc, Option.map_none, Option.isSome_none, Bool.false_eq_true, if_false, hrun]
      · cases hz
    · cases hz
  · cases hz
end ops
end Go.Am

/- An abstract machine over the kit's calls, part B: parts of aggregates by value, slices as arrays, slices made, aggregates compared, slices held against nil. No conditions. -/
namespace Go.Am

/-- A part of an aggregate's cells. -/
def partV (r : TyRow) (cs : List AV) (off : Nat) : Option AV :=
  if isAggD r.desc then (if off + r.size ≤ cs.length then some (.agg ((cs.drop off).take r.size)) else none) else (cs.drop off).head?

section ops
variable {E : Env} {T : Tab}

theorem VHs.drop {ι : Nat → Option (Nat × Nat)} {imm : Nat → Prop} {w : World} : ∀ {k : Nat} {xs : List AV} {us : List Value}, VHs ι imm w xs us → VHs ι imm w (xs.drop k) (us.drop k)
  | 0, _, _, h => h
  | k + 1, [], us, h => by simp only [VHs] at h; subst h; simp [VHs]
  | k + 1, x :: xs, us, h => by obtain ⟨v, us', rfl, _, q2⟩ := h; exact VHs.drop (k := k) q2
theorem VHs.take {ι : Nat → Option (Nat × Nat)} {imm : Nat → Prop} {w : World} : ∀ {k : Nat} {xs : List AV} {us : List Value}, VHs ι imm w xs us → VHs ι imm w (xs.take k) (us.take k)
  | 0, _, _, _ => by simp [VHs]
  | k + 1, [], us, h => by simp only [VHs] at h; subst h; simp [VHs]
  | k + 1, x :: xs, us, h => by obtain ⟨v, us', rfl, q1, q2⟩ := h; exact ⟨v, us'.take k, rfl, q1, VHs.take q2⟩

theorem run_part {P : Program} (hT : TabOk P T) {t : TypeId} {r : TyRow} (hr : T.lookup t = some r) {ι : Nat → Option (Nat × Nat)} {imm : Nat → Prop} {w : World} {cs : List AV} {us : List Value} (h : VHs ι imm w cs us) {off : Nat} {z : AV} (hz : partV r cs off = some z) :
    ∃ u, (part t (List.toArray us) off).run P w = .ok u w ∧ VH ι imm w z u := by
  unfold partV at hz
  simp only [part, run_bind', run_isAgg hT hr]
  cases hb : isAggD r.desc with
  | true =>
    simp only [hb, if_true] at hz
    split at hz
    · simp only [Option.some.injEq] at hz
      subst hz
      refine ⟨.agg ((List.toArray us).extract off (off + r.size)), by simp only [if_true, run_bind', run_sizeOf hT hr, run_pure'], ⟨(us.drop off).take r.size, ?_, h.drop.take⟩⟩
      congr 1
      apply Array.ext'
      simp [List.extract_eq_take_drop]
    · cases hz
  | false =>
    simp only [hb, Bool.false_eq_true, if_false] at hz
    have hd := h.drop (k := off)
    cases hcs : cs.drop off with
    | nil => rw [hcs] at hz; cases hz
    | cons y ys =>
      rw [hcs] at hz hd
      simp only [List.head?_cons, Option.some.injEq] at hz
      subst hz
      obtain ⟨v, us', he, q1, _⟩ := hd
      refine ⟨v, ?_, q1⟩
      have : (List.toArray us)[off]? = some v := by
        have h9 : (us.drop off)[0]? = some v := by rw [he]; rfl
        simpa using h9
      simp only [Bool.false_eq_true, if_false, this, run_pure']

def bt (s : ByteArray) (i : Int) : Int := ((s[i.toNat]?).map (fun b => (b.toNat : Int))).getD 0

/-- An element of an array by value, or a byte of a string. -/
def idxAV (T : Tab) (d : TypeDesc) (x : AV) (i : Int) : Option (Prop × AV) :=
  match d, x with
  | .array n e, .agg cs => match T.lookup e with
    | some r => match partV r cs (i.toNat * r.size) with
      | some z => some (0 ≤ i ∧ i < n, z)
      | none => none
    | none => none
  | .string, .pv (.lit (.string s)) => some (0 ≤ i ∧ i < s.size, .pv (.lit (.int .u8 (bt s i))))
  | _, _ => none

theorem does_index (hT : TabOk E.P T) {o : Oper} {t : TypeId} {x y : Operand} (ho : o.op = .index t x y) (hd : ∀ d, o.dst = some d → d < E.n) {r : TyRow} (hr : T.lookup t = some r) {k : IntKind} {i : Int} {u z : AV} {p : Prop} (hz : idxAV T r.desc u i = some (p, z)) (hp : p) :
    Does E o [u, .pv (.lit (.int k i))] [] { v := z } := by
  refine Does.value hd fun ι imm st a w hs hv _ => ?_
  rw [ho] at hv
  simp only [Op.operands, List.map_cons, List.map_nil] at hv
  obtain ⟨hv1, hv2⟩ := hv.two
  simp only [VH, PH] at hv2
  unfold idxAV at hz
  split at hz
  · rename_i n e cs hdesc
    split at hz
    · rename_i re hre
      split at hz
      · rename_i z' hz'
        simp only [Option.some.injEq, Prod.mk.injEq] at hz
        obtain ⟨rfl, rfl⟩ := hz
        simp only [VH] at hv1
        obtain ⟨us, he, hus⟩ := hv1
        obtain ⟨q, h1, h2⟩ := run_part hT hre hus hz'
        refine ⟨q, ?_, h2⟩
        simp only [execOp, ho, he, hv2.1, Instr.index, asIntOf, run_bind', run_pure', run_underlying hT hr, hdesc]
        rw [if_pos hp]
        simp only [run_bind', run_sizeOf hT hre, h1]
      · cases hz
    · cases hz
  · rename_i s hdesc
    simp only [Option.some.injEq, Prod.mk.injEq] at hz
    obtain ⟨rfl, rfl⟩ := hz
    simp only [VH, PH] at hv1
    have hlt : i.toNat < s.size := by omega
    refine ⟨.int .u8 (bt s i), ?_, by simp [VH, PH, flatB]⟩
    simp only [execOp, ho, hv1.1, hv2.1, Instr.index, asIntOf, run_bind', run_pure', run_underlying hT hr, hdesc]
    rw [if_pos hp.1]
    have : s[i.toNat]? = some s[i.toNat] := getElem?_pos s i.toNat hlt
    simp only [this, run_pure', bt, Option.map_some, Option.getD_some]
  · cases hz

theorem does_field (hT : TabOk E.P T) {o : Oper} {t : TypeId} {x : Operand} {f : Nat} (ho : o.op = .field t x f) (hd : ∀ d, o.dst = some d → d < E.n) {r : TyRow} (hr : T.lookup t = some r) {fs : Array Field} (hdesc : r.desc = .struct fs) {fd : Field} (hf : fs[f]? = some fd) {rf : TyRow} (hrf : T.lookup fd.type = some rf)
    {cs : List AV} {z : AV} (hz : partV rf cs fd.offset = some z) : Does E o [.agg cs] [] { v := z } := by
  refine Does.value hd fun ι imm st a w hs hv _ => ?_
  rw [ho] at hv
  simp only [Op.operands, List.map_cons, List.map_nil] at hv
  have hv := hv.one
  simp only [VH] at hv
  obtain ⟨us, he, hus⟩ := hv
  obtain ⟨q, h1, h2⟩ := run_part hT hrf hus hz
  exact ⟨q, by simp only [execOp, ho, he, Instr.field, asAgg, run_bind', run_pure', run_underlying hT hr, hdesc, hf, h1], h2⟩

/-- A slice as an array's address. -/
def arrAV (n sz : Nat) (x : AV) : Option (Prop × AV) :=
  match x with
  | .pv (.sl _ m ps) => some (n ≤ m ∧ 0 < n, .rp (ps.take (n * sz)))
  | .tsl m ps => some (n ≤ m ∧ 0 < n, .rp (ps.take (n * sz)))
  | .sl b o m s _ => if s = sz then some (n ≤ m ∧ 0 < n, .ptr b o) else none
  | _ => none

theorem does_toArray (hT : TabOk E.P T) {o : Oper} {t : TypeId} {x : Operand} (ho : o.op = .sliceToArrayPointer t x) (hd : ∀ d, o.dst = some d → d < E.n) {r : TyRow} (hr : T.lookup t = some r) {n e : Nat} (hdesc : r.desc = .array n e) {sz : Nat} {u z : AV} {p : Prop} (hz : arrAV n sz u = some (p, z)) (hp : p) :
    Does E o [u] [] { v := z } := by
  refine Does.value hd fun ι imm st a w hs hv _ => ?_
  rw [ho] at hv
  simp only [Op.operands, List.map_cons, List.map_nil] at hv
  have hv := hv.one
  have run : ∀ {A : Option Addr} {m cap : Nat}, a.eval x = .slice A m cap → n ≤ m → (execOp a.eval o).run E.P w = .ok (.value (.pointer A)) w := fun {A m cap} he hle => by
    simp only [execOp, ho, he, Instr.arrayAt, run_bind', run_underlying hT hr, hdesc]
    rw [if_neg (by omega)]; rfl
  unfold arrAV at hz
  split at hz
  · simp only [Option.some.injEq, Prod.mk.injEq] at hz
    obtain ⟨rfl, rfl⟩ := hz
    simp only [VH, PH] at hv
    obtain ⟨A, cap, he, h1, h2, h3, h4, h5⟩ := hv
    cases A with
    | none => obtain ⟨h6, _⟩ := h4 rfl; omega
    | some ad =>
      refine ⟨_, run he hp.1, ⟨ad, rfl, fun hne => ?_⟩⟩
      obtain ⟨q1, q2, q3⟩ := h5 ad rfl (fun e => hne (by rw [e]; simp))
      exact ⟨q1, q2, q3.take⟩
  · simp only [Option.some.injEq, Prod.mk.injEq] at hz
    obtain ⟨rfl, rfl⟩ := hz
    simp only [VH] at hv
    obtain ⟨A, he, h4, h5⟩ := hv
    cases A with
    | none => obtain ⟨h6, _⟩ := h4 rfl; omega
    | some ad =>
      refine ⟨_, run he hp.1, ⟨ad, rfl, fun hne => ?_⟩⟩
      obtain ⟨q1, q2, q3⟩ := h5 ad rfl (fun e => hne (by rw [e]; simp))
      exact ⟨q1, q2, q3.take⟩
  · split at hz
    · simp only [Option.some.injEq, Prod.mk.injEq] at hz
      obtain ⟨rfl, rfl⟩ := hz
      simp only [VH] at hv
      obtain ⟨q, z0, cap, hi, he, _⟩ := hv
      exact ⟨_, run he hp.1, ⟨q, z0, hi, rfl⟩⟩
    · cases hz
  · cases hz

theorem wrap_i64 {n : Int} (h0 : 0 ≤ n) (h1 : n ≤ 9223372036854775807) : IntKind.i64.wrap n = n := by
  have e1 : ((2 : Int) ^ 64) = 18446744073709551616 := by decide
  have e2 : ((2 : Int) ^ 63) = 9223372036854775808 := by decide
  simp only [IntKind.wrap, IntKind.bits, IntKind.signed, Bool.true_and]
  simp only [e1, show (64 - 1 : Nat) = 63 from rfl, e2]
  have : n % 18446744073709551616 = n := Int.emod_eq_of_lt h0 (by omega)
  rw [this, if_neg (by simp; omega)]

theorem makes_makeSlice (hT : TabOk E.P T) {o : Oper} {t : TypeId} {x y : Operand} (ho : o.op = .makeSlice t x y) {r re : TyRow} (hr : T.lookup t = some r) {e : TypeId} (hdesc : r.desc = .slice e) (hre : T.lookup e = some re) {k k' : IntKind} {len cap : Int}
    (h0 : 0 ≤ len) (h1 : len ≤ cap) (h2 : cap ≤ 140737488355328) (h3 : re.bytes * cap ≤ 140737488355328) :
    Makes E o [.pv (.lit (.int k len)), .pv (.lit (.int k' cap))] [] (fun d => .sl d 0 len.toNat re.size (decide (len = cap))) (.cells (zeroAV re.zero.cells (cap.toNat * re.size))) := by
  intro ι imm st a w hs hv _
  rw [ho] at hv
  simp only [Op.operands, List.map_cons, List.map_nil] at hv
  obtain ⟨hv1, hv2⟩ := hv.two
  simp only [VH, PH] at hv1 hv2
  obtain ⟨q1, q2⟩ := zeroAV_holds ι imm w re.zero.cells (cap.toNat * re.size)
  refine ⟨.cells ((Array.range (cap.toNat * re.size)).map (re.zero.cells[· % re.zero.cells.size]!)) e, .slice (some ⟨w.heap.size, 0, none⟩) len.toNat cap.toNat, ?_, ⟨_, _, rfl, by omega, q1⟩, fun d ι' hi => ⟨_, _, cap.toNat, hi, rfl, by omega, fun h => by have := of_decide_eq_true h; omega, (Array.range (cap.toNat * re.size)).map (re.zero.cells[· % re.zero.cells.size]!), e, (0, 0), ?_, by simp⟩⟩
  · obtain ⟨ri, g1, g2, g3, g4⟩ := run_typeInfo hT hre w (P := E.P)
    have w1 : IntKind.i64.wrap len = len := wrap_i64 h0 (by omega)
    have w2 : IntKind.i64.wrap cap = cap := wrap_i64 (by omega) (by omega)
    have hcond : ((decide (cap < 0) || decide ((ri.bytes : Int) * cap > 2 ^ 48) || decide (len < 0) || decide (len > cap)) = true) = False := by
      simp only [eq_iff_iff, iff_false, Bool.or_eq_true, decide_eq_true_eq, not_or, g3]
      refine ⟨⟨⟨by omega, ?_⟩, by omega⟩, by omega⟩
      have : ((2 : Int) ^ 48) = 281474976710656 := by decide
      rw [this]; omega
    simp only [execOp, ho, hv1.1, hv2.1, Instr.makeSlice, asInt, asIntOf, run_bind', run_pure', run_underlying hT hr, hdesc, g1, w1, w2]
    have hroom : ∀ w, (askRoom (cap.toNat * ri.bytes)).run E.P w = .ok () w := fun w => by
      unfold askRoom; split <;> rfl
    simp only [hcond, if_false, run_bind', hroom, run_sizeOf hT hre]
    by_cases hz : cap.toNat * re.size = 0
    · simp only [hz, if_true, run_pure', newRow, run_bind', newObj, Sem.run]
      have : ((Array.range 0).map (re.zero.cells[· % re.zero.cells.size]!)) = ((Array.range 0).map ((#[] : Array Value)[· % (#[] : Array Value).size]!)) := by simp
      rw [this]; rfl
    · simp only [if_neg hz, run_zeroValue hT hre, run_pure', newRow, run_bind', newObj, Sem.run]
      rfl
  · show (w.heap.push _)[w.heap.size]? = _
    rw [Array.getElem?_push, if_pos rfl]

theorem does_makeSlice (hT : TabOk E.P T) {o : Oper} {t : TypeId} {x y : Operand} (ho : o.op = .makeSlice t x y) {d : Nat} (hdst : o.dst = some d) (hd : d < E.n) {r re : TyRow} (hr : T.lookup t = some r) {e : TypeId} (hdesc : r.desc = .slice e) (hre : T.lookup e = some re) {k k' : IntKind} {len cap : Int}
    (h0 : 0 ≤ len) (h1 : len ≤ cap) (h2 : cap ≤ 140737488355328) (h3 : re.bytes * cap ≤ 140737488355328) :
    Does E o [.pv (.lit (.int k len)), .pv (.lit (.int k' cap))] [] { v := .sl d 0 len.toNat re.size (decide (len = cap)), new := [(d, .cells (zeroAV re.zero.cells (cap.toNat * re.size)))] } := (makes_makeSlice hT ho hr hdesc hre h0 h1 h2 h3).does hdst hd

/-! ### Aggregates compared -/
def eqCell : AV → AV → Option Bool
  | .pv (.lit (.int k a)), .pv (.lit (.int k' b)) => if k = k' then some (a == b) else none
  | .pv (.lit (.bool a)), .pv (.lit (.bool b)) => some (a == b)
  | .pv (.lit (.string a)), .pv (.lit (.string b)) => some (a.toList == b.toList)
  | _, _ => none

def andO : Option Bool → Option Bool → Option Bool
  | some a, some b => some (a && b)
  | _, _ => none

def kindFits : TypeDesc → AV → Bool
  | .int _, .pv (.lit (.int _ _)) => true
  | .bool, .pv (.lit (.bool _)) => true
  | .string, .pv (.lit (.string _)) => true
  | _, _ => false

def eqFs (T : Tab) (rec : TyRow → AV → AV → Option Bool) (xs ys : List AV) : List Field → Option Bool
  | [] => some true
  | f :: fs => if f.name = "_" then none else match T.lookup f.type with
    | some r => match partV r xs f.offset, partV r ys f.offset with
      | some x, some y => andO (rec r x y) (eqFs T rec xs ys fs)
      | _, _ => none
    | none => none
def eqIs (rec : TyRow → AV → AV → Option Bool) (r : TyRow) (xs ys : List AV) : List Nat → Option Bool
  | [] => some true
  | i :: is => match partV r xs (i * r.size), partV r ys (i * r.size) with
    | some x, some y => andO (rec r x y) (eqIs rec r xs ys is)
    | _, _ => none
def eqFlat (d : TypeDesc) (x y : AV) : Option Bool := if kindFits d x && kindFits d y then eqCell x y else none
/-- Are two values of a type the same? -/
def eqAV (T : Tab) : Nat → TyRow → AV → AV → Option Bool
  | 0, _, _, _ => none
  | d + 1, r, x, y => match r.desc with
    | .struct fs => match x, y with
      | .agg xs, .agg ys => if r.eq then eqFs T (eqAV T d) xs ys fs.toList else none
      | _, _ => none
    | .array n e => match x, y with
      | .agg xs, .agg ys => match T.lookup e with
        | some re => eqIs (eqAV T d) re xs ys (List.range n)
        | none => none
      | _, _ => none
    | desc => eqFlat desc x y

theorem run_eqFlat {P : Program} (hT : TabOk P T) {t : TypeId} {r : TyRow} (hr : T.lookup t = some r) {ι : Nat → Option (Nat × Nat)} {imm : Nat → Prop} {w : World} {d : Nat} {x y : AV} {b : Bool}
    (h : eqFlat r.desc x y = some b) {u v : Value} (hx : VH ι imm w x u) (hy : VH ι imm w y v) : (Op.equalIn (d + 1) t u v).run P w = .ok b w := by
  have hu := (hT t r hr).1
  unfold eqFlat at h
  split at h
  · rename_i hk
    simp only [Bool.and_eq_true] at hk
    unfold eqCell at h
    split at h
    · split at h
      · rename_i k a k' b' hkk
        subst hkk
        simp only [Option.some.injEq] at h
        subst h
        simp only [VH, PH] at hx hy
        rw [hx.1, hy.1]
        cases hd : r.desc <;> rw [hd] at hk <;> simp only [kindFits, Bool.false_eq_true, false_and] at hk
        exact run_equalIn_int w d t k _ a b' (by rw [hu, hd])
      · cases h
    · rename_i a b'
      simp only [Option.some.injEq] at h
      subst h
      simp only [VH, PH] at hx hy
      rw [hx.1, hy.1]
      cases hd : r.desc <;> rw [hd] at hk <;> simp only [kindFits, Bool.false_eq_true, false_and] at hk
      exact run_equalIn_bool' w d t a b' (by rw [hu, hd])
    · rename_i a b'
      simp only [Option.some.injEq] at h
      subst h
      simp only [VH, PH] at hx hy
      rw [hx.1, hy.1]
      cases hd : r.desc <;> rw [hd] at hk <;> simp only [kindFits, Bool.false_eq_true, false_and] at hk
      exact run_equalIn_string w d t a b' (by rw [hu, hd])
    · cases h
  · cases h

theorem bind_ok {P : Program} {α β : Type} {s : Sem α} {f : α → Sem β} {w w' : World} {a : α} (h : s.run P w = .ok a w') : (s >>= f).run P w = (f a).run P w' := by
  rw [run_bind', h]

theorem run_eqFs {P : Program} (hT : TabOk P T) {ι : Nat → Option (Nat × Nat)} {imm : Nat → Prop} {w : World} {d : Nat} {rec : TyRow → AV → AV → Option Bool}
    (hrec : ∀ {t : TypeId} {r : TyRow} (_ : T.lookup t = some r) {x y : AV} {b : Bool} (_ : rec r x y = some b) {u v : Value} (_ : VH ι imm w x u) (_ : VH ι imm w y v), (Op.equalIn d t u v).run P w = .ok b w) :
    ∀ (fs : List Field) {xs ys : List AV} {b : Bool} (_ : eqFs T rec xs ys fs = some b) {us vs : List Value} (_ : VHs ι imm w xs us) (_ : VHs ι imm w ys vs), (Op.eqFields d (List.toArray us) (List.toArray vs) fs).run P w = .ok b w
  | [], xs, ys, b, h, us, vs, _, _ => by simp only [eqFs, Option.some.injEq] at h; subst h; rfl
  | f :: fs, xs, ys, b, h, us, vs, hx, hy => by
    simp only [eqFs] at h
    split at h
    · cases h
    · rename_i hn
      split at h
      · rename_i r hr
        split at h
        · rename_i x y hpx hpy
          unfold andO at h
          split at h
          · rename_i b1 b2 h1 h2
            simp only [Option.some.injEq] at h
            subst h
            obtain ⟨u, q1, q2⟩ := run_part hT hr hx hpx
            obtain ⟨v, q3, q4⟩ := run_part hT hr hy hpy
            have h3 := hrec hr h1 q2 q4
            rw [Op.eqFields, if_pos hn, bind_ok q1, bind_ok q3, bind_ok h3]
            cases b1
            · rfl
            · simp only [Bool.not_true, Bool.false_eq_true, if_false, Bool.true_and]
              exact run_eqFs hT hrec fs h2 hx hy
          · cases h
        · cases h
      · cases h
theorem run_eqIs {P : Program} (hT : TabOk P T) {ι : Nat → Option (Nat × Nat)} {imm : Nat → Prop} {w : World} {d : Nat} {rec : TyRow → AV → AV → Option Bool}
    (hrec : ∀ {t : TypeId} {r : TyRow} (_ : T.lookup t = some r) {x y : AV} {b : Bool} (_ : rec r x y = some b) {u v : Value} (_ : VH ι imm w x u) (_ : VH ι imm w y v), (Op.equalIn d t u v).run P w = .ok b w) {e : TypeId} {r : TyRow} (hr : T.lookup e = some r) :
    ∀ (is : List Nat) {xs ys : List AV} {b : Bool} (_ : eqIs rec r xs ys is = some b) {us vs : List Value} (_ : VHs ι imm w xs us) (_ : VHs ι imm w ys vs), (Op.eqItems d e r.size (List.toArray us) (List.toArray vs) is).run P w = .ok b w
  | [], xs, ys, b, h, us, vs, _, _ => by simp only [eqIs, Option.some.injEq] at h; subst h; rfl
  | i :: is, xs, ys, b, h, us, vs, hx, hy => by
    simp only [eqIs] at h
    split at h
    · rename_i x y hpx hpy
      unfold andO at h
      split at h
      · rename_i b1 b2 h1 h2
        simp only [Option.some.injEq] at h
        subst h
        obtain ⟨u, q1, q2⟩ := run_part hT hr hx hpx
        obtain ⟨v, q3, q4⟩ := run_part hT hr hy hpy
        have h3 := hrec hr h1 q2 q4
        rw [Op.eqItems, bind_ok q1, bind_ok q3, bind_ok h3]
        cases b1
        · rfl
        · simp only [Bool.not_true, Bool.false_eq_true, if_false, Bool.true_and]
          exact run_eqIs hT hrec hr is h2 hx hy
      · cases h
    · cases h

theorem run_eqAV {P : Program} (hT : TabOk P T) {ι : Nat → Option (Nat × Nat)} {imm : Nat → Prop} {w : World} : ∀ (d : Nat) {t : TypeId} {r : TyRow} (_ : T.lookup t = some r) {x y : AV} {b : Bool} (_ : eqAV T d r x y = some b) {u v : Value} (_ : VH ι imm w x u) (_ : VH ι imm w y v), (Op.equalIn d t u v).run P w = .ok b w
  | 0, _, _, _, _, _, _, h, _, _, _, _ => by simp [eqAV] at h
  | d + 1, t, r, hr, x, y, b, h, u, v, hx, hy => by
    have hu := (hT t r hr).1
    unfold eqAV at h
    split at h
    · rename_i fs hfs
      split at h
      · rename_i xs ys
        split at h
        · rename_i hq
          simp only [VH] at hx hy
          obtain ⟨us, rfl, hus⟩ := hx
          obtain ⟨vs, rfl, hvs⟩ := hy
          have hst := ((hT t r hr).2.2 hq).1
          have hfo : P.fieldsOf t = fs := by simp only [Program.fieldsOf, hu, hfs]
          rw [run_equalIn_struct w d t _ _ (by rw [hfo, hu, hfs]) hst, hfo]
          exact run_eqFs hT (fun hr' _ _ _ h' _ _ q1 q2 => run_eqAV hT d hr' h' q1 q2) fs.toList h hus hvs
        · cases h
      · cases h
    · rename_i n e hne
      split at h
      · rename_i xs ys
        split at h
        · rename_i re hre
          simp only [VH] at hx hy
          obtain ⟨us, rfl, hus⟩ := hx
          obtain ⟨vs, rfl, hvs⟩ := hy
          obtain ⟨_, ⟨i, hi, hsz, _⟩, _⟩ := hT e re hre
          have hc : P.cellsOf e = re.size := by simp [Program.cellsOf, hi, hsz]
          rw [run_equalIn_array w d _ _ (by rw [hu, hne]) hi, hc]
          exact run_eqIs hT (fun hr' _ _ _ h' _ _ q1 q2 => run_eqAV hT d hr' h' q1 q2) hre (List.range n) h hus hvs
        · cases h
      · cases h
    · exact run_eqFlat hT hr h hx hy

/-- `==` and `!=` of aggregates. -/
def eqAgg (T : Tab) (op : BinOp) (r : TyRow) (x y : AV) : Option AV :=
  match x, y with
  | .agg _, .agg _ => if r.eq then match op, eqAV T 10000 r x y with
      | .eql, some b => some (.pv (.lit (.bool b)))
      | .neq, some b => some (.pv (.lit (.bool !b)))
      | _, _ => none
    else none
  | _, _ => none

theorem does_eqAgg (hT : TabOk E.P T) {o : Oper} {op : BinOp} {t yt : TypeId} {x y : Operand} (ho : o.op = .binOp op t x y yt) (hd : ∀ d, o.dst = some d → d < E.n) {r : TyRow} (hr : T.lookup t = some r) {u v z : AV} (h : eqAgg T op r u v = some z) : Does E o [u, v] [] { v := z } := by
  refine Does.value hd fun ι imm st a w hs hv _ => ?_
  rw [ho] at hv
  simp only [Op.operands, List.map_cons, List.map_nil] at hv
  obtain ⟨h1, h2⟩ := hv.two
  unfold eqAgg at h
  split at h
  · rename_i xs ys
    split at h
    · rename_i hq
      have heq : ∀ {b}, eqAV T 10000 r (.agg xs) (.agg ys) = some b → (Op.equal t (a.eval x) (a.eval y)).run E.P w = .ok b w := fun {b} hb => run_eqAV hT 10000 hr hb h1 h2
      simp only [VH] at h1 h2
      obtain ⟨us, e1, _⟩ := h1
      obtain ⟨vs, e2, _⟩ := h2
      have hg : (eqGuard op t x y (a.eval x) (a.eval y)).run E.P w = .ok () w := by rw [e1, e2]; exact run_eqGuard_agg w op t x y _ _ ((hT t r hr).2.2 hq).2
      split at h
      · rename_i b hb
        simp only [Option.some.injEq] at h
        subst h
        refine ⟨.bool b, ?_, by simp [VH, PH, flatB]⟩
        have := heq hb
        have hbin : (binOp .eql t (a.eval x) (a.eval y)).run E.P w = .ok (.bool b) w := by
          rw [e1, e2] at this ⊢
          show (do let q ← Op.equal t _ _; pure (Value.bool q) : Sem Value).run E.P w = _
          rw [bind_ok this]; rfl
        simp only [execOp, ho, run_bind', hg, hbin, run_pure']
      · rename_i b hb
        simp only [Option.some.injEq] at h
        subst h
        refine ⟨.bool !b, ?_, by simp [VH, PH, flatB]⟩
        have := heq hb
        have hbin : (binOp .neq t (a.eval x) (a.eval y)).run E.P w = .ok (.bool !b) w := by
          rw [e1, e2] at this ⊢
          show (do let q ← Op.equal t _ _; pure (Value.bool !q) : Sem Value).run E.P w = _
          rw [bind_ok this]; rfl
        simp only [execOp, ho, run_bind', hg, hbin, run_pure']
      · cases h
    · cases h
  · cases h

/-- A slice, or a map, held against nil. -/
def nilS : AV → Option Bool
  | .pv (.sl (some f) _ _) => some f
  | .pv (.sl none (_ + 1) _) => some false
  | .sl _ _ _ _ _ => some false
  | _ => none
def nilM : AV → Option Bool
  | .pv (.lit (.map none)) => some true
  | .mp _ => some false
  | _ => none
def opB (op : BinOp) (b : Bool) : Option AV := match op with | .eql => some (.pv (.lit (.bool b))) | .neq => some (.pv (.lit (.bool !b))) | _ => none
def eqNil (op : BinOp) (d : TypeDesc) (x y : AV) : Option AV :=
  match d with
  | .slice _ => match nilS x, nilS y with
    | some a, some b => if a || b then opB op (a && b) else none
    | _, _ => none
  | .map _ _ => match nilM x, nilM y with
    | some a, some b => if a || b then opB op (a && b) else none
    | _, _ => none
  | _ => none

theorem nilS_holds {ι : Nat → Option (Nat × Nat)} {imm : Nat → Prop} {w : World} {x : AV} {f : Bool} (h : nilS x = some f) {v : Value} (hv : VH ι imm w x v) : ∃ A n c, v = .slice A n c ∧ A.isNone = f := by
  unfold nilS at h
  split at h
  · rename_i g n ps
    simp only [Option.some.injEq] at h
    simp only [VH, PH] at hv
    obtain ⟨A, cap, e, _, h1, h2, _⟩ := hv
    rw [h] at h1 h2
    refine ⟨A, _, _, e, ?_⟩
    cases f
    · have := h2 rfl; cases A <;> simp_all
    · rw [h1 rfl]; rfl
  · simp only [Option.some.injEq] at h
    subst h
    simp only [VH, PH] at hv
    obtain ⟨A, cap, e, _, _, _, h3, _⟩ := hv
    refine ⟨A, _, _, e, ?_⟩
    cases A with
    | none => have := (h3 rfl).1; omega
    | some a => rfl
  · simp only [Option.some.injEq] at h
    subst h
    simp only [VH] at hv
    obtain ⟨r, z, cap, _, e, _⟩ := hv
    exact ⟨_, _, _, e, rfl⟩
  · cases h
theorem nilM_holds {ι : Nat → Option (Nat × Nat)} {imm : Nat → Prop} {w : World} {x : AV} {f : Bool} (h : nilM x = some f) {v : Value} (hv : VH ι imm w x v) : ∃ A, v = .map A ∧ A.isNone = f := by
  unfold nilM at h
  split at h
  · simp only [Option.some.injEq] at h
    subst h
    simp only [VH, PH] at hv
    exact ⟨none, hv.1, rfl⟩
  · simp only [Option.some.injEq] at h
    subst h
    simp only [VH] at hv
    obtain ⟨r, z, _, e⟩ := hv
    exact ⟨_, e, rfl⟩
  · cases h

theorem does_eqNil (hT : TabOk E.P T) {o : Oper} {op : BinOp} {t yt : TypeId} {x y : Operand} (ho : o.op = .binOp op t x y yt) (hd : ∀ d, o.dst = some d → d < E.n) {r : TyRow} (hr : T.lookup t = some r) {u v z : AV} (h : eqNil op r.desc u v = some z) : Does E o [u, v] [] { v := z } := by
  refine Does.value hd fun ι imm st a w hs hv _ => ?_
  rw [ho] at hv
  simp only [Op.operands, List.map_cons, List.map_nil] at hv
  obtain ⟨h1, h2⟩ := hv.two
  have hu := run_underlying hT hr w (P := E.P)
  obtain ⟨dep, hdp⟩ : ∃ d, Op.maxDepth = d + 1 := ⟨_, rfl⟩
  have fin : ∀ {b : Bool}, (Op.equal t (a.eval x) (a.eval y)).run E.P w = .ok b w → (eqGuard op t x y (a.eval x) (a.eval y)).run E.P w = .ok () w → (∀ op', (op' = .eql ∨ op' = .neq) → binOp op' t (a.eval x) (a.eval y) = (match op' with | .eql => (do let q ← Op.equal t (a.eval x) (a.eval y); pure (Value.bool q)) | _ => (do let q ← Op.equal t (a.eval x) (a.eval y); pure (Value.bool !q)) : Sem Value)) →
      opB op b = some z → ∃ q, (execOp a.eval o).run E.P w = .ok (.value q) w ∧ VH ι imm w z q := by
    intro b hb hg hbin hz
    by_cases e1 : op = .eql
    · subst e1
      simp only [opB, Option.some.injEq] at hz; subst hz
      refine ⟨.bool b, ?_, by simp [VH, PH, flatB]⟩
      simp only [execOp, ho, run_bind', hg, hbin .eql (.inl rfl), hb, run_pure']
    · by_cases e2 : op = .neq
      · subst e2
        simp only [opB, Option.some.injEq] at hz; subst hz
        refine ⟨.bool !b, ?_, by simp [VH, PH, flatB]⟩
        simp only [execOp, ho, run_bind', hg, hbin .neq (.inr rfl), hb, run_pure']
      · exfalso; cases op <;> simp_all [opB]
  unfold eqNil at h
  split at h
  · rename_i e hdesc
    split at h
    · rename_i f g hf hg
      split at h
      · rename_i hfg
        obtain ⟨A, n, c, e1, e2⟩ := nilS_holds hf h1
        obtain ⟨B, m, c', e3, e4⟩ := nilS_holds hg h2
        refine fin (b := f && g) ?_ (by rw [e1]; exact eqGuard_run w (by simp) (by simp)) (fun op' ho' => by rw [e1, e3]; rcases ho' with rfl | rfl <;> rfl) h
        unfold Op.equal
        rw [hdp, e1, e3]
        cases A <;> cases B <;> simp only [Option.isNone_none, Option.isNone_some] at e2 e4 <;> subst e2 <;> subst e4 <;> first | (cases hfg; done) | skip
        all_goals simp only [Op.equalIn, run_bind', hu, hdesc, run_pure']; rfl
      · cases h
    · cases h
  · rename_i kt et hdesc
    split at h
    · rename_i f g hf hg
      split at h
      · rename_i hfg
        obtain ⟨A, e1, e2⟩ := nilM_holds hf h1
        obtain ⟨B, e3, e4⟩ := nilM_holds hg h2
        refine fin (b := f && g) ?_ (by rw [e1]; exact eqGuard_run w (by simp) (by simp)) (fun op' ho' => by rw [e1, e3]; rcases ho' with rfl | rfl <;> rfl) h
        unfold Op.equal
        rw [hdp, e1, e3]
        cases A <;> cases B <;> simp only [Option.isNone_none, Option.isNone_some] at e2 e4 <;> subst e2 <;> subst e4 <;> first | (cases hfg; done) | skip
        all_goals simp only [Op.equalIn, run_bind', hu, hdesc, run_pure']; rfl
      · cases h
    · cases h
  · cases h
end ops
end Go.Am

/- An abstract machine over the kit's calls, part 11: what a function does with its arguments and the blocks that it is handed (ACalls), and a call of it. No conditions. -/
namespace Go.Am

mutual
/-- A value with its blocks named anew. -/
def AV.ren (σ : Nat → Nat) : AV → AV
  | .undef => .undef
  | .pv p => .pv p
  | .agg cs => .agg (AV.renL σ cs)
  | .tup cs => .tup (AV.renL σ cs)
  | .ptr b o => .ptr (σ b) o
  | .sl b o n s t => .sl (σ b) o n s t
  | .slc b o n s c => .slc (σ b) o n s c
  | .tsl n ps => .tsl n ps
  | .rp ps => .rp ps
  | .mp b => .mp (σ b)
  | .fn f xs ys => .fn f (AV.renL σ xs) (AV.renL σ ys)
def AV.renL (σ : Nat → Nat) : List AV → List AV
  | [] => []
  | x :: xs => AV.ren σ x :: AV.renL σ xs
end
def Blk.ren (σ : Nat → Nat) : Blk → Blk
  | .cells cs => .cells (AV.renL σ cs)
  | .map es => .map (es.map fun e => (e.1.ren σ, e.2.ren σ))

mutual
/-- Where two maps of blocks agree on what a value names, the value is the same. -/
theorem VH.ren {ι κ : Nat → Option (Nat × Nat)} {imm : Nat → Prop} {w : World} {σ : Nat → Nat} {U : Nat → Bool} (h : ∀ b, U b = true → κ (σ b) = ι b) : ∀ (x : AV) (v : Value), x.within U = true → (VH κ imm w (x.ren σ) v ↔ VH ι imm w x v)
  | .undef, _, _ => Iff.rfl
  | .pv _, _, _ => Iff.rfl
  | .tsl _ _, _, _ => Iff.rfl
  | .rp _, _, _ => Iff.rfl
  | .agg cs, v, hu => by
    simp only [AV.within] at hu
    simp only [AV.ren, VH]
    exact exists_congr fun vs => and_congr_right fun _ => VHs.ren h cs vs hu
  | .tup cs, v, hu => by
    simp only [AV.within] at hu
    simp only [AV.ren, VH]
    exact exists_congr fun vs => and_congr_right fun _ => VHs.ren h cs vs hu
  | .ptr b o, v, hu => by simp only [AV.within] at hu; simp only [AV.ren, VH, h b hu]
  | .sl b o n s t, v, hu => by simp only [AV.within] at hu; simp only [AV.ren, VH, h b hu]
  | .slc b o n s c, v, hu => by simp only [AV.within] at hu; simp only [AV.ren, VH, h b hu]
  | .mp b, v, hu => by simp only [AV.within] at hu; simp only [AV.ren, VH, h b hu]
  | .fn f xs ys, v, hu => by
    simp only [AV.within, Bool.and_eq_true] at hu
    simp only [AV.ren, VH]
    exact exists_congr fun vs => exists_congr fun us => and_congr_right fun _ => and_congr (VHs.ren h xs vs hu.1) (VHs.ren h ys us hu.2)
theorem VHs.ren {ι κ : Nat → Option (Nat × Nat)} {imm : Nat → Prop} {w : World} {σ : Nat → Nat} {U : Nat → Bool} (h : ∀ b, U b = true → κ (σ b) = ι b) : ∀ (xs : List AV) (vs : List Value), AV.withinL U xs = true → (VHs κ imm w (AV.renL σ xs) vs ↔ VHs ι imm w xs vs)
  | [], _, _ => Iff.rfl
  | x :: xs, vs, hu => by
    simp only [AV.withinL, Bool.and_eq_true] at hu
    simp only [AV.renL, VHs]
    exact exists_congr fun v => exists_congr fun us => and_congr_right fun _ => and_congr (VH.ren h x v hu.1) (VHs.ren h xs us hu.2)
end
theorem renL_length (σ : Nat → Nat) : ∀ (xs : List AV), (AV.renL σ xs).length = xs.length
  | [] => rfl
  | x :: xs => by simp [AV.renL, renL_length σ xs]
theorem CellsH.ren {ι κ : Nat → Option (Nat × Nat)} {imm : Nat → Prop} {w : World} {σ : Nat → Nat} {U : Nat → Bool} (h : ∀ b, U b = true → κ (σ b) = ι b) {c : Array Value} : ∀ {xs : List AV} {o : Nat}, AV.withinL U xs = true → (CellsH κ imm w c (AV.renL σ xs) o ↔ CellsH ι imm w c xs o)
  | [], _, _ => Iff.rfl
  | x :: xs, o, hu => by
    simp only [AV.withinL, Bool.and_eq_true] at hu
    simp only [AV.renL, CellsH]
    exact and_congr (exists_congr fun v => and_congr_right fun _ => VH.ren h x v hu.1) (CellsH.ren h hu.2)
theorem EntsH.ren {ι κ : Nat → Option (Nat × Nat)} {imm : Nat → Prop} {w : World} {σ : Nat → Nat} {U : Nat → Bool} (h : ∀ b, U b = true → κ (σ b) = ι b) : ∀ {xs : List (AV × AV)} {es : List MapEntry}, (xs.all fun e => e.1.within U && e.2.within U) = true → (EntsH κ imm w (xs.map fun e => (e.1.ren σ, e.2.ren σ)) es ↔ EntsH ι imm w xs es)
  | [], _, _ => Iff.rfl
  | x :: xs, es, hu => by
    simp only [List.all_cons, Bool.and_eq_true] at hu
    simp only [List.map_cons, EntsH]
    exact exists_congr fun v => exists_congr fun us => and_congr_right fun _ => and_congr (VH.ren h _ _ hu.1.1) (and_congr (VH.ren h _ _ hu.1.2) (EntsH.ren h (by simpa using hu.2)))
theorem BlkH.ren {ι κ : Nat → Option (Nat × Nat)} {imm : Nat → Prop} {w : World} {σ : Nat → Nat} {U : Nat → Bool} (h : ∀ b, U b = true → κ (σ b) = ι b) {r z : Nat} : ∀ {k : Blk}, k.within U = true → (BlkH κ imm w r z (k.ren σ) ↔ BlkH ι imm w r z k)
  | .cells cs, hu => by
    simp only [Blk.within] at hu
    simp only [Blk.ren, BlkH, renL_length]
    exact exists_congr fun c => exists_congr fun e => exists_congr fun f => and_congr_right fun _ => and_congr_right fun _ => and_congr_right fun _ => CellsH.ren h hu
  | .map es, hu => by
    simp only [Blk.within] at hu
    simp only [Blk.ren, BlkH]
    exact exists_congr fun c => exists_congr fun q => and_congr_right fun _ => and_congr_right fun _ => EntsH.ren h hu

def heapOf (H : List (Nat × Blk)) (b : Nat) : Option Blk := H.lookup b

/-- The real blocks of a heap. -/
def Rof (ι : Nat → Option (Nat × Nat)) (H : List (Nat × Blk)) (r : Nat) : Prop := ∃ b k z, heapOf H b = some k ∧ ι b = some (r, z)

def inI (I : List Nat) (b : Nat) : Bool := I.contains b

/-- Called with these values, over these blocks of one's own (I: all blocks that they name), a function answers this value, and leaves these blocks. -/
def ACalls (P : Program) (f : FuncId) (I : List Nat) (avs : List AV) (H : List (Nat × Blk)) (av : AV) (H' : List (Nat × Blk)) : Prop :=
  ∀ ι imm w M vs, HR ι imm w M (heapOf H) → VHs ι imm w avs vs → (∀ k, imm k → k < w.heap.size) → (∀ b x, ι b = some x → inI I b = true) →
    Calls P f (List.toArray vs) w fun e w' => ∃ v ι' imm', e = .returned v ∧ VH ι' imm' w' av v ∧ Grows ι ι' imm imm' w w' ∧ Ext (Rof ι H) w w' ∧ HR ι' imm' w' (fun r => Rof ι H r ∨ w.heap.size ≤ r) (heapOf H') ∧
      (∀ k, imm' k → imm k ∨ Rof ι H k ∨ w.heap.size ≤ k) ∧ (∀ k, imm' k → k < w'.heap.size)

/-- How a callee's blocks are named at the caller's: those that it was handed, and new ones. -/
structure Names where
  σ : Nat → Nat
  L : List (Nat × Nat)          -- (the caller's new name, the callee's)

def Names.τ (N : Names) (I : List Nat) (c : Nat) : Nat := if inI I c then N.σ c else ((N.L.find? fun x => x.2 == c).map (·.1)).getD 0

/-- The callee's names that are known. -/
def Names.knows (N : Names) (I : List Nat) (c : Nat) : Bool := inI I c || N.L.any fun x => x.2 == c

/-- What a call does at the caller's. -/
def Names.delta (N : Names) (I : List Nat) (H H' : List (Nat × Blk)) (av : AV) : Delta where
  v := av.ren (N.τ I)
  new := N.L.map fun x => (x.1, ((heapOf H' x.2).getD (.cells [])).ren (N.τ I))
  wr := H.map fun x => (N.σ x.1, (heapOf H' x.1).map (·.ren (N.τ I)))

structure CallOk (N : Names) (I : List Nat) (avs : List AV) (H H' : List (Nat × Blk)) (av : AV) : Prop where
  args : AV.withinL (inI I) avs = true
  ids : ∀ x ∈ H, inI I x.1 = true
  blks : ∀ x ∈ H, x.2.within (inI I) = true
  nodup : (H.map (·.1)).Nodup
  inj : ∀ b c, inI I b = true → inI I c = true → N.σ b = N.σ c → b = c
  nodupL : (N.L.map (·.1)).Nodup
  nodupR : (N.L.map (·.2)).Nodup
  fresh : ∀ x ∈ N.L, inI I x.2 = false
  res : av.within (N.knows I) = true
  res' : ∀ x ∈ H', N.knows I x.1 = true ∧ x.2.within (N.knows I) = true
  kept : ∀ x ∈ H', inI I x.1 = true → ∃ k, (x.1, k) ∈ H
  all : ∀ x ∈ N.L, (heapOf H' x.2).isSome = true
  used : ∀ b, inI I b = true → refs avs H b = true ∨ (heapOf H b).isSome = true

theorem lookup_of_mem {α : Type} : ∀ {l : List (Nat × α)} {x : Nat × α}, (l.map (·.1)).Nodup → x ∈ l → l.lookup x.1 = some x.2
  | [], x, _, hx => by cases hx
  | y :: ys, x, hn, hx => by
    simp only [List.map_cons, List.nodup_cons] at hn
    simp only [List.lookup]
    cases hx with
    | head => simp
    | tail _ hm =>
      have : (x.1 == y.1) = false := by
        simp only [beq_eq_false_iff_ne, ne_eq]
        intro e
        exact hn.1 (e ▸ List.mem_map_of_mem hm)
      simp only [this]
      exact lookup_of_mem hn.2 hm

theorem lookup_map {α β : Type} (g : Nat × α → β) : ∀ (l : List (Nat × α)) (b : Nat), (l.map fun x => (x.1, g x)).lookup b = (l.find? fun x => x.1 == b).map g
  | [], _ => rfl
  | x :: l, b => by
    simp only [List.map_cons, List.lookup, List.find?_cons]
    by_cases h : x.1 = b
    · subst h; simp
    · have h1 : (b == x.1) = false := by simpa using Ne.symm h
      have h2 : (x.1 == b) = false := by simpa using h
      simp only [h1, h2]
      exact lookup_map g l b

theorem find_fst {α : Type} {l : List (Nat × α)} (hn : (l.map (·.1)).Nodup) {x : Nat × α} (hx : x ∈ l) : l.find? (fun y => y.1 == x.1) = some x := by
  induction l with
  | nil => cases hx
  | cons y ys ih =>
    simp only [List.map_cons, List.nodup_cons] at hn
    simp only [List.find?_cons]
    cases hx with
    | head => simp
    | tail _ hm =>
      have : (y.1 == x.1) = false := by
        simp only [beq_eq_false_iff_ne, ne_eq]
        intro e; exact hn.1 (e ▸ List.mem_map_of_mem hm)
      simp only [this]
      exact ih hn.2 hm
theorem find_snd {l : List (Nat × Nat)} (hn : (l.map (·.2)).Nodup) {x : Nat × Nat} (hx : x ∈ l) : l.find? (fun y => y.2 == x.2) = some x := by
  induction l with
  | nil => cases hx
  | cons y ys ih =>
    simp only [List.map_cons, List.nodup_cons] at hn
    simp only [List.find?_cons]
    cases hx with
    | head => simp
    | tail _ hm =>
      have : (y.2 == x.2) = false := by
        simp only [beq_eq_false_iff_ne, ne_eq]
        intro e; exact hn.1 (e ▸ List.mem_map_of_mem hm)
      simp only [this]
      exact ih hn.2 hm

/-- The heart of a call: the callee's end, told at the caller's. -/
theorem call_end {E : Env} {N : Names} {I : List Nat} {avs : List AV} {H H' : List (Nat × Blk)} {av : AV} (ok : CallOk N I avs H H' av) {ι : Nat → Option (Nat × Nat)} {imm : Nat → Prop} {st : St} {a : Act} {w : World} (hs : SR E ι imm st a w)
    (hdeps : ∀ x ∈ H, st.H (N.σ x.1) = some (x.2.ren N.σ)) (hfresh : ∀ x ∈ N.L, st.U x.1 = false) {κ : Nat → Option (Nat × Nat)} (hκ : κ = fun b => if inI I b then ι (N.σ b) else none) (hsome : ∀ b, inI I b = true → (κ b).isSome = true)
    {v : Value} {ι' : Nat → Option (Nat × Nat)} {imm' : Nat → Prop} {w' : World} (hv : VH ι' imm' w' av v) (g : Grows κ ι' imm imm' w w') (hext : Ext (Rof κ H) w w') (hH : HR ι' imm' w' (fun r => Rof κ H r ∨ w.heap.size ≤ r) (heapOf H'))
    (himm : ∀ k, imm' k → imm k ∨ Rof κ H k ∨ w.heap.size ≤ k) (hlt : ∀ k, imm' k → k < w'.heap.size) {d : Option Nat} (hd : ∀ t, d = some t → t < E.n) :
    At E (st.after d (N.delta I H H' av)) (a.put d v) w' := by
  have hL : ∀ x ∈ N.L, ι x.1 = none := fun x hx => by
    cases hi : ι x.1 with
    | none => rfl
    | some y => have := hs.used _ _ hi; rw [hfresh x hx] at this; cases this
  let ι'' : Nat → Option (Nat × Nat) := fun b => match N.L.find? (fun x => x.1 == b) with | some x => ι' x.2 | none => ι b
  have f1 : ∀ x ∈ N.L, ι'' x.1 = ι' x.2 := fun x hx => by
    show (match N.L.find? (fun y => y.1 == x.1) with | some x => ι' x.2 | none => ι x.1) = _
    rw [find_fst ok.nodupL hx]
  have f2 : ∀ b, (∀ x ∈ N.L, x.1 ≠ b) → ι'' b = ι b := fun b hb => by
    show (match N.L.find? (fun y => y.1 == b) with | some x => ι' x.2 | none => ι b) = _
    have : N.L.find? (fun y => y.1 == b) = none := List.find?_eq_none.2 fun x hx => by simpa using hb x hx
    rw [this]
  have f3 : ∀ b y, ι b = some y → ι'' b = some y := fun b y hy => by
    rw [f2 b fun x hx e => by rw [← e, hL x hx] at hy; cases hy]; exact hy
  have hκI : ∀ c, inI I c = true → κ c = ι (N.σ c) := fun c hc => by rw [hκ]; simp only [hc, if_true]
  have f4 : ∀ c, N.knows I c = true → ι'' (N.τ I c) = ι' c := fun c hc => by
    by_cases hi : inI I c = true
    · obtain ⟨y, hy⟩ := Option.isSome_iff_exists.1 (hsome c hi)
      have h1 : N.τ I c = N.σ c := by simp only [Names.τ, hi, if_true]
      rw [h1, g.ext c y hy]
      exact f3 _ _ (by rw [← hκI c hi]; exact hy)
    · simp only [Names.knows, Bool.or_eq_true, List.any_eq_true, beq_iff_eq] at hc
      rcases hc with hc | ⟨x, hx, rfl⟩
      · exact absurd hc hi
      · have h1 : N.τ I x.2 = x.1 := by
          simp only [Names.τ]
          rw [if_neg hi, find_snd ok.nodupR hx]; rfl
        rw [h1]; exact f1 x hx
  have hRM : ∀ r, Rof κ H r → E.M r := fun r ⟨b, k, z, hb, hz⟩ => by
    have hm := lookup_mem (l := H) hb
    have hi := ok.ids _ hm
    obtain ⟨r', z', h1, _, h3, _⟩ := hs.heap.blk _ _ (hdeps _ hm)
    rw [← hκI b hi, hz] at h1
    simp only [Option.some.injEq, Prod.mk.injEq] at h1
    exact h1.1 ▸ h3
  have hHM : ∀ r, (Rof κ H r ∨ w.heap.size ≤ r) → E.M r := fun r h => h.elim (hRM r) fun h => .inr (Nat.le_trans hs.ext.size h)
  have g' : Grows ι ι'' imm imm' w w' := ⟨f3, g.stays, g.rows⟩
  -- a block that the callee did not have
  have hold : ∀ b k r z, st.H b = some k → ι b = some (r, z) → (∀ x ∈ H, N.σ x.1 ≠ b) → r < w.heap.size ∧ ¬ Rof κ H r := fun b k r z hb hi hne => by
    refine ⟨?_, fun ⟨c, kc, zc, hc, hz⟩ => ?_⟩
    · obtain ⟨r', z', h1, _, _, h4⟩ := hs.heap.blk b k hb
      rw [hi] at h1
      simp only [Option.some.injEq, Prod.mk.injEq] at h1
      obtain ⟨rfl, rfl⟩ := h1
      have : ∃ x, w.heap[r]? = some x := by
        cases k with
        | cells cs => obtain ⟨c, e, f, h1, _⟩ := h4; exact ⟨_, h1⟩
        | map es => obtain ⟨c, q, _, h2, _⟩ := h4; exact ⟨_, h2⟩
      obtain ⟨x, hx⟩ := this
      rcases Nat.lt_or_ge r w.heap.size with h' | h'
      · exact h'
      · rw [Array.getElem?_eq_none h'] at hx; cases hx
    · have hm := lookup_mem (l := H) hc
      rw [hκI c (ok.ids _ hm)] at hz
      exact hne _ hm (hs.heap.inj _ _ _ _ _ _ _ (hdeps _ hm) hb hz hi)
  have hnewL : ∀ b, (N.delta I H H' av).new.lookup b = (N.L.find? fun x => x.1 == b).map fun x => ((heapOf H' x.2).getD (.cells [])).ren (N.τ I) := fun b => lookup_map _ _ _
  -- what a block of the new state is
  have hcase : ∀ b k, (N.delta I H H' av).H st.H b = some k → (∃ c kc, N.knows I c = true ∧ heapOf H' c = some kc ∧ b = N.τ I c ∧ k = kc.ren (N.τ I)) ∨ ((∀ x ∈ N.L, x.1 ≠ b) ∧ (∀ x ∈ H, N.σ x.1 ≠ b) ∧ st.H b = some k) := fun b k hb => by
    simp only [Delta.H, hnewL] at hb
    cases hf : N.L.find? (fun x => x.1 == b) with
    | some x =>
      rw [hf] at hb
      simp only [Option.map_some, Option.some.injEq] at hb
      have hx := List.mem_of_find?_eq_some hf
      have hxb : x.1 = b := by simpa using List.find?_some hf
      obtain ⟨kc, hkc⟩ := Option.isSome_iff_exists.1 (ok.all x hx)
      have hi := ok.fresh x hx
      refine .inl ⟨x.2, kc, ?_, hkc, ?_, ?_⟩
      · simp only [Names.knows, Bool.or_eq_true, List.any_eq_true]; exact .inr ⟨x, hx, by simp⟩
      · simp only [Names.τ, hi, Bool.false_eq_true, if_false, find_snd ok.nodupR hx, Option.map_some, Option.getD_some]; exact hxb.symm
      · rw [hkc] at hb; simpa using hb.symm
    | none =>
      rw [hf] at hb
      simp only [Option.map_none] at hb
      have hnL : ∀ x ∈ N.L, x.1 ≠ b := fun x hx e => by
        have := List.find?_eq_none.1 hf x hx
        simp [e] at this
      cases hw : (N.delta I H H' av).wr.lookup b with
      | some q =>
        rw [hw] at hb
        simp only at hb
        subst hb
        have hm := lookup_mem hw
        simp only [Names.delta, List.mem_map] at hm
        obtain ⟨x, hx, he⟩ := hm
        simp only [Prod.mk.injEq] at he
        obtain ⟨rfl, he⟩ := he
        have hi := ok.ids x hx
        cases hh : heapOf H' x.1 with
        | none => rw [hh] at he; simp at he
        | some kc =>
          rw [hh] at he
          simp only [Option.map_some, Option.some.injEq] at he
          refine .inl ⟨x.1, kc, by simp only [Names.knows, hi, Bool.true_or], hh, by simp only [Names.τ, hi, if_true], he.symm⟩
      | none =>
        rw [hw] at hb
        simp only at hb
        refine .inr ⟨hnL, fun x hx e => ?_, hb⟩
        have hin : (N.σ x.1, (heapOf H' x.1).map (·.ren (N.τ I))) ∈ (N.delta I H H' av).wr := List.mem_map.2 ⟨x, hx, rfl⟩
        have none_of : ∀ (l : List (Nat × Option Blk)) (p : Nat × Option Blk), p ∈ l → l.lookup p.1 ≠ none := by
          intro l
          induction l with
          | nil => intro p h; cases h
          | cons y ys ih =>
            intro p h
            simp only [List.lookup]
            split
            · simp
            · rename_i hne
              cases h with
              | head => simp at hne
              | tail _ hm => exact ih p hm
        exact none_of _ _ hin (by simp only; rw [e]; exact hw)
  have sr : SR E ι'' imm' ⟨st.S, (N.delta I H H' av).H st.H, (N.delta I H H' av).U st.U⟩ a w' := by
    refine hs.turn g' hext.os hext.tape hext.output hext.size (fun k hk hM => hext.block k hk fun hR => hM (hRM k hR)) ⟨fun b k hb => ?_, fun b b' k k' r z z' hb hb' hi hi' => ?_⟩ (fun b x hx => ?_) (fun k hk => (himm k hk).elim .inl fun h => .inr (hHM k h)) hlt
    · rcases hcase b k hb with ⟨c, kc, hkn, hc, rfl, rfl⟩ | ⟨hnL, hnH, hb⟩
      · obtain ⟨r, z, q1, q2, q3, q4⟩ := hH.blk c kc hc
        exact ⟨r, z, by rw [f4 c hkn]; exact q1, q2, hHM r q3, (BlkH.ren f4 (ok.res' _ (lookup_mem hc)).2).2 q4⟩
      · obtain ⟨r, z, q1, q2, q3, q4⟩ := hs.heap.blk b k hb
        obtain ⟨hlt', hnR⟩ := hold b k r z hb q1 hnH
        exact ⟨r, z, f3 _ _ q1, fun hi => (himm r hi).elim q2 fun h => h.elim hnR fun h => Nat.not_lt.2 h hlt', q3, q4.grows g' (hext.block r hlt' hnR)⟩
    · rcases hcase b k hb with ⟨c, kc, hkn, hc, rfl, rfl⟩ | ⟨hnL, hnH, hb⟩ <;> rcases hcase b' k' hb' with ⟨c', kc', hkn', hc', rfl, rfl⟩ | ⟨hnL', hnH', hb'⟩
      · rw [f4 c hkn] at hi
        rw [f4 c' hkn'] at hi'
        rw [hH.inj c c' kc kc' r z z' hc hc' hi hi']
      · rw [f4 c hkn] at hi
        obtain ⟨r1, z1, q1, _, q3, _⟩ := hH.blk c kc hc
        rw [hi] at q1
        simp only [Option.some.injEq, Prod.mk.injEq] at q1
        obtain ⟨rfl, rfl⟩ := q1
        rw [f2 b' hnL'] at hi'
        obtain ⟨h1, h2⟩ := hold b' k' r z' hb' hi' hnH'
        exact (q3.elim h2 fun h => Nat.not_lt.2 h h1).elim
      · rw [f4 c' hkn'] at hi'
        obtain ⟨r1, z1, q1, _, q3, _⟩ := hH.blk c' kc' hc'
        rw [hi'] at q1
        simp only [Option.some.injEq, Prod.mk.injEq] at q1
        obtain ⟨rfl, rfl⟩ := q1
        rw [f2 b hnL] at hi
        obtain ⟨h1, h2⟩ := hold b k r z hb hi hnH
        exact (q3.elim h2 fun h => Nat.not_lt.2 h h1).elim
      · rw [f2 b hnL] at hi
        rw [f2 b' hnL'] at hi'
        exact hs.heap.inj b b' k k' r z z' hb hb' hi hi'
    · simp only [Delta.U, hnewL, Bool.or_eq_true]
      by_cases hb : ∃ x ∈ N.L, x.1 = b
      · obtain ⟨x, hxL, rfl⟩ := hb
        left; rw [find_fst ok.nodupL hxL]; rfl
      · right
        rw [f2 b fun y hy e => hb ⟨y, hy, e⟩] at hx
        exact hs.used b x hx
  exact ⟨ι'', imm', sr.put d hd ((VH.ren f4 av v ok.res).2 hv)⟩

theorem run_callFunc {P : Program} {f : FuncId} {fn : Func} (hf : P.funcs[f]? = some fn) (hn : (fn.name == "runtime.NumGoroutine") = false) (hb : fn.body.isNone = false) (args : Array Value) (w : World) : (callFunc f args).run P w = .ok (.enter f args) w := by
  simp only [callFunc, program, run_bind', Sem.run, hf, hn, hb, Bool.false_eq_true, if_false, run_pure']

theorem VHs.append {ι : Nat → Option (Nat × Nat)} {imm : Nat → Prop} {w : World} : ∀ {xs ys : List AV} {us vs : List Value}, VHs ι imm w xs us → VHs ι imm w ys vs → VHs ι imm w (xs ++ ys) (us ++ vs)
  | [], _, _, _, h, h' => by simp only [VHs] at h; subst h; exact h'
  | x :: xs, _, _, _, h, h' => by obtain ⟨v, us', rfl, q1, q2⟩ := h; exact ⟨v, _, rfl, q1, VHs.append q2 h'⟩

/-- A call of a function, or of a function value. -/
theorem does_call {E : Env} {o : Oper} {c : Call} {x : Operand} (ho : o.op = .call c) (hc : c.callee = .value x) (hd : ∀ d, o.dst = some d → d < E.n) {f : FuncId} {fn : Func} (hf : E.P.funcs[f]? = some fn) (hn : (fn.name == "runtime.NumGoroutine") = false) (hb : fn.body.isNone = false)
    {N : Names} {I : List Nat} {avs : List AV} {H H' : List (Nat × Blk)} {av : AV} (C : ACalls E.P f I avs H av H') (ok : CallOk N I avs H H' av) {args caps : List AV} (hargs : AV.renL N.σ avs = args ++ caps) :
    Does E o (.fn f [] caps :: args) (H.map fun x => (N.σ x.1, x.2.ren N.σ)) (N.delta I H H' av) := by
  intro ι imm st a w Q hs hv hh hfr
  have hvs := hs.evls hv
  rw [ho] at hvs
  have hops : (Op.operands (.call c)).toList = x :: c.args.toList := by simp [Op.operands, Call.operands, hc]
  rw [hops, List.map_cons] at hvs
  obtain ⟨v', us', he, hu, hvs⟩ := hvs
  simp only [List.cons.injEq] at he
  obtain ⟨he, rfl⟩ := he
  simp only [VH] at hu
  obtain ⟨fs, cs, hfv, hfs, hcs⟩ := hu
  simp only [VHs] at hfs
  subst hfs
  have hrun : (execOp a.eval o).run E.P w = .ok (.enter f ((c.args.map a.eval) ++ cs.toArray)) w := by
    simp only [execOp, ho, resolve, hc, Deferred.ofValue, he, hfv, run_bind', run_pure', invoke, run_callFunc hf hn hb]
    simp
  unfold Oper.wp
  rw [hrun, Oper.upon_enter]
  let κ : Nat → Option (Nat × Nat) := fun b => if inI I b then ι (N.σ b) else none
  have hκI : ∀ b, inI I b = true → ι (N.σ b) = κ b := fun b hb => by show _ = (if inI I b then _ else _); rw [if_pos hb]
  have hall : VHs κ imm w avs ((c.args.toList.map a.eval) ++ cs) := (VHs.ren hκI avs _ ok.args).1 (by rw [hargs]; exact hvs.append hcs)
  have hdeps : ∀ x ∈ H, st.H (N.σ x.1) = some (x.2.ren N.σ) := fun x hx => hh (N.σ x.1, x.2.ren N.σ) (List.mem_map.2 ⟨x, hx, rfl⟩)
  have hfresh : ∀ x ∈ N.L, st.U x.1 = false := fun x hx => hfr (x.1, _) (List.mem_map.2 ⟨x, hx, rfl⟩)
  have hHR : HR κ imm w E.M (heapOf H) := by
    refine ⟨fun b k hbk => ?_, fun b b' k k' r z z' hbk hbk' hi hi' => ?_⟩
    · have hm := lookup_mem (l := H) hbk
      obtain ⟨r, z, q1, q2, q3, q4⟩ := hs.heap.blk _ _ (hdeps _ hm)
      exact ⟨r, z, (hκI b (ok.ids _ hm)).symm.trans q1, q2, q3, (BlkH.ren hκI (ok.blks _ hm)).1 q4⟩
    · have hm := lookup_mem (l := H) hbk
      have hm' := lookup_mem (l := H) hbk'
      rw [← hκI b (ok.ids _ hm)] at hi
      rw [← hκI b' (ok.ids _ hm')] at hi'
      exact ok.inj b b' (ok.ids _ hm) (ok.ids _ hm') (hs.heap.inj _ _ _ _ r z z' (hdeps _ hm) (hdeps _ hm') hi hi')
  have hsome : ∀ b, inI I b = true → (κ b).isSome = true := fun b hb => by
    rcases ok.used b hb with h | h
    · refine refs_in (U := fun b => (κ b).isSome) (VHs.within (fun b x hx => by simp [hx]) avs _ hall) (fun x hx => ?_) h
      have hl := lookup_of_mem ok.nodup hx
      obtain ⟨r, z, _, _, _, q4⟩ := hHR.blk x.1 x.2 hl
      exact BlkH.within (fun b x hx => by simp [hx]) x.2 q4
    · obtain ⟨k, hk⟩ := Option.isSome_iff_exists.1 h
      obtain ⟨r, z, q1, _⟩ := hHR.blk b k hk
      rw [q1]; rfl
  have hC := C κ imm w E.M _ hHR hall hs.immlt (fun b x hx => by
    by_cases h : inI I b = true
    · exact h
    · have : κ b = none := by show (if inI I b then _ else _) = _; rw [if_neg h]
      rw [this] at hx; cases hx)
  have harr : (c.args.map a.eval) ++ cs.toArray = List.toArray ((c.args.toList.map a.eval) ++ cs) := by
    apply Array.ext'; simp
  rw [harr]
  refine hC.mono ?_
  rintro e w' ⟨v, ι', imm', rfl, q1, q2, q3, q4, q5, q6⟩
  exact call_end ok hs hdeps hfresh rfl hsome q1 q2 q3 q4 q5 q6 hd
end Go.Am

/- An abstract machine over the kit's calls, part 12: all operations in one function (prim), and that it tells the truth. No conditions. -/
namespace Go.Am

abbrev PrimR := Option (Prop × List (Nat × Blk) × Delta)

def PV.isNe : List PV → Bool
  | [] => false
  | _ :: _ => true

def primLoad (T : Tab) (t : TypeId) (vs : List AV) (H : Nat → Option Blk) : PrimR :=
  match T.lookup t with
  | none => none
  | some r => match vs with
    | [.ptr b k] => match H b with
      | some (.cells cs) => match readAV r (cs.drop k) with
        | some z => some (True, [(b, .cells cs)], { v := z })
        | none => none
      | _ => none
    | [.rp ps] => if PV.isNe ps then (match readAV r (ps.map .pv) with
        | some z => some (True, [], { v := z })
        | none => none) else none
    | _ => none

def primStore (T : Tab) (t : TypeId) (d : Option Nat) (vs : List AV) (H : Nat → Option Blk) : PrimR :=
  match T.lookup t, d with
  | some r, none => match vs with
    | [.ptr b k, u] => match H b, cellsOf u with
      | some (.cells cs), some xs => if xs.length = r.size ∧ k + xs.length ≤ cs.length ∧ xs.all flatCell = true then some (True, [(b, .cells cs)], { v := .undef, wr := [(b, some (.cells (setRange cs k xs)))] }) else none
      | _, _ => none
    | _ => none
  | _, _ => none

def primBox (d : Option Nat) (vs : List AV) : PrimR :=
  match d, vs with
  | some d, [u] => match cellsOf u with
    | some cs => some (True, [], { v := .ptr d 0, new := [(d, .cells cs)] })
    | none => none
  | _, _ => none

def primAlloc (T : Tab) (t : TypeId) (d : Option Nat) (vs : List AV) : PrimR :=
  match T.lookup t, d, vs with
  | some r, some d, [] => some (True, [], { v := .ptr d 0, new := [(d, .cells (r.zero.cells.toList.map constCell))] })
  | _, _, _ => none

def primBuild (T : Tab) (t : TypeId) (parts : List (Nat × Operand)) (vs : List AV) : PrimR :=
  match T.lookup t with
  | none => none
  | some r => match placesOf T r.desc with
    | none => none
    | some pl => match fillAV pl (r.zero.cells.toList.map constCell) (parts.zipWith (fun p u => (p.1, u)) vs) with
      | some zs => some (True, [], { v := .agg zs })
      | none => none

def primBuildSlice (T : Tab) (t : TypeId) (n : Nat) (parts : List (Nat × Operand)) (d : Option Nat) (vs : List AV) : PrimR :=
  match T.lookup t, d with
  | some r, some d => match r.desc with
    | .slice e => match T.lookup e with
      | some re => match fillAV (fun i => some (i * re.size, re.size)) (zeroAV re.zero.cells (n * re.size)) (parts.zipWith (fun p u => (p.1, u)) vs) with
        | some zs => if n * re.size ≤ 16777216 ∧ zs.length = n * re.size then some (True, [], { v := .sl d 0 n re.size true, new := [(d, .cells zs)] }) else none
        | none => none
      | none => none
    | _ => none
  | _, _ => none

def primConv (T : Tab) (src dst : TypeId) (vs : List AV) : PrimR :=
  match T.lookup src, T.lookup dst with
  | some _, some rd => match vs with
    | [.pv (.lit (.int _ n))] => match rd.desc with
      | .int k' => some (True, [], { v := .pv (.lit (.int k' (k'.wrap n))) })
      | _ => none
    | [.pv (.lit (.string s))] => match rd.desc with
      | .string => some (True, [], { v := .pv (.lit (.string s)) })
      | _ => none
    | _ => none
  | _, _ => none

def primSlice (T : Tab) (t : TypeId) (lo hi mx : Option Operand) (vs : List AV) (H : Nat → Option Blk) : PrimR :=
  match T.lookup t, vs with
  | some r, u :: vs => match optI vs lo with
    | some (l, v1) => match optI v1 hi with
      | some (h, v2) => match optI v2 mx with
        | some (m, _) => match sliceAV T r.desc H u l h m with
          | some (p, hs, z) => some (p, hs, { v := z })
          | none => none
        | none => none
      | none => none
    | none => none
  | _, _ => none

def lenAV : AV → Option AV
  | .pv (.sl _ n _) | .tsl n _ | .sl _ _ n _ _ => some (.pv (.lit (.int .i64 n)))
  | .pv (.lit (.string s)) => some (.pv (.lit (.int .i64 s.size)))
  | _ => none

def primBuiltin (T : Tab) (b : Builtin) (tys : List TypeId) (vs : List AV) : PrimR :=
  match b, tys, vs with
  | .len, [t], [u] => match T.lookup t with
    | some r => match r.desc, u with
      | .slice _, .pv (.sl _ n _) => some (True, [], { v := .pv (.lit (.int .i64 n)) })
      | .slice _, .tsl n _ => some (True, [], { v := .pv (.lit (.int .i64 n)) })
      | .slice _, .sl _ _ n _ _ => some (True, [], { v := .pv (.lit (.int .i64 n)) })
      | .string, .pv (.lit (.string s)) => some (True, [], { v := .pv (.lit (.int .i64 s.size)) })
      | _, _ => none
    | none => none
  | _, _, _ => none

def primBin (T : Tab) (op : BinOp) (t : TypeId) (vs : List AV) : PrimR :=
  match vs, T.lookup t with
  | [u, v], some r => match binAV op r.desc u v with
    | some (p, z) => some (p, [], { v := z })
    | none => match eqAgg T op r u v with
      | some z => some (True, [], { v := z })
      | none => match eqNil op r.desc u v with
        | some z => some (True, [], { v := z })
        | none => none
  | _, _ => none

def primField (T : Tab) (t : TypeId) (f : Nat) (vs : List AV) : PrimR :=
  match vs, T.lookup t with
  | [.agg cs], some r => match r.desc with
    | .struct fs => match fs[f]? with
      | some fd => match T.lookup fd.type with
        | some rf => match partV rf cs fd.offset with
          | some z => some (True, [], { v := z })
          | none => none
        | none => none
      | none => none
    | _ => none
  | _, _ => none

def primToArray (T : Tab) (t : TypeId) (vs : List AV) : PrimR :=
  match vs, T.lookup t with
  | [u], some r => match r.desc with
    | .array n e => match T.lookup e with
      | some re => match arrAV n re.size u with
        | some (p, z) => some (p, [], { v := z })
        | none => none
      | none => none
    | _ => none
  | _, _ => none

def primMakeSlice (T : Tab) (t : TypeId) (d : Option Nat) (vs : List AV) : PrimR :=
  match vs, T.lookup t, d with
  | [.pv (.lit (.int _ len)), .pv (.lit (.int _ cap))], some r, some d => match r.desc with
    | .slice e => match T.lookup e with
      | some re => some (0 ≤ len ∧ len ≤ cap ∧ cap ≤ 140737488355328 ∧ re.bytes * cap ≤ 140737488355328, [], { v := .sl d 0 len.toNat re.size (decide (len = cap)), new := [(d, .cells (zeroAV re.zero.cells (cap.toNat * re.size)))] })
      | none => none
    | _ => none
  | _, _, _ => none

/-- What an operation does: what must hold, which blocks it looks at, and what comes of it. -/
def prim (T : Tab) (o : Oper) (vs : List AV) (H : Nat → Option Blk) : PrimR :=
  match o.op with
  | .move _ | .assign _ => match vs with | [v] => some (True, [], { v := v }) | _ => none
  | .pick _ _ _ => match vs with | [.pv (.lit (.bool b)), x, y] => some (True, [], { v := pickAV b x y }) | _ => none
  | .alloc t => primAlloc T t o.dst vs
  | .box _ _ => primBox o.dst vs
  | .build t parts => primBuild T t parts.toList vs
  | .buildSlice t n parts => primBuildSlice T t n parts.toList o.dst vs
  | .load t _ => primLoad T t vs H
  | .store t _ _ => primStore T t o.dst vs H
  | .nilCheck _ => match vs with | [u] => if liveAV u then some (True, [], { v := u }) else none | _ => none
  | .binOp op t _ _ _ => primBin T op t vs
  | .index t _ _ => match vs, T.lookup t with
    | [u, .pv (.lit (.int _ i))], some r => match idxAV T r.desc u i with | some (p, z) => some (p, [], { v := z }) | none => none
    | _, _ => none
  | .field t _ f => primField T t f vs
  | .sliceToArrayPointer t _ => primToArray T t vs
  | .makeSlice t _ _ => primMakeSlice T t o.dst vs
  | .unOp op _ _ => match vs with | [u] => (match unAV op u with | some z => some (True, [], { v := z }) | none => none) | _ => none
  | .convert src dst _ => primConv T src dst vs
  | .fieldAddr s _ f => match vs, T.lookup s with
    | [u], some r => match fieldOf T r.desc f with
      | some (off, len, _) => match partAV u off len with | some z => some (True, [], { v := z }) | none => none
      | none => none
    | _, _ => none
  | .indexAddr t _ _ => match vs, T.lookup t with
    | [u, .pv (.lit (.int _ i))], some r => match elemAV T r.desc u i with | some (p, z) => some (p, [], { v := z }) | none => none
    | _, _ => none
  | .slice t _ lo hi mx => primSlice T t lo hi mx vs H
  | .extract _ i => match vs with | [.tup us] => (match us[i]? with | some z => some (True, [], { v := z }) | none => none) | _ => none
  | .makeFunc (.func f) first _ => if first.size = 0 then some (True, [], { v := .fn f [] vs }) else none
  | .call c => match c.callee with
    | .builtin b => primBuiltin T b c.argTypes.toList vs
    | _ => none
  | _ => none

section sound
variable {E : Env} {T : Tab}

theorem does_len (hT : TabOk E.P T) {o : Oper} {c : Call} (ho : o.op = .call c) (hc : c.callee = .builtin .len) (hd : ∀ d, o.dst = some d → d < E.n) {vs : List AV} {p : Prop} {hs : List (Nat × Blk)} {δ : Delta} (h : primBuiltin T .len c.argTypes.toList vs = some (p, hs, δ)) : Does E o vs hs δ ∧ ∃ n, hs = [] ∧ δ = { v := .pv (.lit (.int .i64 n)) } := by
  unfold primBuiltin at h
  split at h
  · rename_i t u hb hts
    split at h
    · rename_i r hr
      have key : ∀ n, δ = { v := .pv (.lit (.int .i64 n)) } → hs = [] → (∀ ι imm st (a : Act) w, SR E ι imm st a w → VHs ι imm w [u] (o.op.operands.toList.map a.eval) → ∃ x, c.args.toList.map a.eval = [x] ∧ (Builtin.len_ #[t] o.type #[x]).run E.P w = .ok (.int .i64 n) w) → Does E o [u] hs δ ∧ ∃ n, hs = [] ∧ δ = { v := .pv (.lit (.int .i64 n)) } := by
        intro n e1 e2 hh
        subst e1; subst e2
        refine ⟨Does.value hd fun ι imm st a w hs hv _ => ?_, n, rfl, rfl⟩
        obtain ⟨x, hx, hrun⟩ := hh ι imm st a w hs hv
        refine ⟨.int .i64 n, ?_, by simp [VH, PH, flatB]⟩
        have h1 : c.args.map a.eval = #[x] := by apply Array.ext'; simpa using hx
        have h2 : c.argTypes = #[t] := by apply Array.ext'; simpa using hts
        simp only [execOp, ho, resolve, hc, run_bind', run_pure', invoke, builtin, h1, h2, hrun]
      have one_arg : ∀ (a : Act) (ι : Nat → Option (Nat × Nat)) (imm : Nat → Prop) (w : World), VHs ι imm w [u] (o.op.operands.toList.map a.eval) → ∃ x, c.args.toList.map a.eval = [x] ∧ VH ι imm w u x := by
        intro a ι imm w hv
        have hops : o.op.operands.toList = c.args.toList := by rw [ho]; simp [Op.operands, Call.operands, hc]
        rw [hops] at hv
        obtain ⟨x, us, he, h1, h2⟩ := hv
        simp only [VHs] at h2
        subst h2
        exact ⟨x, he, h1⟩
      have hu := run_underlying hT hr (P := E.P)
      split at h
      all_goals first | (cases h; done) | skip
      all_goals (simp only [Option.some.injEq, Prod.mk.injEq] at h; obtain ⟨rfl, rfl, rfl⟩ := h)
      all_goals rename_i hdesc
      all_goals refine key _ rfl rfl fun ι imm st a w hs hv => ?_
      all_goals obtain ⟨x, hx, hv⟩ := one_arg a ι imm w hv
      all_goals refine ⟨x, hx, ?_⟩
      · simp only [VH, PH] at hv
        obtain ⟨A, cap, rfl, _⟩ := hv
        simp [Builtin.len_, hu, hdesc, goInt]
      · simp only [VH] at hv
        obtain ⟨A, rfl, _⟩ := hv
        simp [Builtin.len_, hu, hdesc, goInt]
      · simp only [VH] at hv
        obtain ⟨r, z, cap, _, rfl, _⟩ := hv
        simp [Builtin.len_, hu, hdesc, goInt]
      · simp only [VH, PH] at hv
        obtain ⟨rfl, _⟩ := hv
        simp [Builtin.len_, hu, hdesc, goInt]
    · cases h
  · cases h

theorem does_makeFunc {o : Oper} {f : FuncId} {first caps : Array Operand} (ho : o.op = .makeFunc (.func f) first caps) (h0 : first.size = 0) (hd : ∀ d, o.dst = some d → d < E.n) {vs : List AV} : Does E o vs [] { v := .fn f [] vs } := by
  refine Does.value hd fun ι imm st a w hs hv _ => ?_
  have hf : first = #[] := Array.eq_empty_of_size_eq_zero h0
  subst hf
  rw [ho] at hv
  simp only [Op.operands, Array.empty_append] at hv
  refine ⟨.func (.func f) #[] (caps.map a.eval), by simp only [execOp, ho, Instr.makeFunc, run_bind', run_pure', Array.map_empty], ⟨[], caps.toList.map a.eval, ?_, rfl, hv⟩⟩
  congr 1
  apply Array.ext'; simp

theorem PV.isNe_spec {ps : List PV} (h : PV.isNe ps = true) : ps ≠ [] := by
  intro e; subst e; cases h

/-- What comes of an operation names nothing but what its operands and the blocks that it looks at name. -/
def InRefs (vs : List AV) (hs : List (Nat × Blk)) (δ : Delta) : Prop :=
  ∀ U : Nat → Bool, AV.withinL U vs = true → (∀ x ∈ hs, x.2.within U = true) → (∀ x ∈ δ.new, U x.1 = true) → δ.v.within U = true ∧ (∀ x ∈ δ.new, x.2.within U = true) ∧ (∀ x ∈ δ.wr, U x.1 = true ∧ ∀ k, x.2 = some k → k.within U = true)

theorem within_consts (U : Nat → Bool) (l : List Value) : AV.withinL U (l.map constCell) = true :=
  AV.withinL_of fun x hx => by
    obtain ⟨v, _, rfl⟩ := List.mem_map.1 hx
    unfold constCell; split <;> rfl
theorem within_cellsOf {U : Nat → Bool} {u : AV} {cs : List AV} (h : cellsOf u = some cs) (hu : u.within U = true) : AV.withinL U cs = true := by
  cases u <;> simp only [cellsOf, Option.some.injEq, reduceCtorEq] at h <;> subst h
  all_goals first
    | exact hu
    | (simp only [AV.withinL, Bool.and_eq_true]; exact ⟨hu, trivial⟩)
theorem within_sub {U : Nat → Bool} {xs ys : List AV} (h : AV.withinL U ys = true) (hs : ∀ x ∈ xs, x ∈ ys) : AV.withinL U xs = true :=
  AV.withinL_of fun x hx => AV.withinL_mem h x (hs x hx)
theorem within_setRange {U : Nat → Bool} {cs xs : List AV} {k : Nat} (h1 : AV.withinL U cs = true) (h2 : AV.withinL U xs = true) : AV.withinL U (setRange cs k xs) = true := by
  refine AV.withinL_of fun x hx => ?_
  simp only [setRange, List.mem_append] at hx
  rcases hx with (hx | hx) | hx
  · exact AV.withinL_mem h1 x (List.mem_of_mem_take hx)
  · exact AV.withinL_mem h2 x hx
  · exact AV.withinL_mem h1 x (List.mem_of_mem_drop hx)
theorem within_fill {U : Nat → Bool} {pl : Nat → Option (Nat × Nat)} : ∀ {ps : List (Nat × AV)} {cs zs : List AV}, fillAV pl cs ps = some zs → AV.withinL U cs = true → (∀ x ∈ ps, x.2.within U = true) → AV.withinL U zs = true
  | [], cs, zs, h, h1, _ => by simp only [fillAV, Option.some.injEq] at h; subst h; exact h1
  | (i, x) :: ps, cs, zs, h, h1, h2 => by
    simp only [fillAV] at h
    split at h
    · rename_i off size xs _ hx
      split at h
      · exact within_fill h (within_setRange h1 (within_cellsOf hx (h2 _ (List.mem_cons_self ..)))) fun y hy => h2 y (List.mem_cons_of_mem _ hy)
      · cases h
    · cases h
theorem within_zip {U : Nat → Bool} : ∀ {parts : List (Nat × Operand)} {vs : List AV}, AV.withinL U vs = true → ∀ x ∈ parts.zipWith (fun p u => (p.1, u)) vs, x.2.within U = true
  | [], vs, _, x, hx => by simp at hx
  | p :: ps, [], _, x, hx => by simp at hx
  | p :: ps, v :: vs, h, x, hx => by
    simp only [AV.withinL, Bool.and_eq_true] at h
    simp only [List.zipWith_cons_cons, List.mem_cons] at hx
    rcases hx with rfl | hx
    · exact h.1
    · exact within_zip h.2 x hx
theorem within_read {U : Nat → Bool} {r : TyRow} {cs : List AV} {z : AV} (h : readAV r cs = some z) (hc : AV.withinL U cs = true) : z.within U = true := by
  unfold readAV at h
  split at h
  · split at h
    · simp only [Option.some.injEq] at h; subst h
      exact within_sub hc fun x hx => List.mem_of_mem_take hx
    · cases h
  · cases cs with
    | nil => cases h
    | cons y ys => simp only [List.head?_cons, Option.some.injEq] at h; subst h; exact AV.withinL_mem hc _ (List.mem_cons_self ..)
theorem within_pvs (U : Nat → Bool) (ps : List PV) : AV.withinL U (ps.map .pv) = true := AV.withinL_of fun x hx => by
  obtain ⟨p, _, rfl⟩ := List.mem_map.1 hx; rfl
theorem within_bin {U : Nat → Bool} {op : BinOp} {d : TypeDesc} {x y z : AV} {p : Prop} (h : binAV op d x y = some (p, z)) : z.within U = true := by
  have hi : ∀ {op k a b}, intAV op k a b = some (p, z) → z.within U = true := fun {op k a b} h => by
    cases op <;> simp only [intAV, Option.some.injEq, Prod.mk.injEq, reduceCtorEq] at h
    all_goals (obtain ⟨_, rfl⟩ := h; rfl)
  have hst : ∀ {op a b}, strAV op a b = some (p, z) → z.within U = true := fun {op a b} h => by
    cases op <;> simp only [strAV, Option.some.injEq, Prod.mk.injEq, reduceCtorEq] at h
    all_goals (obtain ⟨_, rfl⟩ := h; rfl)
  unfold binAV at h
  split at h
  · simp only [Option.some.injEq, Prod.mk.injEq] at h; obtain ⟨_, rfl⟩ := h; rfl
  · simp only [Option.some.injEq, Prod.mk.injEq] at h; obtain ⟨_, rfl⟩ := h; rfl
  · split at h
    · exact hi h
    · cases h
  · exact hst h
  · split at h
    · simp only [Option.some.injEq, Prod.mk.injEq] at h; obtain ⟨_, rfl⟩ := h; rfl
    · cases h
  · split at h
    · simp only [Option.some.injEq, Prod.mk.injEq] at h; obtain ⟨_, rfl⟩ := h; rfl
    · cases h
  · cases h
theorem within_eqAgg {U : Nat → Bool} {op : BinOp} {r : TyRow} {x y z : AV} (h : eqAgg T op r x y = some z) : z.within U = true := by
  unfold eqAgg at h
  repeat' split at h
  all_goals first | (cases h; done) | (simp only [Option.some.injEq] at h; subst h; rfl)
theorem within_eqNil {U : Nat → Bool} {op : BinOp} {d : TypeDesc} {x y z : AV} (h : eqNil op d x y = some z) : z.within U = true := by
  unfold eqNil opB at h
  repeat' split at h
  all_goals first | (cases h; done) | (simp only [Option.some.injEq] at h; subst h; rfl)
theorem within_partV {U : Nat → Bool} {r : TyRow} {cs : List AV} {off : Nat} {z : AV} (h : partV r cs off = some z) (hc : AV.withinL U cs = true) : z.within U = true := by
  unfold partV at h
  split at h
  · split at h
    · simp only [Option.some.injEq] at h; subst h
      exact within_sub hc fun x hx => List.mem_of_mem_drop (List.mem_of_mem_take hx)
    · cases h
  · have : AV.withinL U (cs.drop off) = true := within_sub hc fun x hx => List.mem_of_mem_drop hx
    cases hd : cs.drop off with
    | nil => rw [hd] at h; cases h
    | cons y ys => rw [hd] at h this; simp only [List.head?_cons, Option.some.injEq] at h; subst h; exact AV.withinL_mem this _ (List.mem_cons_self ..)
theorem within_idx {U : Nat → Bool} {d : TypeDesc} {x z : AV} {i : Int} {p : Prop} (h : idxAV T d x i = some (p, z)) (hx : x.within U = true) : z.within U = true := by
  unfold idxAV at h
  split at h
  · split at h
    · split at h
      · rename_i z' hz
        simp only [Option.some.injEq, Prod.mk.injEq] at h; obtain ⟨_, rfl⟩ := h; exact within_partV hz hx
      · cases h
    · cases h
  · simp only [Option.some.injEq, Prod.mk.injEq] at h; obtain ⟨_, rfl⟩ := h; rfl
  · cases h
theorem within_un {U : Nat → Bool} {op : UnOp} {x z : AV} (h : unAV op x = some z) : z.within U = true := by
  unfold unAV at h
  split at h <;> first | (cases h; done) | (simp only [Option.some.injEq] at h; subst h; rfl)
theorem within_pick {U : Nat → Bool} {b : Bool} {x y : AV} (hx : x.within U = true) (hy : y.within U = true) : (pickAV b x y).within U = true := by
  unfold pickAV
  split
  · rfl
  · split
    · rfl
    · cases b <;> rfl
  · cases b
    · exact hy
    · exact hx
theorem within_part {U : Nat → Bool} {x z : AV} {o l : Nat} (h : partAV x o l = some z) (hx : x.within U = true) : z.within U = true := by
  cases x <;> simp only [partAV, Option.some.injEq, reduceCtorEq] at h <;> subst h
  · exact hx
  · rfl
theorem within_elem {U : Nat → Bool} {d : TypeDesc} {x z : AV} {i : Int} {p : Prop} (h : elemAV T d x i = some (p, z)) (hx : x.within U = true) : z.within U = true := by
  unfold elemAV at h
  split at h
  · split at h
    · split at h
      · simp only [Option.some.injEq, Prod.mk.injEq] at h; obtain ⟨_, rfl⟩ := h; exact hx
      · simp only [Option.some.injEq, Prod.mk.injEq] at h; obtain ⟨_, rfl⟩ := h; rfl
      · cases h
    · cases h
  · split at h
    · split at h
      · simp only [Option.some.injEq, Prod.mk.injEq] at h; obtain ⟨_, rfl⟩ := h; rfl
      · simp only [Option.some.injEq, Prod.mk.injEq] at h; obtain ⟨_, rfl⟩ := h; rfl
      · split at h
        · simp only [Option.some.injEq, Prod.mk.injEq] at h; obtain ⟨_, rfl⟩ := h; exact hx
        · cases h
      · cases h
    · cases h
  · cases h
theorem within_slice {U : Nat → Bool} {d : TypeDesc} {H : Nat → Option Blk} {x z : AV} {lo hi mx : Option Int} {p : Prop} {hs : List (Nat × Blk)} (h : sliceAV T d H x lo hi mx = some (p, hs, z)) (hx : x.within U = true) : z.within U = true := by
  unfold sliceAV at h
  repeat' split at h
  all_goals first | (cases h; done) | (simp only [Option.some.injEq, Prod.mk.injEq] at h; obtain ⟨_, _, rfl⟩ := h; first | exact hx | rfl)
theorem slice_deps {d : TypeDesc} {H : Nat → Option Blk} {x z : AV} {lo hi mx : Option Int} {p : Prop} {hs : List (Nat × Blk)} (h : sliceAV T d H x lo hi mx = some (p, hs, z)) : hs = [] ∨ ∃ b o cs, x = .ptr b o ∧ H b = some (.cells cs) ∧ hs = [(b, .cells cs)] := by
  unfold sliceAV at h
  repeat' split at h
  all_goals first | (cases h; done) | skip
  all_goals (simp only [Option.some.injEq, Prod.mk.injEq] at h; obtain ⟨_, rfl, _⟩ := h)
  all_goals first | exact .inl rfl | exact .inr ⟨_, _, _, rfl, by assumption, rfl⟩

/-- The class of an operation; calls of Go's own functions as told. -/
def clsOf0 (cq : Oper → Cls) (o : Oper) : Cls :=
  match o.op with
  | .move _ | .assign _ | .pick _ _ _ | .build _ _ | .nilCheck _ | .binOp _ _ _ _ _ | .unOp _ _ _ | .convert _ _ _ | .fieldAddr _ _ _ | .indexAddr _ _ _ | .extract _ _ | .makeFunc _ _ _ | .index _ _ _ | .field _ _ _ | .sliceToArrayPointer _ _ => .pure
  | .alloc _ | .box _ _ | .buildSlice _ _ _ | .load _ _ | .slice _ _ _ _ _ | .makeSlice _ _ _ => .quiet
  | .call c => match c.callee with
    | .builtin .len => .pure
    | .builtin _ => .writer
    | _ => cq o
  | _ => .writer
def clsOf (cq : Oper → Cls) (o : Oper) : Cls :=
  match cq o with
  | .reads bs => .reads bs
  | .writes bs => .writes bs
  | _ => clsOf0 cq o
theorem clsOf_pure {cq : Oper → Cls} {o : Oper} (h : clsOf cq o = .pure) : clsOf0 cq o = .pure := by
  unfold clsOf at h; split at h <;> first | (cases h; done) | exact h
theorem clsOf_quiet {cq : Oper → Cls} {o : Oper} (h : clsOf cq o = .quiet) : clsOf0 cq o = .quiet := by
  unfold clsOf at h; split at h <;> first | (cases h; done) | exact h

structure PrimOk (E : Env) (T : Tab) (cq : Oper → Cls) (o : Oper) (vs : List AV) (H : Nat → Option Blk) (hs : List (Nat × Blk)) (δ : Delta) : Prop where
  does : Does E o vs hs δ
  deps : ∀ x ∈ hs, H x.1 = some x.2
  reach : reachB vs [] hs = true
  inr : InRefs vs hs δ
  pure : clsOf0 cq o = .pure → hs = [] ∧ δ.new = [] ∧ δ.wr = []
  quiet : clsOf0 cq o = .quiet → δ.wr = []

theorem PrimOk.value {cq : Oper → Cls} {o : Oper} {vs : List AV} {H : Nat → Option Blk} {z : AV} (hd : Does E o vs [] { v := z }) (hz : ∀ U, AV.withinL U vs = true → z.within U = true) : PrimOk E T cq o vs H [] { v := z } :=
  ⟨hd, fun _ h => (by cases h), rfl, fun U h1 _ _ => ⟨hz U h1, fun _ h => (by cases h), fun _ h => (by cases h)⟩, fun _ => ⟨rfl, rfl, rfl⟩, fun _ => rfl⟩

theorem reach_ptr {b : Nat} {u : AV} {vs : List AV} {k : Blk} (hu : ∀ U : Nat → Bool, u.within U = U b ∨ (u.within U = true → U b = true)) : reachB (u :: vs) [] [(b, k)] = true := by
  have : u.within (· != b) = false := by
    rcases hu (· != b) with h | h
    · rw [h]; simp
    · cases hw : u.within (· != b) with
      | false => rfl
      | true => have := h hw; simp at this
  simp [reachB, refs, AV.withinL, this]

theorem prim_ok (hT : TabOk E.P T) (cq : Oper → Cls) {o : Oper} {vs : List AV} {H : Nat → Option Blk} {p : Prop} {hs : List (Nat × Blk)} {δ : Delta} (hd : ∀ d, o.dst = some d → d < E.n) (h : prim T o vs H = some (p, hs, δ)) (hp : p) : PrimOk E T cq o vs H hs δ := by
  unfold prim at h
  split at h
  · rename_i x ho
    split at h
    · simp only [Option.some.injEq, Prod.mk.injEq] at h
      obtain ⟨rfl, rfl, rfl⟩ := h
      exact .value (does_move (.inl ho) hd) fun U h => AV.withinL_mem h _ (List.mem_cons_self ..)
    · cases h
  · rename_i x ho
    split at h
    · simp only [Option.some.injEq, Prod.mk.injEq] at h
      obtain ⟨rfl, rfl, rfl⟩ := h
      exact .value (does_move (.inr ho) hd) fun U h => AV.withinL_mem h _ (List.mem_cons_self ..)
    · cases h
  · rename_i c x y ho
    split at h
    · simp only [Option.some.injEq, Prod.mk.injEq] at h
      obtain ⟨rfl, rfl, rfl⟩ := h
      exact .value (does_pick ho hd) fun U h => within_pick (AV.withinL_mem h _ (by simp)) (AV.withinL_mem h _ (by simp))
    · cases h
  · rename_i t ho
    unfold primAlloc at h
    split at h
    · rename_i r d hr hdst
      simp only [Option.some.injEq, Prod.mk.injEq] at h
      obtain ⟨rfl, rfl, rfl⟩ := h
      refine ⟨does_alloc hT ho hdst (hd d hdst) hr, fun _ h => (by cases h), rfl, fun U _ _ h3 => ⟨?_, fun x hx => ?_, fun _ h => (by cases h)⟩, fun hc => by simp [clsOf0, ho] at hc, fun _ => rfl⟩
      · exact h3 _ (List.mem_cons_self ..)
      · simp only [List.mem_singleton] at hx; subst hx; exact within_consts U _
    · cases h
  · rename_i t x ho
    unfold primBox at h
    split at h
    · rename_i d u hdst
      split at h
      · rename_i cs hcs
        simp only [Option.some.injEq, Prod.mk.injEq] at h
        obtain ⟨rfl, rfl, rfl⟩ := h
        refine ⟨does_box ho hdst (hd d hdst) hcs, fun _ h => (by cases h), rfl, fun U h1 _ h3 => ⟨h3 _ (List.mem_cons_self ..), fun x hx => ?_, fun _ h => (by cases h)⟩, fun hc => by simp [clsOf0, ho] at hc, fun _ => rfl⟩
        simp only [List.mem_singleton] at hx; subst hx
        exact within_cellsOf hcs (AV.withinL_mem h1 _ (List.mem_cons_self ..))
      · cases h
    · cases h
  · rename_i t parts ho
    unfold primBuild at h
    split at h
    · cases h
    · rename_i r hr
      split at h
      · cases h
      · rename_i pl hpl
        split at h
        · rename_i zs hz
          simp only [Option.some.injEq, Prod.mk.injEq] at h
          obtain ⟨rfl, rfl, rfl⟩ := h
          exact .value (does_build hT ho hd hr hpl hz) fun U h => within_fill hz (within_consts U _) (within_zip h)
        · cases h
  · rename_i t n parts ho
    unfold primBuildSlice at h
    split at h
    · rename_i r d hr hdst
      split at h
      · rename_i e hdesc
        split at h
        · rename_i re hre
          split at h
          · rename_i zs hz
            split at h
            · rename_i hc
              simp only [Option.some.injEq, Prod.mk.injEq] at h
              obtain ⟨rfl, rfl, rfl⟩ := h
              refine ⟨does_buildSlice hT ho hdst (hd d hdst) hr hdesc hre hc.1 hz hc.2, fun _ h => (by cases h), rfl, fun U h1 _ h3 => ⟨h3 _ (List.mem_cons_self ..), fun x hx => ?_, fun _ h => (by cases h)⟩, fun hc => by simp [clsOf0, ho] at hc, fun _ => rfl⟩
              simp only [List.mem_singleton] at hx; subst hx
              refine within_fill hz ?_ (within_zip h1)
              refine AV.withinL_of fun x hx => ?_
              simp only [zeroAV, List.mem_map] at hx
              obtain ⟨i, _, rfl⟩ := hx
              unfold constCell; split <;> rfl
            · cases h
          · cases h
        · cases h
      · cases h
    · cases h
  · rename_i t x ho
    unfold primLoad at h
    split at h
    · cases h
    · rename_i r hr
      split at h
      · rename_i b k
        split at h
        · rename_i cs hcs
          split at h
          · rename_i z hz
            simp only [Option.some.injEq, Prod.mk.injEq] at h
            obtain ⟨rfl, rfl, rfl⟩ := h
            refine ⟨does_loadOwn hT ho hd hr hz, fun x hx => ?_, reach_ptr fun U => .inl rfl, fun U _ h2 _ => ⟨?_, fun _ h => (by cases h), fun _ h => (by cases h)⟩, fun hc => by simp [clsOf0, ho] at hc, fun _ => rfl⟩
            · simp only [List.mem_singleton] at hx; subst hx; exact hcs
            · exact within_read hz (within_sub (h2 _ (List.mem_cons_self ..)) fun x hx => List.mem_of_mem_drop hx)
          · cases h
        · cases h
      · split at h
        · rename_i hne
          split at h
          · rename_i z hz
            simp only [Option.some.injEq, Prod.mk.injEq] at h
            obtain ⟨rfl, rfl, rfl⟩ := h
            exact .value (does_loadImm hT ho hd hr hz (PV.isNe_spec hne)) fun U _ => within_read hz (within_pvs U _)
          · cases h
        · cases h
      · cases h
  · rename_i t x y ho
    unfold primStore at h
    split at h
    · rename_i r hr hdst
      split at h
      · rename_i b k u
        split at h
        · rename_i cs xs hcs hxs
          split at h
          · rename_i hc
            simp only [Option.some.injEq, Prod.mk.injEq] at h
            obtain ⟨rfl, rfl, rfl⟩ := h
            refine ⟨does_store hT ho hdst hr hxs hc.1 hc.2.1 hc.2.2, fun x hx => ?_, reach_ptr fun U => .inl rfl, fun U h1 h2 _ => ⟨rfl, fun _ h => (by cases h), fun x hx => ?_⟩, fun hc => by simp [clsOf0, ho] at hc, fun hc => by simp [clsOf0, ho] at hc⟩
            · simp only [List.mem_singleton] at hx; subst hx; exact hcs
            · simp only [List.mem_singleton] at hx; subst hx
              refine ⟨AV.withinL_mem h1 _ (List.mem_cons_self ..), fun k hk => ?_⟩
              simp only [Option.some.injEq] at hk; subst hk
              exact within_setRange (h2 _ (List.mem_cons_self ..)) (within_cellsOf hxs (AV.withinL_mem h1 _ (by simp)))
          · cases h
        · cases h
      · cases h
    · cases h
  · rename_i x ho
    split at h
    · split at h
      · rename_i hl
        simp only [Option.some.injEq, Prod.mk.injEq] at h
        obtain ⟨rfl, rfl, rfl⟩ := h
        exact .value (does_nilCheck ho hd hl) fun U h => AV.withinL_mem h _ (List.mem_cons_self ..)
      · cases h
    · cases h
  · rename_i op t x y yt ho
    unfold primBin at h
    split at h
    · rename_i u v r hr
      split at h
      · rename_i p' z hz
        simp only [Option.some.injEq, Prod.mk.injEq] at h
        obtain ⟨rfl, rfl, rfl⟩ := h
        exact .value (does_binOp hT ho hd hr hz hp) fun U _ => within_bin hz
      · split at h
        · rename_i z hz
          simp only [Option.some.injEq, Prod.mk.injEq] at h
          obtain ⟨rfl, rfl, rfl⟩ := h
          exact .value (does_eqAgg hT ho hd hr hz) fun U _ => within_eqAgg hz
        · split at h
          · rename_i z hz
            simp only [Option.some.injEq, Prod.mk.injEq] at h
            obtain ⟨rfl, rfl, rfl⟩ := h
            exact .value (does_eqNil hT ho hd hr hz) fun U _ => within_eqNil hz
          · cases h
    · cases h
  · rename_i t x y ho
    split at h
    · rename_i u k i r hr
      split at h
      · rename_i p' z hz
        simp only [Option.some.injEq, Prod.mk.injEq] at h
        obtain ⟨rfl, rfl, rfl⟩ := h
        exact .value (does_index hT ho hd hr hz hp) fun U h => within_idx hz (AV.withinL_mem h _ (List.mem_cons_self ..))
      · cases h
    · cases h
  · rename_i t x f ho
    unfold primField at h
    split at h
    · rename_i cs r hr
      split at h
      · rename_i fs hdesc
        split at h
        · rename_i fd hf
          split at h
          · rename_i rf hrf
            split at h
            · rename_i z hz
              simp only [Option.some.injEq, Prod.mk.injEq] at h
              obtain ⟨rfl, rfl, rfl⟩ := h
              exact .value (does_field hT ho hd hr hdesc hf hrf hz) fun U h => within_partV hz (AV.withinL_mem h _ (List.mem_cons_self ..))
            · cases h
          · cases h
        · cases h
      · cases h
    · cases h
  · rename_i t x ho
    unfold primToArray at h
    split at h
    · rename_i u r hr
      split at h
      · rename_i n e hdesc
        split at h
        · rename_i re hre
          split at h
          · rename_i p' z hz
            simp only [Option.some.injEq, Prod.mk.injEq] at h
            obtain ⟨rfl, rfl, rfl⟩ := h
            refine .value (does_toArray hT ho hd hr hdesc hz hp) fun U h => ?_
            have := AV.withinL_mem h _ (List.mem_cons_self ..)
            unfold arrAV at hz
            split at hz
            · simp only [Option.some.injEq, Prod.mk.injEq] at hz; obtain ⟨_, rfl⟩ := hz; rfl
            · simp only [Option.some.injEq, Prod.mk.injEq] at hz; obtain ⟨_, rfl⟩ := hz; rfl
            · split at hz
              · simp only [Option.some.injEq, Prod.mk.injEq] at hz; obtain ⟨_, rfl⟩ := hz; exact this
              · cases hz
            · cases hz
          · cases h
        · cases h
      · cases h
    · cases h
  · rename_i t x y ho
    unfold primMakeSlice at h
    split at h
    · rename_i k len k' cap r d hr hdst
      split at h
      · rename_i e hdesc
        split at h
        · rename_i re hre
          simp only [Option.some.injEq, Prod.mk.injEq] at h
          obtain ⟨rfl, rfl, rfl⟩ := h
          refine ⟨does_makeSlice hT ho hdst (hd d hdst) hr hdesc hre hp.1 hp.2.1 hp.2.2.1 hp.2.2.2, fun _ h => (by cases h), rfl, fun U h1 _ h3 => ⟨h3 _ (List.mem_cons_self ..), fun x hx => ?_, fun _ h => (by cases h)⟩, fun hc => by simp [clsOf0, ho] at hc, fun _ => rfl⟩
          simp only [List.mem_singleton] at hx; subst hx
          refine AV.withinL_of fun x hx => ?_
          simp only [zeroAV, List.mem_map] at hx
          obtain ⟨i, _, rfl⟩ := hx
          unfold constCell; split <;> rfl
        · cases h
      · cases h
    · cases h
  · rename_i op t x ho
    split at h
    · split at h
      · rename_i z hz
        simp only [Option.some.injEq, Prod.mk.injEq] at h
        obtain ⟨rfl, rfl, rfl⟩ := h
        exact .value (does_unOp ho hd hz) fun U _ => within_un hz
      · cases h
    · cases h
  · rename_i src dst x ho
    unfold primConv at h
    split at h
    · rename_i rs rd hrs hrd
      split at h
      · split at h
        · rename_i k' hk
          simp only [Option.some.injEq, Prod.mk.injEq] at h
          obtain ⟨rfl, rfl, rfl⟩ := h
          exact .value (does_convInt hT ho hd hrs hrd hk) fun U _ => rfl
        · cases h
      · split at h
        · rename_i hk
          simp only [Option.some.injEq, Prod.mk.injEq] at h
          obtain ⟨rfl, rfl, rfl⟩ := h
          exact .value (does_convStr hT ho hd hrs hrd hk) fun U _ => rfl
        · cases h
      · cases h
    · cases h
  · rename_i s x f ho
    split at h
    · rename_i u r hr
      split at h
      · rename_i off len rf hf
        split at h
        · rename_i z hz
          simp only [Option.some.injEq, Prod.mk.injEq] at h
          obtain ⟨rfl, rfl, rfl⟩ := h
          exact .value (does_fieldAddr hT ho hd hr hf hz) fun U h => within_part hz (AV.withinL_mem h _ (List.mem_cons_self ..))
        · cases h
      · cases h
    · cases h
  · rename_i t x y ho
    split at h
    · rename_i u k i r hr
      split at h
      · rename_i p' z hz
        simp only [Option.some.injEq, Prod.mk.injEq] at h
        obtain ⟨rfl, rfl, rfl⟩ := h
        exact .value (does_indexAddr hT ho hd hr hz hp) fun U h => within_elem hz (AV.withinL_mem h _ (List.mem_cons_self ..))
      · cases h
    · cases h
  · rename_i t x lo hi mx ho
    unfold primSlice at h
    split at h
    · rename_i r u vs' hr
      split at h
      · rename_i l v1 h1
        split at h
        · rename_i h' v2 h2
          split at h
          · rename_i m v3 h3
            split at h
            · rename_i p' hs' z hz
              simp only [Option.some.injEq, Prod.mk.injEq] at h
              obtain ⟨rfl, rfl, rfl⟩ := h
              refine ⟨does_slice hT ho hd hr h1 h2 h3 hz hp, fun x hx => ?_, ?_, fun U q1 _ _ => ⟨within_slice hz (AV.withinL_mem q1 _ (List.mem_cons_self ..)), fun _ h => (by cases h), fun _ h => (by cases h)⟩, fun hc => by simp [clsOf0, ho] at hc, fun _ => rfl⟩
              · rcases slice_deps hz with rfl | ⟨b, o', cs, rfl, hb, rfl⟩
                · cases hx
                · simp only [List.mem_singleton] at hx; subst hx; exact hb
              · rcases slice_deps hz with rfl | ⟨b, o', cs, rfl, hb, rfl⟩
                · rfl
                · exact reach_ptr fun U => .inl rfl
            · cases h
          · cases h
        · cases h
      · cases h
    · cases h
  · rename_i x i ho
    split at h
    · split at h
      · rename_i us z hz
        simp only [Option.some.injEq, Prod.mk.injEq] at h
        obtain ⟨rfl, rfl, rfl⟩ := h
        refine .value (does_extract ho hd hz) fun U h => ?_
        have := AV.withinL_mem h _ (List.mem_cons_self ..)
        exact AV.withinL_mem this _ (List.mem_of_getElem? hz)
      · cases h
    · cases h
  · rename_i f first caps ho
    split at h
    · rename_i h0
      simp only [Option.some.injEq, Prod.mk.injEq] at h
      obtain ⟨rfl, rfl, rfl⟩ := h
      refine .value (does_makeFunc ho h0 hd) fun U h => ?_
      simp only [AV.within, AV.withinL, Bool.true_and]; exact h
    · cases h
  · rename_i c ho
    split at h
    · rename_i b hb
      cases b
      case len =>
        obtain ⟨q1, n, rfl, rfl⟩ := does_len hT ho hb hd h
        exact .value q1 fun U _ => rfl
      all_goals (unfold primBuiltin at h; simp at h)
    · cases h
  · cases h
end sound
end Go.Am

/- An abstract machine over the kit's calls, part 13: code: what must be shown of it (cvc), and that this is enough; a function's body gives its contract. No conditions. -/
namespace Go.Am

/-- A slot's value, known to be this. -/
def St.set (st : St) (t : Nat) (v : AV) : St := ⟨putO st.S (some t) v, st.H, st.U⟩

def dstB (n : Nat) (o : Oper) : Bool := match o.dst with | some d => decide (d < n) | none => true
def freshB (U : Nat → Bool) (δ : Delta) : Bool := δ.new.all fun x => !U x.1

/-- What must be shown of an operation. -/
def rexec (E : Env) (cq : Oper → Cls) (n : Nat) (o : Oper) (st : St) (K : St → Prop) : Prop :=
  dstB n o = true ∧ ∃ vs hs δ, Move E (clsOf cq o) o st vs hs δ ∧ K (st.after o.dst δ)

def rvc (E : Env) (cq : Oper → Cls) (n : Nat) (ops : Array Oper) : List Oper → St → (St → Prop) → Prop
  | [], st, K => K st
  | o :: rest, st, K => match o.guard with
    | none => rexec E cq n o st fun st' => rvc E cq n ops rest st' K
    | some (j, want) => match (ops[j]?).bind (·.dst) with
      | none => False
      | some t => match st.S t with
        | some (.pv (.lit (.bool b))) =>
          (b = want → rexec E cq n o st fun st' => rvc E cq n ops rest st' K) ∧
          (b = !want → dstB n o = true ∧ rvc E cq n ops rest (st.after o.dst { v := .tup [] }) K)
        | some (.tup []) => dstB n o = true ∧ rvc E cq n ops rest (st.after o.dst { v := .tup [] }) K
        | _ => False

theorem PrimOk.move {E : Env} {T : Tab} {cq : Oper → Cls} {o : Oper} {st : St} {vs : List AV} {hs : List (Nat × Blk)} {δ : Delta} (h : PrimOk E T cq o vs st.H hs δ) (hv : evls st.S o.op.operands.toList = some vs) (hf : freshB st.U δ = true) (hfoot : footB (clsOf cq o) hs δ = true) : Move E (clsOf cq o) o st vs hs δ := by
  have hV : AV.withinL (fun b => (δ.new.lookup b).isSome || refs vs hs b) vs = true := by
    refine AV.withinL_mono (U := fun b => refs vs hs b) (fun b hb => by simp [hb]) vs ?_
    exact within_self vs hs
  have hH : ∀ x ∈ hs, x.2.within (fun b => (δ.new.lookup b).isSome || refs vs hs b) = true := fun x hx =>
    Blk.within_mono (U := fun b => refs vs hs b) (fun b hb => by simp [hb]) x.2 (within_self_blk vs hs x hx)
  have hN : ∀ x ∈ δ.new, (fun b => (δ.new.lookup b).isSome || refs vs hs b) x.1 = true := fun x hx => by
    have : δ.new.lookup x.1 ≠ none := by
      have none_of : ∀ (l : List (Nat × Blk)) (p : Nat × Blk), p ∈ l → l.lookup p.1 ≠ none := by
        intro l
        induction l with
        | nil => intro p h; cases h
        | cons y ys ih =>
          intro p h
          simp only [List.lookup]
          split
          · simp
          · rename_i hne
            cases h with
            | head => simp at hne
            | tail _ hm => exact ih p hm
      exact none_of _ _ hx
    cases hl : δ.new.lookup x.1 with
    | none => exact absurd hl this
    | some k => simp [hl]
  obtain ⟨h1, h2, h3⟩ := h.inr _ hV hH hN
  refine { vals := hv, deps := h.deps, fresh := fun x hx => ?_, does := h.does, reach := h.reach, inV := h1, inN := h2, inW := fun x hx k hk => (h3 x hx).2 k hk, wr := fun x hx => ?_, pure := fun e => h.pure (clsOf_pure e), quiet := fun e => h.quiet (clsOf_quiet e), foot := hfoot }
  · have := List.all_eq_true.1 hf x hx
    simpa using this
  · exact (h3 x hx).1

theorem run_of_rvc {E : Env} {cq : Oper → Cls} {n : Nat} {ops : Array Oper} (hn : E.n = n) : ∀ (l : List Oper) (k : Nat) (st : St) (K : St → Prop), (∀ j, l[j]? = ops[k + j]?) → rvc E cq n ops l st K → ∃ sn, Run E ops (clsOf cq) (List.range' k l.length) st sn ∧ K sn
  | [], k, st, K, _, h => ⟨st, .nil st, h⟩
  | o :: l, k, st, K, hl, h => by
    have ho : ops[k]? = some o := by simpa using (hl 0).symm
    have hl' : ∀ j, l[j]? = ops[k + 1 + j]? := fun j => by have := hl (j + 1); simpa [Nat.add_assoc, Nat.add_comm 1 j] using this
    have hD : dstB n o = true → ∀ d, o.dst = some d → d < E.n := fun hd d e => by simp only [dstB, e, decide_eq_true_eq] at hd; exact hn ▸ hd
    simp only [List.length_cons, List.range'_succ]
    simp only [rvc] at h
    split at h
    · rename_i hg
      obtain ⟨hd, vs, hs, δ, m, h2⟩ := h
      obtain ⟨sn, h3, h4⟩ := run_of_rvc hn l (k + 1) _ K hl' h2
      exact ⟨sn, .cons ho (.exec (by simp [guardV, hg]) (hD hd) vs hs δ m) h3, h4⟩
    · rename_i j want hg
      split at h
      · exact h.elim
      · rename_i t ht
        split at h
        · rename_i b hb
          obtain ⟨hyes, hno⟩ := h
          have hgv : guardV ops st.S o = some (b == want) := by simp only [guardV, hg, ht, Option.bind_some, hb]
          by_cases hbw : b = want
          · obtain ⟨hd, vs, hs, δ, m, h2⟩ := hyes hbw
            obtain ⟨sn, h3, h4⟩ := run_of_rvc hn l (k + 1) _ K hl' h2
            exact ⟨sn, .cons ho (.exec (by rw [hgv, hbw]; simp) (hD hd) vs hs δ m) h3, h4⟩
          · have hbn : b = !want := by cases b <;> cases want <;> simp_all
            obtain ⟨hd, h2⟩ := hno hbn
            obtain ⟨sn, h3, h4⟩ := run_of_rvc hn l (k + 1) _ K hl' h2
            exact ⟨sn, .cons ho (.skip (by rw [hgv, hbn]; cases want <;> rfl) (hD hd)) h3, h4⟩
        · rename_i hb
          obtain ⟨hd, h2⟩ := h
          have hgv : guardV ops st.S o = some false := by simp only [guardV, hg, ht, Option.bind_some, hb]
          obtain ⟨sn, h3, h4⟩ := run_of_rvc hn l (k + 1) _ K hl' h2
          exact ⟨sn, .cons ho (.skip hgv (hD hd)) h3, h4⟩
        · exact h.elim

/-! ### Code -/
def Awp (E : Env) (c : Code) (st : St) (Q : Exit → St → Prop) : Prop :=
  ∀ a w, At E st a w → c.wp E.P (fun e a' w' => ∃ st', Q e st' ∧ At E st' a' w') a w

/-- What the rules ask of the function that one stands in. -/
structure Cx (E : Env) (T : Tab) (n : Nat) : Prop where
  tab : TabOk E.P T
  n : E.n = n
  mixed : E.P.follows .mixedOrders = true

namespace Awp
variable {E : Env} {T : Tab} {n : Nat} {st : St} {Q : Exit → St → Prop}

theorem mono {c : Code} {Q' : Exit → St → Prop} (h : Awp E c st Q) (hq : ∀ e st, Q e st → Q' e st) : Awp E c st Q' :=
  fun a w hat => wp_mono (h a w hat) fun _ _ _ ⟨st', h1, h2⟩ => ⟨st', hq _ _ h1, h2⟩

theorem skip (h : Q .normal st) : Awp E .skip st Q := fun _ _ hat => wp_skip ⟨st, h, hat⟩
theorem exit {id : Nat} (h : Q (.exit id) st) : Awp E (.exit id) st Q := fun _ _ hat => wp_exit ⟨st, h, hat⟩
theorem ret (h : Q .ret st) : Awp E .ret st Q := fun _ _ hat => wp_ret ⟨st, h, hat⟩

/-- A region in the order of its text, or in any drawn order. -/
theorem region (C : Cx E T n) (cq : Oper → Cls) {id : Nat} {b : Bool} {l : List Oper} (hok : (!b || okDrawn l.toArray (clsOf cq) (befs l [])) = true) (h : rvc E cq n l.toArray l st fun st' => Q .normal st') : Awp E (.region id l.toArray b) st Q := by
  intro a w hat
  obtain ⟨sn, h1, h2⟩ := run_of_rvc C.n l 0 st _ (by simp) h
  have hr : List.range' 0 l.length = List.range l.toArray.size := by rw [List.range_eq_range']; simp
  rw [hr] at h1
  cases b with
  | false => exact wp_region_run h1 hat fun a w h3 => ⟨sn, h2, h3⟩
  | true => exact wp_region_drawn C.mixed (by simpa using hok) h1 hat fun a w h3 => ⟨sn, h2, h3⟩

theorem seq {x y : Code} (h : Awp E x st fun e st' => match e with | .normal => Awp E y st' Q | e => Q e st') : Awp E (.seq x y) st Q := by
  intro a w hat
  refine wp_seq (wp_mono (h a w hat) ?_)
  rintro e a' w' ⟨st', h1, h2⟩
  cases e <;> simp only [Exit.then]
  case normal => exact h1 a' w' h2
  all_goals exact ⟨st', h1, h2⟩

/-- A region, and what comes behind it. -/
theorem cons (C : Cx E T n) (cq : Oper → Cls) {id : Nat} {b : Bool} {l : List Oper} {y : Code} (hok : (!b || okDrawn l.toArray (clsOf cq) (befs l [])) = true) (h : rvc E cq n l.toArray l st fun st' => Awp E y st' Q) : Awp E (.seq (.region id l.toArray b) y) st Q :=
  seq (region C cq hok h)

theorem cond {c : Operand} {x y : Code} {b : Bool} (hc : evl st.S c = some (.pv (.lit (.bool b)))) (hx : b = true → Awp E x st Q) (hy : b = false → Awp E y st Q) : Awp E (.cond c x y) st Q := by
  intro a w hat
  obtain ⟨ι, imm, hs⟩ := hat
  have hv := hs.evl hc
  simp only [VH, PH] at hv
  exact wp_cond_split hv.1 (fun e => hx e a w ⟨ι, imm, hs⟩) (fun e => hy e a w ⟨ι, imm, hs⟩)

theorem condT {c : Operand} {x y : Code} {b : Bool} (hc : evl st.S c = some (.pv (.lit (.bool b)))) (hb : b = true) (hx : Awp E x st Q) : Awp E (.cond c x y) st Q := cond hc (fun _ => hx) fun h => by rw [hb] at h; cases h
theorem condF {c : Operand} {x y : Code} {b : Bool} (hc : evl st.S c = some (.pv (.lit (.bool b)))) (hb : b = false) (hy : Awp E y st Q) : Awp E (.cond c x y) st Q := cond hc (fun h => by rw [hb] at h; cases h) fun _ => hy

theorem block {id : Nat} {x : Code} (h : Awp E x st fun e st' => match e with | .exit i => if i = id then Q .normal st' else Q (.exit i) st' | e => Q e st') : Awp E (.block id x) st Q := by
  intro a w hat
  refine wp_block (wp_mono (h a w hat) ?_)
  rintro e a' w' ⟨st', h1, h2⟩
  cases e <;> simp only [Exit.inBlock]
  case exit i =>
    simp only at h1
    split at h1
    · rename_i e; rw [if_pos e]; exact ⟨st', h1, h2⟩
    · rename_i e; rw [if_neg e]; exact ⟨st', h1, h2⟩
  all_goals exact ⟨st', h1, h2⟩

end Awp

/-- So many rounds of a loop. -/
def Arounds (E : Env) (c : Code) (Q : Exit → St → Prop) : Nat → St → Prop
  | 0, _ => False
  | n + 1, st => Awp E c st fun e st' => match e with | .normal => Arounds E c Q n st' | e => Q e st'

theorem Awp.rounds {E : Env} {c : Code} {Q : Exit → St → Prop} (n : Nat) {st : St} (h : Arounds E c Q n st) : Awp E (.loop c) st Q := by
  intro a w hat
  refine wp_loop_rounds n ?_
  induction n generalizing st a w with
  | zero => exact h.elim
  | succ n ih =>
    rw [rounds_succ]
    refine wp_mono (h a w hat) ?_
    rintro e a' w' ⟨st', h1, h2⟩
    cases e <;> simp only [Exit.then]
    case normal => exact ih h1 a' w' h2
    all_goals exact ⟨st', h1, h2⟩
theorem Arounds.succ {E : Env} {c : Code} {Q : Exit → St → Prop} {n : Nat} {st : St} (h : Awp E c st fun e st' => match e with | .normal => Arounds E c Q n st' | e => Q e st') : Arounds E c Q (n + 1) st := h
end Go.Am

/- An abstract machine over the kit's calls, part 14: states told by lists; what is not needed is forgotten; a function's body gives its contract. No conditions. -/
namespace Go.Am

mutual
theorem AV.ren_id : ∀ (x : AV), x.ren (fun b => b) = x
  | .undef | .pv _ | .tsl _ _ | .rp _ | .ptr _ _ | .sl _ _ _ _ _ | .slc _ _ _ _ _ | .mp _ => rfl
  | .agg cs => by simp only [AV.ren, AV.renL_id cs]
  | .tup cs => by simp only [AV.ren, AV.renL_id cs]
  | .fn f xs ys => by simp only [AV.ren, AV.renL_id xs, AV.renL_id ys]
theorem AV.renL_id : ∀ (xs : List AV), AV.renL (fun b => b) xs = xs
  | [] => rfl
  | x :: xs => by simp only [AV.renL, AV.ren_id x, AV.renL_id xs]
end
theorem Blk.ren_id : ∀ (x : Blk), x.ren (fun b => b) = x
  | .cells cs => by simp only [Blk.ren, AV.renL_id]
  | .map es => by simp [Blk.ren, AV.ren_id]

/-- A state, told by lists. -/
def mkSt (S : List (Nat × AV)) (H : List (Nat × Blk)) (U : List Nat) : St := ⟨fun t => S.lookup t, fun b => H.lookup b, fun b => U.contains b⟩

structure Weaker (st : St) (S : List (Nat × AV)) (H : List (Nat × Blk)) (U : List Nat) (I : List Nat) : Prop where
  eqS : ∀ x ∈ S, st.S x.1 = some x.2
  eqH : ∀ x ∈ H, st.H x.1 = some x.2
  inS : (S.all fun x => x.2.within fun b => U.contains b) = true
  inH : (H.all fun x => U.contains x.1 && x.2.within fun b => U.contains b) = true
  inI : (I.all fun b => U.contains b) = true

theorem At.weaken {E : Env} {st : St} {a : Act} {w : World} {S : List (Nat × AV)} {H : List (Nat × Blk)} {U : List Nat} (h : At E st a w) (hw : Weaker st S H U E.I) : At E (mkSt S H U) a w := by
  obtain ⟨ι, imm, h⟩ := h
  let κ : Nat → Option (Nat × Nat) := fun b => if U.contains b then ι b else none
  have hκ : ∀ b, (fun b => U.contains b) b = true → κ b = ι b := fun b hb => by show (if U.contains b then _ else _) = _; rw [if_pos hb]
  have hV : ∀ x v, x.within (fun b => U.contains b) = true → VH ι imm w x v → VH κ imm w x v := fun x v hu hx => by
    have := (VH.ren (σ := fun b => b) hκ x v hu).2 hx
    rwa [AV.ren_id] at this
  have hB : ∀ k r z, k.within (fun b => U.contains b) = true → BlkH ι imm w r z k → BlkH κ imm w r z k := fun k r z hu hx => by
    have := (BlkH.ren (σ := fun b => b) hκ (r := r) (z := z) hu).2 hx
    rwa [Blk.ren_id] at this
  have hin : ∀ x ∈ H, U.contains x.1 = true ∧ x.2.within (fun b => U.contains b) = true := fun x hx => by
    have := List.all_eq_true.1 hw.inH x hx
    simpa only [Bool.and_eq_true] using this
  refine ⟨κ, imm, h.defers, h.size, fun t v hv => ?_, ⟨fun b k hb => ?_, fun b b' k k' r z z' hb hb' hi hi' => ?_⟩, fun b x hx => ?_, ⟨fun b x hx => ?_, h.grow.stays, h.grow.rows⟩, h.ext, h.immM, h.immlt⟩
  · have hm := lookup_mem (l := S) hv
    exact hV _ _ (List.all_eq_true.1 hw.inS _ hm) (h.slot _ _ (hw.eqS _ hm))
  · have hm := lookup_mem (l := H) hb
    obtain ⟨r, z, q1, q2, q3, q4⟩ := h.heap.blk _ _ (hw.eqH _ hm)
    exact ⟨r, z, (hκ b (hin _ hm).1).trans q1, q2, q3, hB _ _ _ (hin _ hm).2 q4⟩
  · have hm := lookup_mem (l := H) hb
    have hm' := lookup_mem (l := H) hb'
    rw [hκ b (hin _ hm).1] at hi
    rw [hκ b' (hin _ hm').1] at hi'
    exact h.heap.inj _ _ _ _ _ _ _ (hw.eqH _ hm) (hw.eqH _ hm') hi hi'
  · show U.contains b = true
    by_cases hb : U.contains b = true
    · exact hb
    · have : κ b = none := by show (if U.contains b then _ else _) = _; rw [if_neg hb]
      rw [this] at hx; cases hx
  · have hb : U.contains b = true := List.all_eq_true.1 hw.inI b (by have := E.dom b x hx; simpa using this)
    rw [hκ b hb]; exact h.grow.ext b x hx

theorem Awp.weaken {E : Env} {c : Code} {st : St} {Q : Exit → St → Prop} {S : List (Nat × AV)} {H : List (Nat × Blk)} {U : List Nat} (hw : Weaker st S H U E.I) (h : Awp E c (mkSt S H U) Q) : Awp E c st Q :=
  fun a w hat => h a w (hat.weaken hw)

/-- A loop: its head's state is one of a family, and each round comes to one of a lesser number. -/
theorem Awp.loop' {E : Env} {c : Code} {st : St} {Q : Exit → St → Prop} {α : Type} (S : α → List (Nat × AV)) (H : α → List (Nat × Blk)) (U : α → List Nat) (J : Nat → α → Prop) (n : Nat) (x : α) (hx : J n x) (hw : Weaker st (S x) (H x) (U x) E.I)
    (round : ∀ n x, J n x → Awp E c (mkSt (S x) (H x) (U x)) fun e st' => match e with | .normal => ∃ m y, m < n ∧ J m y ∧ Weaker st' (S y) (H y) (U y) E.I | e => Q e st') : Awp E (.loop c) st Q := by
  intro a w hat
  refine wp_loop_ghost (fun n a w => ∃ x, J n x ∧ At E (mkSt (S x) (H x) (U x)) a w) n ⟨x, hx, hat.weaken hw⟩ fun n a w ⟨x, hJ, hat⟩ => ?_
  refine wp_mono (round n x hJ a w hat) ?_
  rintro e a' w' ⟨st', h1, h2⟩
  cases e <;> simp only [Exit.then]
  case normal => obtain ⟨m, y, h3, h4, h5⟩ := h1; exact ⟨m, h3, y, h4, h2.weaken h5⟩
  all_goals exact ⟨st', h1, h2⟩

/-! ### Results -/
def res1 (T : Tab) (st : St) : ResultVar → Option AV
  | .tmp t => st.S t
  | .cell a t => match st.S a with
    | some (.ptr b o) => match st.H b, T.lookup t with
      | some (.cells cs), some r => readAV r (cs.drop o)
      | _, _ => none
    | _ => none
def resL (T : Tab) (st : St) : List ResultVar → Option (List AV)
  | [] => some []
  | r :: rs => match res1 T st r, resL T st rs with
    | some v, some vs => some (v :: vs)
    | _, _ => none
def resAV (T : Tab) (st : St) (rs : List ResultVar) : Option AV :=
  match resL T st rs with
  | some [v] => some v
  | some vs => some (.tup vs)
  | none => none

theorem run_res1 {E : Env} {T : Tab} (hT : TabOk E.P T) {ι : Nat → Option (Nat × Nat)} {imm : Nat → Prop} {st : St} {a : Act} {w : World} (h : SR E ι imm st a w) {r : ResultVar} {v : AV} (hr : res1 T st r = some v) :
    ∃ u, ((match r with | .tmp t => pure (a.tmps.getD t undef) | .cell c t => do loadVar t (← asAddr (a.tmps.getD c undef)) : Sem Value)).run E.P w = .ok u w ∧ VH ι imm w v u := by
  cases r with
  | tmp t => exact ⟨_, rfl, h.slot t v hr⟩
  | cell c t =>
    simp only [res1] at hr
    split at hr
    · rename_i b o hS
      split at hr
      · rename_i cs r hH hl
        have hv := h.slot c _ hS
        simp only [VH] at hv
        obtain ⟨q, z, hi, he⟩ := hv
        obtain ⟨cc, e, f, h1, h2, h3, h4, _⟩ := h.heap.cells hH hi
        obtain ⟨vs, h5, h6⟩ := (h4.drop (k := o)).vals
        obtain ⟨u, h7, h8⟩ := run_loadVar hT hl hr (ι := ι) (imm := imm) (w := w) (b := q) (o := z + o) ⟨vs, h5, fun i hi => by rw [cell_of_heap h1]; exact h6 i hi⟩
        exact ⟨u, by simp only [he, asAddr, run_bind', run_pure', h7], h8⟩
      · cases hr
    · cases hr

theorem run_resL {E : Env} {T : Tab} (hT : TabOk E.P T) {ι : Nat → Option (Nat × Nat)} {imm : Nat → Prop} {st : St} {a : Act} {w : World} (h : SR E ι imm st a w) : ∀ {rs : List ResultVar} {vs : List AV}, resL T st rs = some vs →
    ∃ us, (rs.mapM (fun r => (match r with | .tmp t => pure (a.tmps.getD t undef) | .cell c t => do loadVar t (← asAddr (a.tmps.getD c undef)) : Sem Value))).run E.P w = .ok us w ∧ VHs ι imm w vs us
  | [], vs, hr => by simp only [resL, Option.some.injEq] at hr; subst hr; exact ⟨[], rfl, rfl⟩
  | r :: rs, vs, hr => by
    simp only [resL] at hr
    split at hr
    · rename_i v vs' h1 h2
      simp only [Option.some.injEq] at hr
      subst hr
      obtain ⟨u, q1, q2⟩ := run_res1 hT h h1
      obtain ⟨us, q3, q4⟩ := run_resL hT h h2
      refine ⟨u :: us, ?_, ⟨u, us, rfl, q2, q4⟩⟩
      rw [List.mapM_cons, run_bind', q1]
      simp only
      rw [run_bind', q3]
      rfl
    · cases hr

theorem run_results {E : Env} {T : Tab} (hT : TabOk E.P T) {ι : Nat → Option (Nat × Nat)} {imm : Nat → Prop} {st : St} {a : Act} {w : World} (h : SR E ι imm st a w) {fn : Func} {v : AV} (hr : resAV T st fn.results.toList = some v) :
    ∃ u, (results fn a.tmps).run E.P w = .ok u w ∧ VH ι imm w v u := by
  unfold resAV at hr
  have key : ∀ {vs}, resL T st fn.results.toList = some vs → ∃ us, (results fn a.tmps).run E.P w = .ok (if h : (List.toArray us).size = 1 then (List.toArray us)[0] else .tuple (List.toArray us)) w ∧ VHs ι imm w vs us := by
    intro vs hv
    obtain ⟨us, q1, q2⟩ := run_resL hT h hv
    refine ⟨us, ?_, q2⟩
    unfold results
    rw [Array.mapM_eq_mapM_toList, run_bind']
    have : ((List.toArray <$> fn.results.toList.mapM (fun r => (match r with | .tmp t => pure (a.tmps.getD t undef) | .cell c t => do loadVar t (← asAddr (a.tmps.getD c undef)) : Sem Value))) : Sem (Array Value)).run E.P w = .ok us.toArray w := by
      show ((fn.results.toList.mapM _) >>= fun l => pure (List.toArray l) : Sem (Array Value)).run E.P w = _
      rw [run_bind', q1]; rfl
    erw [this]
    rfl
  split at hr
  · rename_i x hx
    simp only [Option.some.injEq] at hr
    subst hr
    obtain ⟨us, q1, q2⟩ := key hx
    obtain ⟨u, us', rfl, q3, q4⟩ := q2
    simp only [VHs] at q4
    subst q4
    exact ⟨u, by simpa using q1, q3⟩
  · rename_i vs hne hx
    simp only [Option.some.injEq] at hr
    subst hr
    obtain ⟨us, q1, q2⟩ := key hx
    refine ⟨.tuple us.toArray, ?_, ⟨us, rfl, q2⟩⟩
    have hl := q2.length
    have : ¬ (List.toArray us).size = 1 := by
      intro h1
      simp at h1
      rw [hl] at h1
      obtain ⟨y, rfl⟩ := List.length_eq_one_iff.1 h1
      exact hne y rfl
    rw [dif_neg this] at q1
    exact q1
  · cases hr

/-- Where a function begins. -/
def entry (avs : List AV) (H : List (Nat × Blk)) (I : List Nat) : St := ⟨fun t => avs[t]?, heapOf H, inI I⟩

theorem ACalls.of_body {P : Program} {T : Tab} (hT : TabOk P T) {f : FuncId} {fn : Func} {body : Code} (hf : P.funcs[f]? = some fn) (hb : fn.body = some body) {I : List Nat} {avs : List AV} {H : List (Nat × Blk)} {av : AV} {H' : List (Nat × Blk)} (hl : avs.length ≤ fn.ntmps)
    (h : ∀ E : Env, E.P = P → E.n = fn.ntmps → E.I = I → Awp E body (entry avs H I) fun e st => (e = .ret ∨ e = .normal) ∧ resAV T st fn.results.toList = some av ∧ ∀ x ∈ H', st.H x.1 = some x.2) : ACalls P f I avs H av H' := by
  intro ι imm w M vs hHR hvs hlt hdom
  let E : Env := { P := P, n := fn.ntmps, w0 := w, R := Rof ι H, ι0 := ι, imm0 := imm, I := I, dom := hdom }
  have hlen := hvs.length
  have hat : At E (entry avs H I) { tmps := List.toArray vs ++ Array.replicate (fn.ntmps - (List.toArray vs).size) undef, defers := [] } w := by
    refine ⟨ι, imm, rfl, ?_, fun t v hv => ?_, ⟨fun b k hb => ?_, hHR.inj⟩, hdom, .refl _ _ _, .refl _ _, fun k hk => .inl hk, hlt⟩
    · show (List.toArray vs ++ Array.replicate (fn.ntmps - (List.toArray vs).size) undef).size = fn.ntmps
      simp; omega
    · obtain ⟨u, h1, h2⟩ := hvs.get hv
      have hlt' : t < vs.length := by
        rcases Nat.lt_or_ge t vs.length with h' | h'
        · exact h'
        · rw [List.getElem?_eq_none h'] at h1; cases h1
      have : (List.toArray vs ++ Array.replicate (fn.ntmps - (List.toArray vs).size) undef).getD t undef = u := by
        rw [Array.getD_eq_getD_getElem?, Array.getElem?_append_left (by simpa using hlt')]
        simp [h1]
      show VH ι imm w v ((List.toArray vs ++ Array.replicate (fn.ntmps - (List.toArray vs).size) undef).getD t undef)
      rw [this]; exact h2
    · obtain ⟨r, z, q1, q2, _, q4⟩ := hHR.blk b k hb
      exact ⟨r, z, q1, q2, .inl ⟨b, k, z, hb, q1⟩, q4⟩
  refine calls_of_wp hf hb (wp_mono (h E rfl rfl rfl _ _ hat) ?_)
  rintro e a' w' ⟨st, ⟨he, hres, hH'⟩, ι', imm', hs⟩
  obtain ⟨u, q1, q2⟩ := run_results (E := E) hT hs hres
  have post : ∃ v ι'' imm'', Ending.returned u = .returned v ∧ VH ι'' imm'' w' av v ∧ Grows ι ι'' imm imm'' w w' ∧ Ext (Rof ι H) w w' ∧ HR ι'' imm'' w' (fun r => Rof ι H r ∨ w.heap.size ≤ r) (heapOf H') ∧
      (∀ k, imm'' k → imm k ∨ Rof ι H k ∨ w.heap.size ≤ k) ∧ (∀ k, imm'' k → k < w'.heap.size) := by
    refine ⟨u, ι', imm', rfl, q2, hs.grow, hs.ext, ⟨fun b k hb => ?_, fun b b' k k' r z z' hb hb' hi hi' => ?_⟩, hs.immM, hs.immlt⟩
    · exact hs.heap.blk b k (hH' _ (lookup_mem (l := H') hb))
    · exact hs.heap.inj b b' k k' r z z' (hH' _ (lookup_mem (l := H') hb)) (hH' _ (lookup_mem (l := H') hb')) hi hi'
  rcases he with rfl | rfl
  · exact ⟨hs.defers, u, q1, post⟩
  · exact ⟨hs.defers, u, q1, post⟩
end Go.Am
namespace Go.Am
/-! ### Step by step -/
section steps
variable {E : Env} {T : Tab} {cq : Oper → Cls} {n : Nat} {ops : Array Oper}

theorem rvc_nil {st : St} {K : St → Prop} (h : K st) : rvc E cq n ops [] st K := h

theorem rexec_prim (C : Cx E T n) {d : Option Nat} {op : Op} {ty : TypeId} {pos : String} {af : Array Edge} {g : Option (Nat × Bool)} {st : St} {K : St → Prop} {xs : List Operand} {vs : List AV} {p : Prop} {hs : List (Nat × Blk)} {δ : Delta} (h1 : dstB n ⟨d, op, ty, pos, af, g⟩ = true)
    (hx : op.operands.toList = xs) (h2 : evls st.S xs = some vs) (h4 : prim T ⟨d, op, ty, pos, af, g⟩ vs st.H = some (p, hs, δ)) (h5 : p) (h6 : freshB st.U δ = true) (h7 : K (st.after d δ)) (h8 : footB (clsOf cq ⟨d, op, ty, pos, af, g⟩) hs δ = true := by rfl) :
    rexec E cq n ⟨d, op, ty, pos, af, g⟩ st K := by
  subst hx
  have hd' : ∀ d', Oper.dst ⟨d, op, ty, pos, af, g⟩ = some d' → d' < E.n := fun d' e => by
    simp only [dstB] at h1
    simp only at e
    subst e
    simp only [decide_eq_true_eq] at h1
    exact C.n ▸ h1
  exact ⟨h1, vs, hs, δ, (prim_ok C.tab cq hd' h4 h5).move h2 h6 h8, h7⟩

/-- An operation without a guard. -/
theorem rvc_prim (C : Cx E T n) {d : Option Nat} {op : Op} {ty : TypeId} {pos : String} {af : Array Edge} {rest : List Oper} {st : St} {K : St → Prop} {xs : List Operand} {vs : List AV} {p : Prop} {hs : List (Nat × Blk)} {δ : Delta} (h1 : dstB n ⟨d, op, ty, pos, af, none⟩ = true)
    (hx : op.operands.toList = xs) (h2 : evls st.S xs = some vs) (h4 : prim T ⟨d, op, ty, pos, af, none⟩ vs st.H = some (p, hs, δ)) (h5 : p) (h6 : freshB st.U δ = true) (h7 : rvc E cq n ops rest (st.after d δ) K) (h8 : footB (clsOf cq ⟨d, op, ty, pos, af, none⟩) hs δ = true := by rfl) :
    rvc E cq n ops (⟨d, op, ty, pos, af, none⟩ :: rest) st K := by
  simp only [rvc]
  exact rexec_prim C h1 hx h2 h4 h5 h6 h7 h8

/-- An operation behind a guard that lets it through. -/
theorem rvc_open {d : Option Nat} {op : Op} {ty : TypeId} {pos : String} {af : Array Edge} {j : Nat} {want : Bool} {rest : List Oper} {st : St} {K : St → Prop} {t : Nat} (hj : (ops[j]?).bind (·.dst) = some t) {b : Bool} (ht : st.S t = some (.pv (.lit (.bool b)))) (hb : b = want)
    (h : rexec E cq n ⟨d, op, ty, pos, af, some (j, want)⟩ st fun st' => rvc E cq n ops rest st' K) : rvc E cq n ops (⟨d, op, ty, pos, af, some (j, want)⟩ :: rest) st K := by
  simp only [rvc, hj, ht]
  exact ⟨fun _ => h, fun e => by rw [hb] at e; cases want <;> cases e⟩
/-- .. that does not. -/
theorem rvc_shut {d : Option Nat} {op : Op} {ty : TypeId} {pos : String} {af : Array Edge} {j : Nat} {want : Bool} {rest : List Oper} {st : St} {K : St → Prop} {t : Nat} (hj : (ops[j]?).bind (·.dst) = some t) {b : Bool} (ht : st.S t = some (.pv (.lit (.bool b)))) (hb : b = !want) (hd : dstB n ⟨d, op, ty, pos, af, some (j, want)⟩ = true)
    (h : rvc E cq n ops rest (st.after d { v := .tup [] }) K) : rvc E cq n ops (⟨d, op, ty, pos, af, some (j, want)⟩ :: rest) st K := by
  simp only [rvc, hj, ht]
  exact ⟨fun e => (by rw [hb] at e; cases want <;> cases e), fun _ => ⟨hd, h⟩⟩

/-- An operation behind a guard that was itself not come to. -/
theorem rvc_shutU {d : Option Nat} {op : Op} {ty : TypeId} {pos : String} {af : Array Edge} {j : Nat} {want : Bool} {rest : List Oper} {st : St} {K : St → Prop} {t : Nat} (hj : (ops[j]?).bind (·.dst) = some t) (ht : st.S t = some (.tup [])) (hd : dstB n ⟨d, op, ty, pos, af, some (j, want)⟩ = true)
    (h : rvc E cq n ops rest (st.after d { v := .tup [] }) K) : rvc E cq n ops (⟨d, op, ty, pos, af, some (j, want)⟩ :: rest) st K := by
  simp only [rvc, hj, ht]
  exact ⟨hd, h⟩

/-! ### Calls of functions that are handed no blocks of one's own and give none -/
mutual
theorem AV.ren_none {σ : Nat → Nat} : ∀ (x : AV), x.within (fun _ => false) = true → x.ren σ = x
  | .undef, _ | .pv _, _ | .tsl _ _, _ | .rp _, _ => rfl
  | .ptr b o, h => by simp [AV.within] at h
  | .sl b _ _ _ _, h | .slc b _ _ _ _, h => by simp [AV.within] at h
  | .mp b, h => by simp [AV.within] at h
  | .agg cs, h => by simp only [AV.within] at h; simp only [AV.ren, AV.renL_none cs h]
  | .tup cs, h => by simp only [AV.within] at h; simp only [AV.ren, AV.renL_none cs h]
  | .fn f xs ys, h => by simp only [AV.within, Bool.and_eq_true] at h; simp only [AV.ren, AV.renL_none xs h.1, AV.renL_none ys h.2]
theorem AV.renL_none {σ : Nat → Nat} : ∀ (xs : List AV), AV.withinL (fun _ => false) xs = true → AV.renL σ xs = xs
  | [], _ => rfl
  | x :: xs, h => by simp only [AV.withinL, Bool.and_eq_true] at h; simp only [AV.renL, AV.ren_none x h.1, AV.renL_none xs h.2]
end

/-- A function's contract where no block of one's own is handed to and fro. -/
structure PCalls (P : Program) (f : FuncId) (avs : List AV) (av : AV) : Prop where
  fn : ∃ fn, P.funcs[f]? = some fn ∧ (fn.name == "runtime.NumGoroutine") = false ∧ fn.body.isNone = false
  args : AV.withinL (fun _ => false) avs = true
  res : av.within (fun _ => false) = true
  calls : ACalls P f [] avs [] av []

theorem PCalls.move {P : Program} (hP : E.P = P) {f : FuncId} {avs : List AV} {av : AV} (C : PCalls P f avs av) {d : Option Nat} {c : Call} {ty : TypeId} {pos : String} {af : Array Edge} {g : Option (Nat × Bool)} {st : St} (h1 : ∀ x, d = some x → x < E.n) (hc : c.callee = .value (.func f)) (hv : evls st.S c.args.toList = some avs) (cl : Cls) :
    Move E cl ⟨d, .call c, ty, pos, af, g⟩ st (.fn f [] [] :: avs) [] { v := av } := by
  subst hP
  obtain ⟨fn, q1, q2, q3⟩ := C.fn
  have hin : (inI ([] : List Nat)) = fun _ => false := rfl
  have ok : CallOk ⟨fun b => b, []⟩ [] avs [] [] av := by
    refine { args := C.args, ids := ?_, blks := ?_, nodup := by simp, inj := ?_, nodupL := by simp, nodupR := by simp, fresh := ?_, res := ?_, res' := ?_, kept := ?_, all := ?_, used := ?_ }
    all_goals first | (intro x hx; cases hx; done) | skip
    · intro b c hb; cases hb
    · exact AV.within_mono (fun b hb => by cases hb) av C.res
  have hd := does_call (E := E) (o := ⟨d, .call c, ty, pos, af, g⟩) (c := c) rfl hc h1 q1 q2 q3 C.calls ok (args := avs) (caps := []) (by rw [AV.renL_none avs C.args]; simp)
  have he : Names.delta ⟨fun b => b, []⟩ [] [] [] av = { v := av } := by
    simp only [Names.delta, List.map_nil, AV.ren_none av C.res]
  rw [he] at hd
  have hops : (Op.operands (.call c)).toList = .func f :: c.args.toList := by simp [Op.operands, Call.operands, hc]
  refine { vals := ?_, deps := ?_, fresh := ?_, does := hd, reach := rfl, inV := ?_, inN := ?_, inW := ?_, wr := ?_, pure := fun _ => ⟨rfl, rfl, rfl⟩, quiet := fun _ => rfl, foot := by cases cl <;> rfl }
  · show evls st.S (Op.operands (.call c)).toList = _
    rw [hops]; simp only [evls, evl, hv]
  · intro x hx; cases hx
  · intro x hx; cases hx
  · exact AV.within_mono (fun b hb => by cases hb) av C.res
  · intro x hx; cases hx
  · intro x hx; cases hx
  · intro x hx; cases hx

theorem rexec_call {P : Program} (hP : E.P = P) (C : Cx E T n) {f : FuncId} {avs : List AV} {av : AV} {d : Option Nat} {c : Call} {ty : TypeId} {pos : String} {af : Array Edge} {g : Option (Nat × Bool)} {st : St} {K : St → Prop} (h1 : dstB n ⟨d, .call c, ty, pos, af, g⟩ = true) (hc : c.callee = .value (.func f)) (hv : evls st.S c.args.toList = some avs)
    (F : PCalls P f avs av) (h7 : K (st.after d { v := av })) : rexec E cq n ⟨d, .call c, ty, pos, af, g⟩ st K := by
  refine ⟨h1, _, _, _, F.move hP (fun x e => ?_) hc hv _, h7⟩
  simp only [dstB, e, decide_eq_true_eq] at h1
  exact C.n ▸ h1
theorem rvc_call {P : Program} (hP : E.P = P) (C : Cx E T n) {f : FuncId} {avs : List AV} {av : AV} {d : Option Nat} {c : Call} {ty : TypeId} {pos : String} {af : Array Edge} {rest : List Oper} {st : St} {K : St → Prop} (h1 : dstB n ⟨d, .call c, ty, pos, af, none⟩ = true) (hc : c.callee = .value (.func f)) (hv : evls st.S c.args.toList = some avs)
    (F : PCalls P f avs av) (h7 : rvc E cq n ops rest (st.after d { v := av }) K) : rvc E cq n ops (⟨d, .call c, ty, pos, af, none⟩ :: rest) st K := by
  simp only [rvc]
  exact rexec_call hP C h1 hc hv F h7

theorem PCalls.of_body {P : Program} (hT : TabOk P T) {f : FuncId} {fn : Func} {body : Code} (hf : P.funcs[f]? = some fn) (hb : fn.body = some body) (hn : (fn.name == "runtime.NumGoroutine") = false) {avs : List AV} {av : AV} (hl : decide (avs.length ≤ fn.ntmps) = true) (ha : AV.withinL (fun _ => false) avs = true) (hr : av.within (fun _ => false) = true) (hm : P.follows .mixedOrders = true)
    (h : ∀ E : Env, E.P = P → Cx E T fn.ntmps → E.I = [] → Awp E body (entry avs [] []) fun e st => (e = .ret ∨ e = .normal) ∧ resAV T st fn.results.toList = some av) : PCalls P f avs av where
  fn := ⟨fn, hf, hn, by simp [hb]⟩
  args := ha
  res := hr
  calls := ACalls.of_body hT hf hb (by simpa using hl) fun E hP hE hI => (h E hP ⟨hP ▸ hT, hE, hP ▸ hm⟩ hI).mono fun e st ⟨h1, h2⟩ => ⟨h1, h2, fun _ hx => by cases hx⟩
end steps
end Go.Am

/- An abstract machine over the kit's calls, part 15: append and copy. No conditions. -/
namespace Go.Am

/-- What a slice, or a string, holds: how many elements, which blocks it looks at, its cells. -/
def srcAV (H : Nat → Option Blk) (sz : Nat) : AV → Option (Nat × List (Nat × Blk) × List AV)
  | .pv (.sl _ m ps) => some (m, [], ps.map .pv)
  | .tsl m ps => some (m, [], ps.map .pv)
  | .sl b o m s _ => if s = sz then match H b with
      | some (.cells cs) => some (m, [(b, .cells cs)], (cs.drop o).take (m * s))
      | _ => none
    else none
  | .pv (.lit (.string s)) => if sz = 1 then some (s.size, [], s.data.toList.map fun b => .pv (.lit (.int .u8 b.toNat))) else none
  | _ => none

/-- A slice that may be appended to: how many elements, which blocks it looks at, its cells, which block goes. -/
def dstAV (H : Nat → Option Blk) (sz : Nat) : AV → Option (Nat × List (Nat × Blk) × List AV × List (Nat × Option Blk))
  | .pv (.sl (some true) 0 []) => some (0, [], [], [])
  | .tsl n ps => some (n, [], ps.map .pv, [])
  | .sl b o n s t => if s = sz then match H b with
      | some (.cells cs) => some (n, [(b, .cells cs)], (cs.drop o).take (n * s), if t then [] else [(b, none)])
      | _ => none
    else none
  | _ => none

section ops
variable {E : Env} {T : Tab}

theorem VHs_lits (ι : Nat → Option (Nat × Nat)) (imm : Nat → Prop) (w : World) : ∀ (l : List UInt8), VHs ι imm w (l.map fun b => .pv (.lit (.int .u8 b.toNat))) (l.map fun b => .int .u8 b.toNat)
  | [] => rfl
  | b :: l => ⟨_, _, rfl, by simp [VH, PH, flatB], VHs_lits ι imm w l⟩

/-- The cells of what is appended, or copied. -/
theorem run_src {ι : Nat → Option (Nat × Nat)} {imm : Nat → Prop} {st : St} {a : Act} {w : World} (hs : SR E ι imm st a w) {H : Nat → Option Blk} {sz : Nat} {y : AV} {m : Nat} {hd : List (Nat × Blk)} {cs : List AV} (h : srcAV H sz y = some (m, hd, cs)) (hdeps : ∀ x ∈ hd, st.H x.1 = some x.2) (hlen : cs.length = m * sz) {v : Value} (hv : VH ι imm w y v) :
    ∃ vs, (Builtin.lenOf v).run E.P w = .ok m w ∧ VHs ι imm w cs vs ∧ ∀ k, k ≤ m → ∀ w' : World, (∀ x, w'.cell? x = w.cell? x) → (Builtin.firstCells sz k v).run E.P w' = .ok (List.toArray (vs.take (k * sz))) w' := by
  unfold srcAV at h
  split at h
  · simp only [Option.some.injEq, Prod.mk.injEq] at h
    obtain ⟨rfl, rfl, rfl⟩ := h
    rename_i ps
    simp only [VH, PH] at hv
    obtain ⟨A, cap, rfl, h1, h2, h3, h4, h5⟩ := hv
    cases A with
    | none =>
      obtain ⟨h6, h7, h8⟩ := h4 rfl
      subst h8
      refine ⟨[], rfl, rfl, fun k hk w' hw' => ?_⟩
      simp [Builtin.firstCells]
    | some ad =>
      by_cases hp : ps = []
      · subst hp
        refine ⟨[], rfl, rfl, fun k hk w' hw' => ?_⟩
        simp only [List.map_nil, List.length_nil] at hlen
        have : k * sz = 0 := by
          have h9 := Nat.mul_le_mul_right sz hk
          omega
        simp [Builtin.firstCells, this, loadCells, loadCellsFrom]
      · obtain ⟨q1, q2, q3⟩ := h5 ad rfl hp
        obtain ⟨vs, g1, g2⟩ := q3.vals ι
        refine ⟨vs, rfl, g1, fun k hk w' hw' => ?_⟩
        have hl := g1.length
        have hk' : k * sz ≤ vs.length := by rw [hl, hlen]; exact Nat.mul_le_mul_right _ hk
        have hl2 : (vs.take (k * sz)).length = k * sz := by simp; omega
        simp only [Builtin.firstCells]
        rw [addr_eta q1]
        have := run_loadCells (P := E.P) (w := w') (r := ad.block) (o := ad.off) (vs.take (k * sz)) (fun i hi => by
          rw [hw', g2 i (by omega), List.getElem?_take, if_pos (by omega)])
        rw [hl2] at this
        exact this
  · simp only [Option.some.injEq, Prod.mk.injEq] at h
    obtain ⟨rfl, rfl, rfl⟩ := h
    rename_i ps
    simp only [VH] at hv
    obtain ⟨A, rfl, h4, h5⟩ := hv
    cases A with
    | none =>
      obtain ⟨h6, h8⟩ := h4 rfl
      subst h8
      refine ⟨[], rfl, rfl, fun k hk w' hw' => ?_⟩
      simp [Builtin.firstCells]
    | some ad =>
      by_cases hp : ps = []
      · subst hp
        refine ⟨[], rfl, rfl, fun k hk w' hw' => ?_⟩
        simp only [List.map_nil, List.length_nil] at hlen
        have : k * sz = 0 := by
          have h9 := Nat.mul_le_mul_right sz hk
          omega
        simp [Builtin.firstCells, this, loadCells, loadCellsFrom]
      · obtain ⟨q1, q2, q3⟩ := h5 ad rfl hp
        obtain ⟨vs, g1, g2⟩ := q3.vals ι
        refine ⟨vs, rfl, g1, fun k hk w' hw' => ?_⟩
        have hl := g1.length
        have hk' : k * sz ≤ vs.length := by rw [hl, hlen]; exact Nat.mul_le_mul_right _ hk
        have hl2 : (vs.take (k * sz)).length = k * sz := by simp; omega
        simp only [Builtin.firstCells]
        rw [addr_eta q1]
        have := run_loadCells (P := E.P) (w := w') (r := ad.block) (o := ad.off) (vs.take (k * sz)) (fun i hi => by
          rw [hw', g2 i (by omega), List.getElem?_take, if_pos (by omega)])
        rw [hl2] at this
        exact this
  · split at h
    · rename_i hsz
      have hsz' := hsz.symm
      subst hsz'
      split at h
      · rename_i cs0 hcs
        simp only [Option.some.injEq, Prod.mk.injEq] at h
        obtain ⟨rfl, rfl, rfl⟩ := h
        simp only [VH] at hv
        obtain ⟨r, z, cap, hi, rfl, h1, _⟩ := hv
        obtain ⟨c, e, f, g1, g2, g3, g4, _⟩ := hs.heap.cells (hdeps _ (List.mem_cons_self ..)) hi
        obtain ⟨vs, g5, g6⟩ := (g4.drop.take).vals
        refine ⟨vs, rfl, g5, fun k hk w' hw' => ?_⟩
        have hl := g5.length
        have hk' : k * sz ≤ vs.length := by rw [hl, hlen]; exact Nat.mul_le_mul_right _ hk
        have hl2 : (vs.take (k * sz)).length = k * sz := by simp; omega
        have := run_loadCells (P := E.P) (w := w') (r := r) (vs.take (k * sz)) (fun i hi => by
          rw [hw', cell_of_heap g1, g6 i (by omega), List.getElem?_take, if_pos (by omega)])
        rw [hl2] at this
        simpa [Builtin.firstCells] using this
      · cases h
    · cases h
  · split at h
    · rename_i s hsz
      subst hsz
      simp only [Option.some.injEq, Prod.mk.injEq] at h
      obtain ⟨rfl, rfl, rfl⟩ := h
      simp only [VH, PH] at hv
      obtain ⟨rfl, _⟩ := hv
      refine ⟨s.data.toList.map fun b => .int .u8 b.toNat, rfl, VHs_lits ι imm w _, fun k hk w' hw' => ?_⟩
      simp only [Builtin.firstCells, run_pure', Nat.mul_one]
      congr 1
      apply Array.ext'
      simp
    · cases h
  · cases h

/-- `copy`. -/
theorem does_copy (hT : TabOk E.P T) {o : Oper} {c : Call} {t t2 : TypeId} (ho : o.op = .call c) (hc : c.callee = .builtin .copy) (hty : c.argTypes = #[t, t2]) (hd : ∀ d, o.dst = some d → d < E.n) {r re : TyRow} (hr : T.lookup t = some r) {e : TypeId} (hdesc : r.desc = .slice e) (hre : T.lookup e = some re)
    {b k n : Nat} {tt : Bool} {cs : List AV} {y : AV} {H : Nat → Option Blk} {m : Nat} {hd' : List (Nat × Blk)} {ys : List AV} (hsrc : srcAV H re.size y = some (m, hd', ys)) (hlen : ys.length = m * re.size) (hfit : k + (min m n) * re.size ≤ cs.length) (hflat : (ys.take ((min m n) * re.size)).all flatCell = true) :
    Does E o [.sl b k n re.size tt, y] ((b, .cells cs) :: hd') { v := .pv (.lit (.int .i64 ((min m n : Nat) : Int))), wr := [(b, some (.cells (setRange cs k (ys.take ((min m n) * re.size)))))] } := by
  intro ι imm st a w Q hs hv hh _
  have hvs := hs.evls hv
  have hops : o.op.operands.toList = c.args.toList := by rw [ho]; simp [Op.operands, Call.operands, hc]
  rw [hops] at hvs
  obtain ⟨v1, us1, he, hv1, hvs⟩ := hvs
  obtain ⟨v2, us2, he2, hv2, hvs⟩ := hvs
  simp only [VHs] at hvs
  subst hvs
  subst he2
  have hargs : c.args.map a.eval = #[v1, v2] := by apply Array.ext'; simpa using he
  simp only [VH] at hv1
  obtain ⟨q, z, cap, hi, rfl, _⟩ := hv1
  have hb := hh _ (List.mem_cons_self ..)
  obtain ⟨cc, ee, f, h1, h2, h3, h4, _⟩ := hs.heap.cells hb hi
  obtain ⟨vs, g1, g2, g3⟩ := run_src hs hsrc (fun x hx => hh x (List.mem_cons_of_mem _ hx)) hlen hv2
  have g4 := g3 (min m n) (Nat.min_le_left _ _) w (fun _ => rfl)
  have hl := g2.length
  have hmul : (min m n) * re.size ≤ vs.length := by rw [hl, hlen]; exact Nat.mul_le_mul_right _ (Nat.min_le_left _ _)
  have g5 : VHs ι imm w (ys.take ((min m n) * re.size)) (vs.take ((min m n) * re.size)) := g2.take
  have hl5 := g5.length
  have hsing : ∀ v ∈ vs.take ((min m n) * re.size), single v := VHs.singles _ _ g5 (flatCell_spec hflat)
  obtain ⟨w', h5, h6⟩ := run_storeCells (P := E.P) (vs.take ((min m n) * re.size)) (z + k) 0 h1 (by rw [List.length_take]; omega) (fun o _ => h3 o) hsing
  unfold Oper.wp
  have hrun : (execOp a.eval o).run E.P w = .ok (.value (.int .i64 ((min m n : Nat) : Int))) w' := by
    have h7 : (Builtin.copy_ #[t, t2] o.type #[.slice (some ⟨q, z + k, none⟩) n cap, v2]).run E.P w = .ok (.int .i64 ((min m n : Nat) : Int)) w' := by
      simp only [Builtin.copy_, List.getElem?_toArray, List.getElem?_cons_zero, List.getElem?_cons_succ]
      rw [run_bind', run_underlying hT hr]
      simp only [hdesc, run_bind', g1, run_sizeOf hT hre]
      have : Nat.min m n = min m n := rfl
      rw [this, g4]
      simp only [h5, run_pure', goInt]
    simp only [execOp, ho, resolve, hc, run_bind', run_pure', invoke, builtin, hargs, hty, h7]
  rw [hrun, Oper.upon_value]
  have L1 : (ys.take ((min m n) * re.size)).length = (min m n) * re.size := by rw [List.length_take]; omega
  have hput := CellsH.put (k := k) (c' := putCells cc (z + k + 0) (vs.take ((min m n) * re.size))) h4 g5 (by rw [L1]; exact hfit) (by rw [Nat.add_zero]) h2
  have hsr := hs.write hb hi h1 h6 (putCells_size _ _ _) (by rw [setRange_length (by rw [L1]; exact hfit)]; exact h2) hput (.pv (.lit (.int .i64 ((min m n : Nat) : Int))))
  exact ⟨ι, imm, hsr.put o.dst hd (show VH ι imm w' (.pv (.lit (.int .i64 _))) (.int .i64 _) from ⟨rfl, rfl⟩)⟩

end ops
end Go.Am

/- An abstract machine over the kit's calls, part 16: cells at places told by a fact; loops with a counter. No conditions. -/
namespace Go.Am
section steps
variable {E : Env} {T : Tab} {cq : Oper → Cls} {n : Nat} {ops : Array Oper}

theorem readAV_one {r : TyRow} (hr : isAggD r.desc = false) {cs : List AV} {k : Nat} {v : AV} (h : cs[k]? = some v) : readAV r (cs.drop k) = some v := by
  unfold readAV
  rw [hr]
  simpa using h

theorem rexec_load (C : Cx E T n) {d : Option Nat} {t : TypeId} {x : Operand} {ty : TypeId} {pos : String} {af : Array Edge} {g : Option (Nat × Bool)} {st : St} {K : St → Prop} {b k : Nat} {cs : List AV} {r : TyRow} {v : AV} (h1 : dstB n ⟨d, .load t x, ty, pos, af, g⟩ = true)
    (h2 : evl st.S x = some (.ptr b k)) (h3 : st.H b = some (.cells cs)) (hr : T.lookup t = some r) (hra : isAggD r.desc = false) (h4 : cs[k]? = some v) (h7 : K (st.after d { v := v })) (h8 : footB (clsOf cq ⟨d, .load t x, ty, pos, af, g⟩) [(b, .cells cs)] { v := v } = true := by rfl) : rexec E cq n ⟨d, .load t x, ty, pos, af, g⟩ st K := by
  refine rexec_prim C (p := True) (hs := [(b, .cells cs)]) (δ := { v := v }) h1 rfl (vs := [.ptr b k]) ?_ ?_ trivial rfl h7 h8
  · show evls st.S [x] = _
    simp only [evls, h2]
  · simp only [prim, primLoad, hr, h3, readAV_one hra h4]

theorem rvc_load (C : Cx E T n) {d : Option Nat} {t : TypeId} {x : Operand} {ty : TypeId} {pos : String} {af : Array Edge} {rest : List Oper} {st : St} {K : St → Prop} {b k : Nat} {cs : List AV} {r : TyRow} {v : AV} (h1 : dstB n ⟨d, .load t x, ty, pos, af, none⟩ = true)
    (h2 : evl st.S x = some (.ptr b k)) (h3 : st.H b = some (.cells cs)) (hr : T.lookup t = some r) (hra : isAggD r.desc = false) (h4 : cs[k]? = some v) (h7 : rvc E cq n ops rest (st.after d { v := v }) K) (h8 : footB (clsOf cq ⟨d, .load t x, ty, pos, af, none⟩) [(b, .cells cs)] { v := v } = true := by rfl) : rvc E cq n ops (⟨d, .load t x, ty, pos, af, none⟩ :: rest) st K := by
  simp only [rvc]
  exact rexec_load C h1 h2 h3 hr hra h4 h7 h8

/-- A load through a pointer into cells that do not change. -/
theorem rexec_loadp (C : Cx E T n) {d : Option Nat} {t : TypeId} {x : Operand} {ty : TypeId} {pos : String} {af : Array Edge} {g : Option (Nat × Bool)} {st : St} {K : St → Prop} {ps : List PV} {r : TyRow} {v : PV} (h1 : dstB n ⟨d, .load t x, ty, pos, af, g⟩ = true)
    (h2 : evl st.S x = some (.rp ps)) (hr : T.lookup t = some r) (hra : isAggD r.desc = false) (h4 : ps[0]? = some v) (h7 : K (st.after d { v := .pv v })) (h8 : footB (clsOf cq ⟨d, .load t x, ty, pos, af, g⟩) [] { v := .pv v } = true := by rfl) : rexec E cq n ⟨d, .load t x, ty, pos, af, g⟩ st K := by
  refine rexec_prim C (p := True) (hs := []) (δ := { v := .pv v }) h1 rfl (vs := [.rp ps]) ?_ ?_ trivial rfl h7 h8
  · show evls st.S [x] = _
    simp only [evls, h2]
  · cases ps with
    | nil => cases h4
    | cons p ps =>
      simp only [List.getElem?_cons_zero, Option.some.injEq] at h4
      subst h4
      simp only [prim, primLoad, hr, PV.isNe, if_true, readAV, hra, List.map_cons, List.head?_cons, Bool.false_eq_true, if_false]
theorem rvc_loadp (C : Cx E T n) {d : Option Nat} {t : TypeId} {x : Operand} {ty : TypeId} {pos : String} {af : Array Edge} {rest : List Oper} {st : St} {K : St → Prop} {ps : List PV} {r : TyRow} {v : PV} (h1 : dstB n ⟨d, .load t x, ty, pos, af, none⟩ = true)
    (h2 : evl st.S x = some (.rp ps)) (hr : T.lookup t = some r) (hra : isAggD r.desc = false) (h4 : ps[0]? = some v) (h7 : rvc E cq n ops rest (st.after d { v := .pv v }) K) (h8 : footB (clsOf cq ⟨d, .load t x, ty, pos, af, none⟩) [] { v := .pv v } = true := by rfl) : rvc E cq n ops (⟨d, .load t x, ty, pos, af, none⟩ :: rest) st K := by
  simp only [rvc]
  exact rexec_loadp C h1 h2 hr hra h4 h7 h8

theorem setRange_one {cs : List AV} {k : Nat} {v : AV} (hk : k < cs.length) : setRange cs k [v] = cs.set k v := by
  simp only [setRange, List.length_singleton]
  rw [List.set_eq_take_append_cons_drop, if_pos hk]
  simp

theorem rvc_store (C : Cx E T n) {t : TypeId} {x y : Operand} {ty : TypeId} {pos : String} {af : Array Edge} {rest : List Oper} {st : St} {K : St → Prop} {b k : Nat} {cs : List AV} {r : TyRow} {v : PV} (h2 : evl st.S x = some (.ptr b k)) (h3 : st.H b = some (.cells cs)) (hv : evl st.S y = some (.pv v)) (hr : T.lookup t = some r) (hrs : r.size = 1) (hk : k < cs.length)
    (h7 : rvc E cq n ops rest (st.after none { v := .undef, wr := [(b, some (.cells (cs.set k (.pv v))))] }) K) (h8 : footB (clsOf cq ⟨none, .store t x y, ty, pos, af, none⟩) [(b, .cells cs)] { v := .undef, wr := [(b, some (.cells (setRange cs k [.pv v])))] } = true := by rfl) : rvc E cq n ops (⟨none, .store t x y, ty, pos, af, none⟩ :: rest) st K := by
  rw [← setRange_one hk] at h7
  refine rvc_prim C (p := True) (hs := [(b, .cells cs)]) (δ := { v := .undef, wr := [(b, some (.cells (setRange cs k [.pv v])))] }) rfl rfl (vs := [.ptr b k, .pv v]) ?_ ?_ trivial rfl h7 h8
  · show evls st.S [x, y] = _
    simp only [evls, h2, hv]
  · simp only [prim, primStore, hr, h3, cellsOf, List.length_singleton, hrs]
    rw [if_pos ⟨trivial, by omega, by simp [flatCell]⟩]

def eqsS (f : Nat → Option AV) : List (Nat × AV) → Prop
  | [] => True
  | x :: xs => f x.1 = some x.2 ∧ eqsS f xs
def eqsH (f : Nat → Option Blk) : List (Nat × Blk) → Prop
  | [] => True
  | x :: xs => f x.1 = some x.2 ∧ eqsH f xs
theorem eqsS_mem {f : Nat → Option AV} : ∀ {l : List (Nat × AV)}, eqsS f l → ∀ x ∈ l, f x.1 = some x.2
  | [], _, x, hx => by cases hx
  | y :: ys, h, x, hx => by
    cases hx with
    | head => exact h.1
    | tail _ hm => exact eqsS_mem h.2 x hm
theorem eqsH_mem {f : Nat → Option Blk} : ∀ {l : List (Nat × Blk)}, eqsH f l → ∀ x ∈ l, f x.1 = some x.2
  | [], _, x, hx => by cases hx
  | y :: ys, h, x, hx => by
    cases hx with
    | head => exact h.1
    | tail _ hm => exact eqsH_mem h.2 x hm
theorem Weaker.of {st : St} {S : List (Nat × AV)} {H : List (Nat × Blk)} {U : List Nat} (hI : E.I = []) (h1 : eqsS st.S S) (h2 : eqsH st.H H) (h3 : (S.all fun x => x.2.within fun b => U.contains b) = true) (h4 : (H.all fun x => U.contains x.1 && x.2.within fun b => U.contains b) = true) : Weaker st S H U E.I :=
  ⟨eqsS_mem h1, eqsH_mem h2, h3, h4, by rw [hI]; rfl⟩

/-- A loop over a count, told by a family of states. -/
theorem Awp.forN {c : Code} {st : St} {Q : Exit → St → Prop} (N : Nat) (S : Nat → List (Nat × AV)) (H : Nat → List (Nat × Blk)) (U : List Nat) (hw : Weaker st (S 0) (H 0) U E.I)
    (round : ∀ i, i < N → Awp E c (mkSt (S i) (H i) U) fun e st' => match e with | .normal => Weaker st' (S (i + 1)) (H (i + 1)) U E.I | e => Q e st')
    (last : Awp E c (mkSt (S N) (H N) U) fun e st' => match e with | .normal => False | e => Q e st') : Awp E (.loop c) st Q := by
  refine Awp.loop' (α := Nat) S H (fun _ => U) (fun m i => i ≤ N ∧ m = N - i) N 0 ⟨Nat.zero_le _, rfl⟩ hw fun m i ⟨hi, hm⟩ => ?_
  rcases Nat.lt_or_ge i N with h | h
  · refine (round i h).mono fun e st' hq => ?_
    cases e <;> first | exact hq | exact ⟨N - (i + 1), i + 1, by omega, ⟨by omega, rfl⟩, hq⟩
  · have : i = N := by omega
    subst this
    refine last.mono fun e st' hq => ?_
    cases e <;> first | exact hq | exact hq.elim
end steps

/-! ### Arrays of numbers, told by functions -/
def tb (n : Nat) (f : Nat → Int) : List Int := (List.range n).map f
def cI (k : IntKind) (A : List Int) : List AV := A.map fun x => .pv (.lit (.int k x))
theorem tb_len (n : Nat) (f : Nat → Int) : (tb n f).length = n := by simp [tb]
theorem tb_get {n : Nat} {f : Nat → Int} {i : Nat} (h : i < n) : (tb n f)[i]? = some (f i) := by simp [tb, h]
theorem tb_congr {n : Nat} {f g : Nat → Int} (h : ∀ t, t < n → f t = g t) : tb n f = tb n g := by
  simp only [tb]
  exact List.map_congr_left fun t ht => h t (List.mem_range.1 ht)
theorem tb_set {n : Nat} {f : Nat → Int} {i : Nat} {v : Int} : (tb n f).set i v = tb n (fun t => if t = i then v else f t) := by
  apply List.ext_getElem?
  intro j
  rw [List.getElem?_set, tb_len]
  by_cases hj : j < n
  · rw [tb_get hj, tb_get hj]
    by_cases h : i = j
    · subst h; simp [hj]
    · simp [h, Ne.symm h]
  · have h1 : (tb n f)[j]? = none := List.getElem?_eq_none (by rw [tb_len]; omega)
    have h2 : (tb n fun t => if t = i then v else f t)[j]? = none := List.getElem?_eq_none (by rw [tb_len]; omega)
    rw [h1, h2]
    by_cases h : i = j
    · subst h; simp [hj]
    · simp [h]
theorem cI_len (k : IntKind) (A : List Int) : (cI k A).length = A.length := by simp [cI]
theorem cI_within (k : IntKind) (A : List Int) (U : Nat → Bool) : AV.withinL U (cI k A) = true := AV.withinL_of fun x hx => by
  obtain ⟨p, _, rfl⟩ := List.mem_map.1 hx; rfl
/-- A cell of such an array, at a place that is told otherwise. -/
theorem cI_at {k : IntKind} {n : Nat} {f : Nat → Int} {j : Nat} (i : Nat) (hj : j = i) (h : i < n) : (cI k (tb n f))[j]? = some (.pv (.lit (.int k (f i)))) := by
  subst hj; simp [cI, tb_get h]
theorem cI_set {k : IntKind} {n : Nat} {f : Nat → Int} {j : Nat} (i : Nat) (hj : j = i) {v : Int} : (cI k (tb n f)).set j (.pv (.lit (.int k v))) = cI k (tb n (fun t => if t = i then v else f t)) := by
  subst hj
  rw [← tb_set]
  simp [cI, List.map_set]
theorem tb_getD (A : List Int) : tb A.length (fun t => A.getD t 0) = A := by
  apply List.ext_getElem?
  intro j
  by_cases hj : j < A.length
  · rw [tb_get hj]; simp [hj]
  · rw [List.getElem?_eq_none (by rw [tb_len]; omega), List.getElem?_eq_none (by omega)]
end Go.Am

/- The table of the types of the seat of chapter 8, and that it is so. No conditions. -/
namespace Go.Proofs.Ytjhphpoihadmkaa
open Go.Am
def tab : Tab := [
  (3, ⟨.int .i64, 1, 8, .int .i64 0, false⟩),
  (4, ⟨.bool, 1, 1, .bool false, false⟩),
  (9, ⟨.string, 1, 16, .string ⟨#[]⟩, false⟩),
  (22, ⟨.slice 45, 1, 24, .slice none 0 0, false⟩),
  (23, ⟨.struct #[{ name := "Epoch", type := 3, offset := 0, embedded := false, tag := "", pkgPath := "", byteOffset := 0 }, { name := "Members", type := 22, offset := 1, embedded := false, tag := "", pkgPath := "", byteOffset := 8 }], 2, 32, .agg #[.int .i64 0, .slice none 0 0], true⟩),
  (24, ⟨.struct #[{ name := "Epoch", type := 3, offset := 0, embedded := false, tag := "", pkgPath := "", byteOffset := 0 }, { name := "Members", type := 22, offset := 1, embedded := false, tag := "", pkgPath := "", byteOffset := 8 }], 2, 32, .agg #[.int .i64 0, .slice none 0 0], true⟩),
  (26, ⟨.int .i64, 1, 8, .int .i64 0, false⟩),
  (33, ⟨.int .u64, 1, 8, .int .u64 0, false⟩),
  (34, ⟨.int .u64, 1, 8, .int .u64 0, false⟩),
  (41, ⟨.struct #[{ name := "Op", type := 3, offset := 0, embedded := false, tag := "", pkgPath := "", byteOffset := 0 }, { name := "Node", type := 3, offset := 1, embedded := false, tag := "", pkgPath := "", byteOffset := 8 }, { name := "Site", type := 3, offset := 2, embedded := false, tag := "", pkgPath := "", byteOffset := 16 }, { name := "Fresh", type := 4, offset := 3, embedded := false, tag := "", pkgPath := "", byteOffset := 24 }], 4, 32, .agg #[.int .i64 0, .int .i64 0, .int .i64 0, .bool false], true⟩),
  (42, ⟨.struct #[{ name := "Op", type := 3, offset := 0, embedded := false, tag := "", pkgPath := "", byteOffset := 0 }, { name := "Node", type := 3, offset := 1, embedded := false, tag := "", pkgPath := "", byteOffset := 8 }, { name := "Site", type := 3, offset := 2, embedded := false, tag := "", pkgPath := "", byteOffset := 16 }, { name := "Fresh", type := 4, offset := 3, embedded := false, tag := "", pkgPath := "", byteOffset := 24 }], 4, 32, .agg #[.int .i64 0, .int .i64 0, .int .i64 0, .bool false], true⟩),
  (44, ⟨.struct #[{ name := "Node", type := 3, offset := 0, embedded := false, tag := "", pkgPath := "", byteOffset := 0 }, { name := "Site", type := 3, offset := 1, embedded := false, tag := "", pkgPath := "", byteOffset := 8 }, { name := "Fresh", type := 4, offset := 2, embedded := false, tag := "", pkgPath := "", byteOffset := 16 }], 3, 24, .agg #[.int .i64 0, .int .i64 0, .bool false], true⟩),
  (45, ⟨.struct #[{ name := "Node", type := 3, offset := 0, embedded := false, tag := "", pkgPath := "", byteOffset := 0 }, { name := "Site", type := 3, offset := 1, embedded := false, tag := "", pkgPath := "", byteOffset := 8 }, { name := "Fresh", type := 4, offset := 2, embedded := false, tag := "", pkgPath := "", byteOffset := 16 }], 3, 24, .agg #[.int .i64 0, .int .i64 0, .bool false], true⟩),
  (49, ⟨.slice 42, 1, 24, .slice none 0 0, false⟩),
  (51, ⟨.int .u64, 1, 8, .int .u64 0, false⟩),
  (59, ⟨.slice 3, 1, 24, .slice none 0 0, false⟩)]
theorem inf3 : (Try.prog.info? 3).map (fun i => (i.size, i.bytes, i.zero)) = some (1, 8, some (.int .i64 0)) := by kernel_rfl
theorem inf4 : (Try.prog.info? 4).map (fun i => (i.size, i.bytes, i.zero)) = some (1, 1, some (.bool false)) := by kernel_rfl
theorem inf9 : (Try.prog.info? 9).map (fun i => (i.size, i.bytes, i.zero)) = some (1, 16, some (.string ⟨#[]⟩)) := by kernel_rfl
theorem inf22 : (Try.prog.info? 22).map (fun i => (i.size, i.bytes, i.zero)) = some (1, 24, some (.slice none 0 0)) := by kernel_rfl
theorem inf23 : (Try.prog.info? 23).map (fun i => (i.size, i.bytes, i.zero)) = some (2, 32, some (.agg #[.int .i64 0, .slice none 0 0])) := by kernel_rfl
theorem inf24 : (Try.prog.info? 24).map (fun i => (i.size, i.bytes, i.zero)) = some (2, 32, some (.agg #[.int .i64 0, .slice none 0 0])) := by kernel_rfl
theorem inf26 : (Try.prog.info? 26).map (fun i => (i.size, i.bytes, i.zero)) = some (1, 8, some (.int .i64 0)) := by kernel_rfl
theorem inf33 : (Try.prog.info? 33).map (fun i => (i.size, i.bytes, i.zero)) = some (1, 8, some (.int .u64 0)) := by kernel_rfl
theorem inf34 : (Try.prog.info? 34).map (fun i => (i.size, i.bytes, i.zero)) = some (1, 8, some (.int .u64 0)) := by kernel_rfl
theorem inf41 : (Try.prog.info? 41).map (fun i => (i.size, i.bytes, i.zero)) = some (4, 32, some (.agg #[.int .i64 0, .int .i64 0, .int .i64 0, .bool false])) := by kernel_rfl
theorem inf42 : (Try.prog.info? 42).map (fun i => (i.size, i.bytes, i.zero)) = some (4, 32, some (.agg #[.int .i64 0, .int .i64 0, .int .i64 0, .bool false])) := by kernel_rfl
theorem inf44 : (Try.prog.info? 44).map (fun i => (i.size, i.bytes, i.zero)) = some (3, 24, some (.agg #[.int .i64 0, .int .i64 0, .bool false])) := by kernel_rfl
theorem inf45 : (Try.prog.info? 45).map (fun i => (i.size, i.bytes, i.zero)) = some (3, 24, some (.agg #[.int .i64 0, .int .i64 0, .bool false])) := by kernel_rfl
theorem inf49 : (Try.prog.info? 49).map (fun i => (i.size, i.bytes, i.zero)) = some (1, 24, some (.slice none 0 0)) := by kernel_rfl
theorem inf51 : (Try.prog.info? 51).map (fun i => (i.size, i.bytes, i.zero)) = some (1, 8, some (.int .u64 0)) := by kernel_rfl
theorem inf59 : (Try.prog.info? 59).map (fun i => (i.size, i.bytes, i.zero)) = some (1, 24, some (.slice none 0 0)) := by kernel_rfl
theorem tabOk : TabOk Try.prog tab := TabOk.cons Try.underlying3 inf3 (fun h => by cases h) (TabOk.cons Try.underlying4 inf4 (fun h => by cases h) (TabOk.cons Try.underlying9 inf9 (fun h => by cases h) (TabOk.cons Try.underlying22 inf22 (fun h => by cases h) (TabOk.cons Try.underlying23 inf23 (fun _ => ⟨by kernel_rfl, by kernel_rfl⟩) (TabOk.cons Try.underlying24 inf24 (fun _ => ⟨by kernel_rfl, by kernel_rfl⟩) (TabOk.cons Try.underlying26 inf26 (fun h => by cases h) (TabOk.cons Try.underlying33 inf33 (fun h => by cases h) (TabOk.cons Try.underlying34 inf34 (fun h => by cases h) (TabOk.cons Try.underlying41 inf41 (fun _ => ⟨by kernel_rfl, by kernel_rfl⟩) (TabOk.cons Try.underlying42 inf42 (fun _ => ⟨by kernel_rfl, by kernel_rfl⟩) (TabOk.cons Try.underlying44 inf44 (fun _ => ⟨by kernel_rfl, by kernel_rfl⟩) (TabOk.cons Try.underlying45 inf45 (fun _ => ⟨by kernel_rfl, by kernel_rfl⟩) (TabOk.cons Try.underlying49 inf49 (fun h => by cases h) (TabOk.cons Try.underlying51 inf51 (fun h => by cases h) (TabOk.cons Try.underlying59 inf59 (fun h => by cases h) (TabOk.nil _))))))))))))))))
theorem mixed : Try.prog.follows .mixedOrders = true := by kernel_rfl
theorem lit_cast {k : IntKind} {a b : Int} (h : a = b) : some (AV.pv (.lit (.int k a))) = some (AV.pv (.lit (.int k b))) := by rw [h]
end Go.Proofs.Ytjhphpoihadmkaa

