/- An abstract machine over the kit's calls, part 13: code: what must be shown of it (cvc), and that this is enough; a function's body gives its contract. No conditions. -/
import Derived.Test.YtjhphpoihadmkaaAm12
import Derived.Deep.LoopGhost
import Derived.LoopN
namespace Go.Am

/-- A slot's value, known to be this. -/
def St.set (st : St) (t : Nat) (v : AV) : St := ⟨putO st.S (some t) v, st.H, st.U⟩

def dstB (n : Nat) (o : Oper) : Bool := match o.dst with | some d => decide (d < n) | none => true
def freshB (U : Nat → Bool) (δ : Delta) : Bool := δ.new.all fun x => !U x.1

/-- What must be shown of an operation. -/
def rexec (E : Env) (cq : Oper → Cls) (n : Nat) (o : Oper) (st : St) (K : St → Prop) : Prop :=
  dstB n o = true ∧ ∃ vs hs δ, Move E (clsOf cq o) o st vs hs δ ∧ K (st.after o.dst δ)

def rvc (E : Env) (cq : Oper → Cls) (n : Nat) (ops : Array Oper) : List Oper → St → (St → Prop) → Prop
  | [], st, K => K st
  | o :: rest, st, K => match o.guard with
    | none => rexec E cq n o st fun st' => rvc E cq n ops rest st' K
    | some (j, want) => match (ops[j]?).bind (·.dst) with
      | none => False
      | some t => match st.S t with
        | some (.pv (.lit (.bool b))) =>
          (b = want → rexec E cq n o st fun st' => rvc E cq n ops rest st' K) ∧
          (b = !want → dstB n o = true ∧ rvc E cq n ops rest (st.after o.dst { v := .tup [] }) K)
        | some (.tup []) => dstB n o = true ∧ rvc E cq n ops rest (st.after o.dst { v := .tup [] }) K
        | _ => False

theorem PrimOk.move {E : Env} {T : Tab} {cq : Oper → Cls} {o : Oper} {st : St} {vs : List AV} {hs : List (Nat × Blk)} {δ : Delta} (h : PrimOk E T cq o vs st.H hs δ) (hv : evls st.S o.op.operands.toList = some vs) (hf : freshB st.U δ = true) (hfoot : footB (clsOf cq o) hs δ = true) : Move E (clsOf cq o) o st vs hs δ := by
  have hV : AV.withinL (fun b => (δ.new.lookup b).isSome || refs vs hs b) vs = true := by
    refine AV.withinL_mono (U := fun b => refs vs hs b) (fun b hb => by simp [hb]) vs ?_
    exact within_self vs hs
  have hH : ∀ x ∈ hs, x.2.within (fun b => (δ.new.lookup b).isSome || refs vs hs b) = true := fun x hx =>
    Blk.within_mono (U := fun b => refs vs hs b) (fun b hb => by simp [hb]) x.2 (within_self_blk vs hs x hx)
  have hN : ∀ x ∈ δ.new, (fun b => (δ.new.lookup b).isSome || refs vs hs b) x.1 = true := fun x hx => by
    have : δ.new.lookup x.1 ≠ none := by
      have none_of : ∀ (l : List (Nat × Blk)) (p : Nat × Blk), p ∈ l → l.lookup p.1 ≠ none := by
        intro l
        induction l with
        | nil => intro p h; cases h
        | cons y ys ih =>
          intro p h
          simp only [List.lookup]
          split
          · simp
          · rename_i hne
            cases h with
            | head => simp at hne
            | tail _ hm => exact ih p hm
      exact none_of _ _ hx
    cases hl : δ.new.lookup x.1 with
    | none => exact absurd hl this
    | some k => simp [hl]
  obtain ⟨h1, h2, h3⟩ := h.inr _ hV hH hN
  refine { vals := hv, deps := h.deps, fresh := fun x hx => ?_, does := h.does, reach := h.reach, inV := h1, inN := h2, inW := fun x hx k hk => (h3 x hx).2 k hk, wr := fun x hx => ?_, pure := fun e => h.pure (clsOf_pure e), quiet := fun e => h.quiet (clsOf_quiet e), foot := hfoot }
  · have := List.all_eq_true.1 hf x hx
    simpa using this
  · exact (h3 x hx).1

theorem run_of_rvc {E : Env} {cq : Oper → Cls} {n : Nat} {ops : Array Oper} (hn : E.n = n) : ∀ (l : List Oper) (k : Nat) (st : St) (K : St → Prop), (∀ j, l[j]? = ops[k + j]?) → rvc E cq n ops l st K → ∃ sn, Run E ops (clsOf cq) (List.range' k l.length) st sn ∧ K sn
  | [], k, st, K, _, h => ⟨st, .nil st, h⟩
  | o :: l, k, st, K, hl, h => by
    have ho : ops[k]? = some o := by simpa using (hl 0).symm
    have hl' : ∀ j, l[j]? = ops[k + 1 + j]? := fun j => by have := hl (j + 1); simpa [Nat.add_assoc, Nat.add_comm 1 j] using this
    have hD : dstB n o = true → ∀ d, o.dst = some d → d < E.n := fun hd d e => by simp only [dstB, e, decide_eq_true_eq] at hd; exact hn ▸ hd
    simp only [List.length_cons, List.range'_succ]
    simp only [rvc] at h
    split at h
    · rename_i hg
      obtain ⟨hd, vs, hs, δ, m, h2⟩ := h
      obtain ⟨sn, h3, h4⟩ := run_of_rvc hn l (k + 1) _ K hl' h2
      exact ⟨sn, .cons ho (.exec (by simp [guardV, hg]) (hD hd) vs hs δ m) h3, h4⟩
    · rename_i j want hg
      split at h
      · exact h.elim
      · rename_i t ht
        split at h
        · rename_i b hb
          obtain ⟨hyes, hno⟩ := h
          have hgv : guardV ops st.S o = some (b == want) := by simp only [guardV, hg, ht, Option.bind_some, hb]
          by_cases hbw : b = want
          · obtain ⟨hd, vs, hs, δ, m, h2⟩ := hyes hbw
            obtain ⟨sn, h3, h4⟩ := run_of_rvc hn l (k + 1) _ K hl' h2
            exact ⟨sn, .cons ho (.exec (by rw [hgv, hbw]; simp) (hD hd) vs hs δ m) h3, h4⟩
          · have hbn : b = !want := by cases b <;> cases want <;> simp_all
            obtain ⟨hd, h2⟩ := hno hbn
            obtain ⟨sn, h3, h4⟩ := run_of_rvc hn l (k + 1) _ K hl' h2
            exact ⟨sn, .cons ho (.skip (by rw [hgv, hbn]; cases want <;> rfl) (hD hd)) h3, h4⟩
        · rename_i hb
          obtain ⟨hd, h2⟩ := h
          have hgv : guardV ops st.S o = some false := by simp only [guardV, hg, ht, Option.bind_some, hb]
          obtain ⟨sn, h3, h4⟩ := run_of_rvc hn l (k + 1) _ K hl' h2
          exact ⟨sn, .cons ho (.skip hgv (hD hd)) h3, h4⟩
        · exact h.elim

/-! ### Code -/
def Awp (E : Env) (c : Code) (st : St) (Q : Exit → St → Prop) : Prop :=
  ∀ a w, At E st a w → c.wp E.P (fun e a' w' => ∃ st', Q e st' ∧ At E st' a' w') a w

/-- What the rules ask of the function that one stands in. -/
structure Cx (E : Env) (T : Tab) (n : Nat) : Prop where
  tab : TabOk E.P T
  n : E.n = n
  mixed : E.P.follows .mixedOrders = true

namespace Awp
variable {E : Env} {T : Tab} {n : Nat} {st : St} {Q : Exit → St → Prop}

theorem mono {c : Code} {Q' : Exit → St → Prop} (h : Awp E c st Q) (hq : ∀ e st, Q e st → Q' e st) : Awp E c st Q' :=
  fun a w hat => wp_mono (h a w hat) fun _ _ _ ⟨st', h1, h2⟩ => ⟨st', hq _ _ h1, h2⟩

theorem skip (h : Q .normal st) : Awp E .skip st Q := fun _ _ hat => wp_skip ⟨st, h, hat⟩
theorem exit {id : Nat} (h : Q (.exit id) st) : Awp E (.exit id) st Q := fun _ _ hat => wp_exit ⟨st, h, hat⟩
theorem ret (h : Q .ret st) : Awp E .ret st Q := fun _ _ hat => wp_ret ⟨st, h, hat⟩

/-- A region in the order of its text, or in any drawn order. -/
theorem region (C : Cx E T n) (cq : Oper → Cls) {id : Nat} {b : Bool} {l : List Oper} (hok : (!b || okDrawn l.toArray (clsOf cq) (befs l [])) = true) (h : rvc E cq n l.toArray l st fun st' => Q .normal st') : Awp E (.region id l.toArray b) st Q := by
  intro a w hat
  obtain ⟨sn, h1, h2⟩ := run_of_rvc C.n l 0 st _ (by simp) h
  have hr : List.range' 0 l.length = List.range l.toArray.size := by rw [List.range_eq_range']; simp
  rw [hr] at h1
  cases b with
  | false => exact wp_region_run h1 hat fun a w h3 => ⟨sn, h2, h3⟩
  | true => exact wp_region_drawn C.mixed (by simpa using hok) h1 hat fun a w h3 => ⟨sn, h2, h3⟩

theorem seq {x y : Code} (h : Awp E x st fun e st' => match e with | .normal => Awp E y st' Q | e => Q e st') : Awp E (.seq x y) st Q := by
  intro a w hat
  refine wp_seq (wp_mono (h a w hat) ?_)
  rintro e a' w' ⟨st', h1, h2⟩
  cases e <;> simp only [Exit.then]
  case normal => exact h1 a' w' h2
  all_goals exact ⟨st', h1, h2⟩

/-- A region, and what comes behind it. -/
theorem cons (C : Cx E T n) (cq : Oper → Cls) {id : Nat} {b : Bool} {l : List Oper} {y : Code} (hok : (!b || okDrawn l.toArray (clsOf cq) (befs l [])) = true) (h : rvc E cq n l.toArray l st fun st' => Awp E y st' Q) : Awp E (.seq (.region id l.toArray b) y) st Q :=
  seq (region C cq hok h)

theorem cond {c : Operand} {x y : Code} {b : Bool} (hc : evl st.S c = some (.pv (.lit (.bool b)))) (hx : b = true → Awp E x st Q) (hy : b = false → Awp E y st Q) : Awp E (.cond c x y) st Q := by
  intro a w hat
  obtain ⟨ι, imm, hs⟩ := hat
  have hv := hs.evl hc
  simp only [VH, PH] at hv
  exact wp_cond_split hv.1 (fun e => hx e a w ⟨ι, imm, hs⟩) (fun e => hy e a w ⟨ι, imm, hs⟩)

theorem condT {c : Operand} {x y : Code} {b : Bool} (hc : evl st.S c = some (.pv (.lit (.bool b)))) (hb : b = true) (hx : Awp E x st Q) : Awp E (.cond c x y) st Q := cond hc (fun _ => hx) fun h => by rw [hb] at h; cases h
theorem condF {c : Operand} {x y : Code} {b : Bool} (hc : evl st.S c = some (.pv (.lit (.bool b)))) (hb : b = false) (hy : Awp E y st Q) : Awp E (.cond c x y) st Q := cond hc (fun h => by rw [hb] at h; cases h) fun _ => hy

theorem block {id : Nat} {x : Code} (h : Awp E x st fun e st' => match e with | .exit i => if i = id then Q .normal st' else Q (.exit i) st' | e => Q e st') : Awp E (.block id x) st Q := by
  intro a w hat
  refine wp_block (wp_mono (h a w hat) ?_)
  rintro e a' w' ⟨st', h1, h2⟩
  cases e <;> simp only [Exit.inBlock]
  case exit i =>
    simp only at h1
    split at h1
    · rename_i e; rw [if_pos e]; exact ⟨st', h1, h2⟩
    · rename_i e; rw [if_neg e]; exact ⟨st', h1, h2⟩
  all_goals exact ⟨st', h1, h2⟩

end Awp

/-- So many rounds of a loop. -/
def Arounds (E : Env) (c : Code) (Q : Exit → St → Prop) : Nat → St → Prop
  | 0, _ => False
  | n + 1, st => Awp E c st fun e st' => match e with | .normal => Arounds E c Q n st' | e => Q e st'

theorem Awp.rounds {E : Env} {c : Code} {Q : Exit → St → Prop} (n : Nat) {st : St} (h : Arounds E c Q n st) : Awp E (.loop c) st Q := by
  intro a w hat
  refine wp_loop_rounds n ?_
  induction n generalizing st a w with
  | zero => exact h.elim
  | succ n ih =>
    rw [rounds_succ]
    refine wp_mono (h a w hat) ?_
    rintro e a' w' ⟨st', h1, h2⟩
    cases e <;> simp only [Exit.then]
    case normal => exact ih h1 a' w' h2
    all_goals exact ⟨st', h1, h2⟩
theorem Arounds.succ {E : Env} {c : Code} {Q : Exit → St → Prop} {n : Nat} {st : St} (h : Awp E c st fun e st' => match e with | .normal => Arounds E c Q n st' | e => Q e st') : Arounds E c Q (n + 1) st := h
end Go.Am
