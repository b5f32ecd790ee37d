/- An abstract machine over the kit's calls, part 12: all operations in one function (prim), and that it tells the truth. No conditions. -/
import Derived.Test.YtjhphpoihadmkaaAm11
namespace Go.Am

abbrev PrimR := Option (Prop × List (Nat × Blk) × Delta)

def PV.isNe : List PV → Bool
  | [] => false
  | _ :: _ => true

def primLoad (T : Tab) (t : TypeId) (vs : List AV) (H : Nat → Option Blk) : PrimR :=
  match T.lookup t with
  | none => none
  | some r => match vs with
    | [.ptr b k] => match H b with
      | some (.cells cs) => match readAV r (cs.drop k) with
        | some z => some (True, [(b, .cells cs)], { v := z })
        | none => none
      | _ => none
    | [.rp ps] => if PV.isNe ps then (match readAV r (ps.map .pv) with
        | some z => some (True, [], { v := z })
        | none => none) else none
    | _ => none

def primStore (T : Tab) (t : TypeId) (d : Option Nat) (vs : List AV) (H : Nat → Option Blk) : PrimR :=
  match T.lookup t, d with
  | some r, none => match vs with
    | [.ptr b k, u] => match H b, cellsOf u with
      | some (.cells cs), some xs => if xs.length = r.size ∧ k + xs.length ≤ cs.length ∧ xs.all flatCell = true then some (True, [(b, .cells cs)], { v := .undef, wr := [(b, some (.cells (setRange cs k xs)))] }) else none
      | _, _ => none
    | _ => none
  | _, _ => none

def primBox (d : Option Nat) (vs : List AV) : PrimR :=
  match d, vs with
  | some d, [u] => match cellsOf u with
    | some cs => some (True, [], { v := .ptr d 0, new := [(d, .cells cs)] })
    | none => none
  | _, _ => none

def primAlloc (T : Tab) (t : TypeId) (d : Option Nat) (vs : List AV) : PrimR :=
  match T.lookup t, d, vs with
  | some r, some d, [] => some (True, [], { v := .ptr d 0, new := [(d, .cells (r.zero.cells.toList.map constCell))] })
  | _, _, _ => none

def primBuild (T : Tab) (t : TypeId) (parts : List (Nat × Operand)) (vs : List AV) : PrimR :=
  match T.lookup t with
  | none => none
  | some r => match placesOf T r.desc with
    | none => none
    | some pl => match fillAV pl (r.zero.cells.toList.map constCell) (parts.zipWith (fun p u => (p.1, u)) vs) with
      | some zs => some (True, [], { v := .agg zs })
      | none => none

def primBuildSlice (T : Tab) (t : TypeId) (n : Nat) (parts : List (Nat × Operand)) (d : Option Nat) (vs : List AV) : PrimR :=
  match T.lookup t, d with
  | some r, some d => match r.desc with
    | .slice e => match T.lookup e with
      | some re => match fillAV (fun i => some (i * re.size, re.size)) (zeroAV re.zero.cells (n * re.size)) (parts.zipWith (fun p u => (p.1, u)) vs) with
        | some zs => if n * re.size ≤ 16777216 ∧ zs.length = n * re.size then some (True, [], { v := .sl d 0 n re.size true, new := [(d, .cells zs)] }) else none
        | none => none
      | none => none
    | _ => none
  | _, _ => none

def primConv (T : Tab) (src dst : TypeId) (vs : List AV) : PrimR :=
  match T.lookup src, T.lookup dst with
  | some _, some rd => match vs with
    | [.pv (.lit (.int _ n))] => match rd.desc with
      | .int k' => some (True, [], { v := .pv (.lit (.int k' (k'.wrap n))) })
      | _ => none
    | [.pv (.lit (.string s))] => match rd.desc with
      | .string => some (True, [], { v := .pv (.lit (.string s)) })
      | _ => none
    | _ => none
  | _, _ => none

def primSlice (T : Tab) (t : TypeId) (lo hi mx : Option Operand) (vs : List AV) (H : Nat → Option Blk) : PrimR :=
  match T.lookup t, vs with
  | some r, u :: vs => match optI vs lo with
    | some (l, v1) => match optI v1 hi with
      | some (h, v2) => match optI v2 mx with
        | some (m, _) => match sliceAV T r.desc H u l h m with
          | some (p, hs, z) => some (p, hs, { v := z })
          | none => none
        | none => none
      | none => none
    | none => none
  | _, _ => none

def lenAV : AV → Option AV
  | .pv (.sl _ n _) | .tsl n _ | .sl _ _ n _ _ => some (.pv (.lit (.int .i64 n)))
  | .pv (.lit (.string s)) => some (.pv (.lit (.int .i64 s.size)))
  | _ => none

def primBuiltin (T : Tab) (b : Builtin) (tys : List TypeId) (vs : List AV) : PrimR :=
  match b, tys, vs with
  | .len, [t], [u] => match T.lookup t with
    | some r => match r.desc, u with
      | .slice _, .pv (.sl _ n _) => some (True, [], { v := .pv (.lit (.int .i64 n)) })
      | .slice _, .tsl n _ => some (True, [], { v := .pv (.lit (.int .i64 n)) })
      | .slice _, .sl _ _ n _ _ => some (True, [], { v := .pv (.lit (.int .i64 n)) })
      | .string, .pv (.lit (.string s)) => some (True, [], { v := .pv (.lit (.int .i64 s.size)) })
      | _, _ => none
    | none => none
  | _, _, _ => none

def primBin (T : Tab) (op : BinOp) (t : TypeId) (vs : List AV) : PrimR :=
  match vs, T.lookup t with
  | [u, v], some r => match binAV op r.desc u v with
    | some (p, z) => some (p, [], { v := z })
    | none => match eqAgg T op r u v with
      | some z => some (True, [], { v := z })
      | none => match eqNil op r.desc u v with
        | some z => some (True, [], { v := z })
        | none => none
  | _, _ => none

def primField (T : Tab) (t : TypeId) (f : Nat) (vs : List AV) : PrimR :=
  match vs, T.lookup t with
  | [.agg cs], some r => match r.desc with
    | .struct fs => match fs[f]? with
      | some fd => match T.lookup fd.type with
        | some rf => match partV rf cs fd.offset with
          | some z => some (True, [], { v := z })
          | none => none
        | none => none
      | none => none
    | _ => none
  | _, _ => none

def primToArray (T : Tab) (t : TypeId) (vs : List AV) : PrimR :=
  match vs, T.lookup t with
  | [u], some r => match r.desc with
    | .array n e => match T.lookup e with
      | some re => match arrAV n re.size u with
        | some (p, z) => some (p, [], { v := z })
        | none => none
      | none => none
    | _ => none
  | _, _ => none

def primMakeSlice (T : Tab) (t : TypeId) (d : Option Nat) (vs : List AV) : PrimR :=
  match vs, T.lookup t, d with
  | [.pv (.lit (.int _ len)), .pv (.lit (.int _ cap))], some r, some d => match r.desc with
    | .slice e => match T.lookup e with
      | some re => some (0 ≤ len ∧ len ≤ cap ∧ cap ≤ 140737488355328 ∧ re.bytes * cap ≤ 140737488355328, [], { v := .sl d 0 len.toNat re.size (decide (len = cap)), new := [(d, .cells (zeroAV re.zero.cells (cap.toNat * re.size)))] })
      | none => none
    | _ => none
  | _, _, _ => none

/-- What an operation does: what must hold, which blocks it looks at, and what comes of it. -/
def prim (T : Tab) (o : Oper) (vs : List AV) (H : Nat → Option Blk) : PrimR :=
  match o.op with
  | .move _ | .assign _ => match vs with | [v] => some (True, [], { v := v }) | _ => none
  | .pick _ _ _ => match vs with | [.pv (.lit (.bool b)), x, y] => some (True, [], { v := pickAV b x y }) | _ => none
  | .alloc t => primAlloc T t o.dst vs
  | .box _ _ => primBox o.dst vs
  | .build t parts => primBuild T t parts.toList vs
  | .buildSlice t n parts => primBuildSlice T t n parts.toList o.dst vs
  | .load t _ => primLoad T t vs H
  | .store t _ _ => primStore T t o.dst vs H
  | .nilCheck _ => match vs with | [u] => if liveAV u then some (True, [], { v := u }) else none | _ => none
  | .binOp op t _ _ _ => primBin T op t vs
  | .index t _ _ => match vs, T.lookup t with
    | [u, .pv (.lit (.int _ i))], some r => match idxAV T r.desc u i with | some (p, z) => some (p, [], { v := z }) | none => none
    | _, _ => none
  | .field t _ f => primField T t f vs
  | .sliceToArrayPointer t _ => primToArray T t vs
  | .makeSlice t _ _ => primMakeSlice T t o.dst vs
  | .unOp op _ _ => match vs with | [u] => (match unAV op u with | some z => some (True, [], { v := z }) | none => none) | _ => none
  | .convert src dst _ => primConv T src dst vs
  | .fieldAddr s _ f => match vs, T.lookup s with
    | [u], some r => match fieldOf T r.desc f with
      | some (off, len, _) => match partAV u off len with | some z => some (True, [], { v := z }) | none => none
      | none => none
    | _, _ => none
  | .indexAddr t _ _ => match vs, T.lookup t with
    | [u, .pv (.lit (.int _ i))], some r => match elemAV T r.desc u i with | some (p, z) => some (p, [], { v := z }) | none => none
    | _, _ => none
  | .slice t _ lo hi mx => primSlice T t lo hi mx vs H
  | .extract _ i => match vs with | [.tup us] => (match us[i]? with | some z => some (True, [], { v := z }) | none => none) | _ => none
  | .makeFunc (.func f) first _ => if first.size = 0 then some (True, [], { v := .fn f [] vs }) else none
  | .call c => match c.callee with
    | .builtin b => primBuiltin T b c.argTypes.toList vs
    | _ => none
  | _ => none

section sound
variable {E : Env} {T : Tab}

theorem does_len (hT : TabOk E.P T) {o : Oper} {c : Call} (ho : o.op = .call c) (hc : c.callee = .builtin .len) (hd : ∀ d, o.dst = some d → d < E.n) {vs : List AV} {p : Prop} {hs : List (Nat × Blk)} {δ : Delta} (h : primBuiltin T .len c.argTypes.toList vs = some (p, hs, δ)) : Does E o vs hs δ ∧ ∃ n, hs = [] ∧ δ = { v := .pv (.lit (.int .i64 n)) } := by
  unfold primBuiltin at h
  split at h
  · rename_i t u hb hts
    split at h
    · rename_i r hr
      have key : ∀ n, δ = { v := .pv (.lit (.int .i64 n)) } → hs = [] → (∀ ι imm st (a : Act) w, SR E ι imm st a w → VHs ι imm w [u] (o.op.operands.toList.map a.eval) → ∃ x, c.args.toList.map a.eval = [x] ∧ (Builtin.len_ #[t] o.type #[x]).run E.P w = .ok (.int .i64 n) w) → Does E o [u] hs δ ∧ ∃ n, hs = [] ∧ δ = { v := .pv (.lit (.int .i64 n)) } := by
        intro n e1 e2 hh
        subst e1; subst e2
        refine ⟨Does.value hd fun ι imm st a w hs hv _ => ?_, n, rfl, rfl⟩
        obtain ⟨x, hx, hrun⟩ := hh ι imm st a w hs hv
        refine ⟨.int .i64 n, ?_, by simp [VH, PH, flatB]⟩
        have h1 : c.args.map a.eval = #[x] := by apply Array.ext'; simpa using hx
        have h2 : c.argTypes = #[t] := by apply Array.ext'; simpa using hts
        simp only [execOp, ho, resolve, hc, run_bind', run_pure', invoke, builtin, h1, h2, hrun]
      have one_arg : ∀ (a : Act) (ι : Nat → Option (Nat × Nat)) (imm : Nat → Prop) (w : World), VHs ι imm w [u] (o.op.operands.toList.map a.eval) → ∃ x, c.args.toList.map a.eval = [x] ∧ VH ι imm w u x := by
        intro a ι imm w hv
        have hops : o.op.operands.toList = c.args.toList := by rw [ho]; simp [Op.operands, Call.operands, hc]
        rw [hops] at hv
        obtain ⟨x, us, he, h1, h2⟩ := hv
        simp only [VHs] at h2
        subst h2
        exact ⟨x, he, h1⟩
      have hu := run_underlying hT hr (P := E.P)
      split at h
      all_goals first | (cases h; done) | skip
      all_goals (simp only [Option.some.injEq, Prod.mk.injEq] at h; obtain ⟨rfl, rfl, rfl⟩ := h)
      all_goals rename_i hdesc
      all_goals refine key _ rfl rfl fun ι imm st a w hs hv => ?_
      all_goals obtain ⟨x, hx, hv⟩ := one_arg a ι imm w hv
      all_goals refine ⟨x, hx, ?_⟩
      · simp only [VH, PH] at hv
        obtain ⟨A, cap, rfl, _⟩ := hv
        simp [Builtin.len_, hu, hdesc, goInt]
      · simp only [VH] at hv
        obtain ⟨A, rfl, _⟩ := hv
        simp [Builtin.len_, hu, hdesc, goInt]
      · simp only [VH] at hv
        obtain ⟨r, z, cap, _, rfl, _⟩ := hv
        simp [Builtin.len_, hu, hdesc, goInt]
      · simp only [VH, PH] at hv
        obtain ⟨rfl, _⟩ := hv
        simp [Builtin.len_, hu, hdesc, goInt]
    · cases h
  · cases h

theorem does_makeFunc {o : Oper} {f : FuncId} {first caps : Array Operand} (ho : o.op = .makeFunc (.func f) first caps) (h0 : first.size = 0) (hd : ∀ d, o.dst = some d → d < E.n) {vs : List AV} : Does E o vs [] { v := .fn f [] vs } := by
  refine Does.value hd fun ι imm st a w hs hv _ => ?_
  have hf : first = #[] := Array.eq_empty_of_size_eq_zero h0
  subst hf
  rw [ho] at hv
  simp only [Op.operands, Array.empty_append] at hv
  refine ⟨.func (.func f) #[] (caps.map a.eval), by simp only [execOp, ho, Instr.makeFunc, run_bind', run_pure', Array.map_empty], ⟨[], caps.toList.map a.eval, ?_, rfl, hv⟩⟩
  congr 1
  apply Array.ext'; simp

theorem PV.isNe_spec {ps : List PV} (h : PV.isNe ps = true) : ps ≠ [] := by
  intro e; subst e; cases h

/-- What comes of an operation names nothing but what its operands and the blocks that it looks at name. -/
def InRefs (vs : List AV) (hs : List (Nat × Blk)) (δ : Delta) : Prop :=
  ∀ U : Nat → Bool, AV.withinL U vs = true → (∀ x ∈ hs, x.2.within U = true) → (∀ x ∈ δ.new, U x.1 = true) → δ.v.within U = true ∧ (∀ x ∈ δ.new, x.2.within U = true) ∧ (∀ x ∈ δ.wr, U x.1 = true ∧ ∀ k, x.2 = some k → k.within U = true)

theorem within_consts (U : Nat → Bool) (l : List Value) : AV.withinL U (l.map constCell) = true :=
  AV.withinL_of fun x hx => by
    obtain ⟨v, _, rfl⟩ := List.mem_map.1 hx
    unfold constCell; split <;> rfl
theorem within_cellsOf {U : Nat → Bool} {u : AV} {cs : List AV} (h : cellsOf u = some cs) (hu : u.within U = true) : AV.withinL U cs = true := by
  cases u <;> simp only [cellsOf, Option.some.injEq, reduceCtorEq] at h <;> subst h
  all_goals first
    | exact hu
    | (simp only [AV.withinL, Bool.and_eq_true]; exact ⟨hu, trivial⟩)
theorem within_sub {U : Nat → Bool} {xs ys : List AV} (h : AV.withinL U ys = true) (hs : ∀ x ∈ xs, x ∈ ys) : AV.withinL U xs = true :=
  AV.withinL_of fun x hx => AV.withinL_mem h x (hs x hx)
theorem within_setRange {U : Nat → Bool} {cs xs : List AV} {k : Nat} (h1 : AV.withinL U cs = true) (h2 : AV.withinL U xs = true) : AV.withinL U (setRange cs k xs) = true := by
  refine AV.withinL_of fun x hx => ?_
  simp only [setRange, List.mem_append] at hx
  rcases hx with (hx | hx) | hx
  · exact AV.withinL_mem h1 x (List.mem_of_mem_take hx)
  · exact AV.withinL_mem h2 x hx
  · exact AV.withinL_mem h1 x (List.mem_of_mem_drop hx)
theorem within_fill {U : Nat → Bool} {pl : Nat → Option (Nat × Nat)} : ∀ {ps : List (Nat × AV)} {cs zs : List AV}, fillAV pl cs ps = some zs → AV.withinL U cs = true → (∀ x ∈ ps, x.2.within U = true) → AV.withinL U zs = true
  | [], cs, zs, h, h1, _ => by simp only [fillAV, Option.some.injEq] at h; subst h; exact h1
  | (i, x) :: ps, cs, zs, h, h1, h2 => by
    simp only [fillAV] at h
    split at h
    · rename_i off size xs _ hx
      split at h
      · exact within_fill h (within_setRange h1 (within_cellsOf hx (h2 _ (List.mem_cons_self ..)))) fun y hy => h2 y (List.mem_cons_of_mem _ hy)
      · cases h
    · cases h
theorem within_zip {U : Nat → Bool} : ∀ {parts : List (Nat × Operand)} {vs : List AV}, AV.withinL U vs = true → ∀ x ∈ parts.zipWith (fun p u => (p.1, u)) vs, x.2.within U = true
  | [], vs, _, x, hx => by simp at hx
  | p :: ps, [], _, x, hx => by simp at hx
  | p :: ps, v :: vs, h, x, hx => by
    simp only [AV.withinL, Bool.and_eq_true] at h
    simp only [List.zipWith_cons_cons, List.mem_cons] at hx
    rcases hx with rfl | hx
    · exact h.1
    · exact within_zip h.2 x hx
theorem within_read {U : Nat → Bool} {r : TyRow} {cs : List AV} {z : AV} (h : readAV r cs = some z) (hc : AV.withinL U cs = true) : z.within U = true := by
  unfold readAV at h
  split at h
  · split at h
    · simp only [Option.some.injEq] at h; subst h
      exact within_sub hc fun x hx => List.mem_of_mem_take hx
    · cases h
  · cases cs with
    | nil => cases h
    | cons y ys => simp only [List.head?_cons, Option.some.injEq] at h; subst h; exact AV.withinL_mem hc _ (List.mem_cons_self ..)
theorem within_pvs (U : Nat → Bool) (ps : List PV) : AV.withinL U (ps.map .pv) = true := AV.withinL_of fun x hx => by
  obtain ⟨p, _, rfl⟩ := List.mem_map.1 hx; rfl
theorem within_bin {U : Nat → Bool} {op : BinOp} {d : TypeDesc} {x y z : AV} {p : Prop} (h : binAV op d x y = some (p, z)) : z.within U = true := by
  have hi : ∀ {op k a b}, intAV op k a b = some (p, z) → z.within U = true := fun {op k a b} h => by
    cases op <;> simp only [intAV, Option.some.injEq, Prod.mk.injEq, reduceCtorEq] at h
    all_goals (obtain ⟨_, rfl⟩ := h; rfl)
  have hst : ∀ {op a b}, strAV op a b = some (p, z) → z.within U = true := fun {op a b} h => by
    cases op <;> simp only [strAV, Option.some.injEq, Prod.mk.injEq, reduceCtorEq] at h
    all_goals (obtain ⟨_, rfl⟩ := h; rfl)
  unfold binAV at h
  split at h
  · simp only [Option.some.injEq, Prod.mk.injEq] at h; obtain ⟨_, rfl⟩ := h; rfl
  · simp only [Option.some.injEq, Prod.mk.injEq] at h; obtain ⟨_, rfl⟩ := h; rfl
  · split at h
    · exact hi h
    · cases h
  · exact hst h
  · split at h
    · simp only [Option.some.injEq, Prod.mk.injEq] at h; obtain ⟨_, rfl⟩ := h; rfl
    · cases h
  · split at h
    · simp only [Option.some.injEq, Prod.mk.injEq] at h; obtain ⟨_, rfl⟩ := h; rfl
    · cases h
  · cases h
theorem within_eqAgg {U : Nat → Bool} {op : BinOp} {r : TyRow} {x y z : AV} (h : eqAgg T op r x y = some z) : z.within U = true := by
  unfold eqAgg at h
  repeat' split at h
  all_goals first | (cases h; done) | (simp only [Option.some.injEq] at h; subst h; rfl)
theorem within_eqNil {U : Nat → Bool} {op : BinOp} {d : TypeDesc} {x y z : AV} (h : eqNil op d x y = some z) : z.within U = true := by
  unfold eqNil opB at h
  repeat' split at h
  all_goals first | (cases h; done) | (simp only [Option.some.injEq] at h; subst h; rfl)
theorem within_partV {U : Nat → Bool} {r : TyRow} {cs : List AV} {off : Nat} {z : AV} (h : partV r cs off = some z) (hc : AV.withinL U cs = true) : z.within U = true := by
  unfold partV at h
  split at h
  · split at h
    · simp only [Option.some.injEq] at h; subst h
      exact within_sub hc fun x hx => List.mem_of_mem_drop (List.mem_of_mem_take hx)
    · cases h
  · have : AV.withinL U (cs.drop off) = true := within_sub hc fun x hx => List.mem_of_mem_drop hx
    cases hd : cs.drop off with
    | nil => rw [hd] at h; cases h
    | cons y ys => rw [hd] at h this; simp only [List.head?_cons, Option.some.injEq] at h; subst h; exact AV.withinL_mem this _ (List.mem_cons_self ..)
theorem within_idx {U : Nat → Bool} {d : TypeDesc} {x z : AV} {i : Int} {p : Prop} (h : idxAV T d x i = some (p, z)) (hx : x.within U = true) : z.within U = true := by
  unfold idxAV at h
  split at h
  · split at h
    · split at h
      · rename_i z' hz
        simp only [Option.some.injEq, Prod.mk.injEq] at h; obtain ⟨_, rfl⟩ := h; exact within_partV hz hx
      · cases h
    · cases h
  · simp only [Option.some.injEq, Prod.mk.injEq] at h; obtain ⟨_, rfl⟩ := h; rfl
  · cases h
theorem within_un {U : Nat → Bool} {op : UnOp} {x z : AV} (h : unAV op x = some z) : z.within U = true := by
  unfold unAV at h
  split at h <;> first | (cases h; done) | (simp only [Option.some.injEq] at h; subst h; rfl)
theorem within_pick {U : Nat → Bool} {b : Bool} {x y : AV} (hx : x.within U = true) (hy : y.within U = true) : (pickAV b x y).within U = true := by
  unfold pickAV
  split
  · rfl
  · split
    · rfl
    · cases b <;> rfl
  · cases b
    · exact hy
    · exact hx
theorem within_part {U : Nat → Bool} {x z : AV} {o l : Nat} (h : partAV x o l = some z) (hx : x.within U = true) : z.within U = true := by
  cases x <;> simp only [partAV, Option.some.injEq, reduceCtorEq] at h <;> subst h
  · exact hx
  · rfl
theorem within_elem {U : Nat → Bool} {d : TypeDesc} {x z : AV} {i : Int} {p : Prop} (h : elemAV T d x i = some (p, z)) (hx : x.within U = true) : z.within U = true := by
  unfold elemAV at h
  split at h
  · split at h
    · split at h
      · simp only [Option.some.injEq, Prod.mk.injEq] at h; obtain ⟨_, rfl⟩ := h; exact hx
      · simp only [Option.some.injEq, Prod.mk.injEq] at h; obtain ⟨_, rfl⟩ := h; rfl
      · cases h
    · cases h
  · split at h
    · split at h
      · simp only [Option.some.injEq, Prod.mk.injEq] at h; obtain ⟨_, rfl⟩ := h; rfl
      · simp only [Option.some.injEq, Prod.mk.injEq] at h; obtain ⟨_, rfl⟩ := h; rfl
      · split at h
        · simp only [Option.some.injEq, Prod.mk.injEq] at h; obtain ⟨_, rfl⟩ := h; exact hx
        · cases h
      · cases h
    · cases h
  · cases h
theorem within_slice {U : Nat → Bool} {d : TypeDesc} {H : Nat → Option Blk} {x z : AV} {lo hi mx : Option Int} {p : Prop} {hs : List (Nat × Blk)} (h : sliceAV T d H x lo hi mx = some (p, hs, z)) (hx : x.within U = true) : z.within U = true := by
  unfold sliceAV at h
  repeat' split at h
  all_goals first | (cases h; done) | (simp only [Option.some.injEq, Prod.mk.injEq] at h; obtain ⟨_, _, rfl⟩ := h; first | exact hx | rfl)
theorem slice_deps {d : TypeDesc} {H : Nat → Option Blk} {x z : AV} {lo hi mx : Option Int} {p : Prop} {hs : List (Nat × Blk)} (h : sliceAV T d H x lo hi mx = some (p, hs, z)) : hs = [] ∨ ∃ b o cs, x = .ptr b o ∧ H b = some (.cells cs) ∧ hs = [(b, .cells cs)] := by
  unfold sliceAV at h
  repeat' split at h
  all_goals first | (cases h; done) | skip
  all_goals (simp only [Option.some.injEq, Prod.mk.injEq] at h; obtain ⟨_, rfl, _⟩ := h)
  all_goals first | exact .inl rfl | exact .inr ⟨_, _, _, rfl, by assumption, rfl⟩

/-- The class of an operation; calls of Go's own functions as told. -/
def clsOf0 (cq : Oper → Cls) (o : Oper) : Cls :=
  match o.op with
  | .move _ | .assign _ | .pick _ _ _ | .build _ _ | .nilCheck _ | .binOp _ _ _ _ _ | .unOp _ _ _ | .convert _ _ _ | .fieldAddr _ _ _ | .indexAddr _ _ _ | .extract _ _ | .makeFunc _ _ _ | .index _ _ _ | .field _ _ _ | .sliceToArrayPointer _ _ => .pure
  | .alloc _ | .box _ _ | .buildSlice _ _ _ | .load _ _ | .slice _ _ _ _ _ | .makeSlice _ _ _ => .quiet
  | .call c => match c.callee with
    | .builtin .len => .pure
    | .builtin _ => .writer
    | _ => cq o
  | _ => .writer
def clsOf (cq : Oper → Cls) (o : Oper) : Cls :=
  match cq o with
  | .reads bs => .reads bs
  | .writes bs => .writes bs
  | _ => clsOf0 cq o
theorem clsOf_pure {cq : Oper → Cls} {o : Oper} (h : clsOf cq o = .pure) : clsOf0 cq o = .pure := by
  unfold clsOf at h; split at h <;> first | (cases h; done) | exact h
theorem clsOf_quiet {cq : Oper → Cls} {o : Oper} (h : clsOf cq o = .quiet) : clsOf0 cq o = .quiet := by
  unfold clsOf at h; split at h <;> first | (cases h; done) | exact h

structure PrimOk (E : Env) (T : Tab) (cq : Oper → Cls) (o : Oper) (vs : List AV) (H : Nat → Option Blk) (hs : List (Nat × Blk)) (δ : Delta) : Prop where
  does : Does E o vs hs δ
  deps : ∀ x ∈ hs, H x.1 = some x.2
  reach : reachB vs [] hs = true
  inr : InRefs vs hs δ
  pure : clsOf0 cq o = .pure → hs = [] ∧ δ.new = [] ∧ δ.wr = []
  quiet : clsOf0 cq o = .quiet → δ.wr = []

theorem PrimOk.value {cq : Oper → Cls} {o : Oper} {vs : List AV} {H : Nat → Option Blk} {z : AV} (hd : Does E o vs [] { v := z }) (hz : ∀ U, AV.withinL U vs = true → z.within U = true) : PrimOk E T cq o vs H [] { v := z } :=
  ⟨hd, fun _ h => (by cases h), rfl, fun U h1 _ _ => ⟨hz U h1, fun _ h => (by cases h), fun _ h => (by cases h)⟩, fun _ => ⟨rfl, rfl, rfl⟩, fun _ => rfl⟩

theorem reach_ptr {b : Nat} {u : AV} {vs : List AV} {k : Blk} (hu : ∀ U : Nat → Bool, u.within U = U b ∨ (u.within U = true → U b = true)) : reachB (u :: vs) [] [(b, k)] = true := by
  have : u.within (· != b) = false := by
    rcases hu (· != b) with h | h
    · rw [h]; simp
    · cases hw : u.within (· != b) with
      | false => rfl
      | true => have := h hw; simp at this
  simp [reachB, refs, AV.withinL, this]

theorem prim_ok (hT : TabOk E.P T) (cq : Oper → Cls) {o : Oper} {vs : List AV} {H : Nat → Option Blk} {p : Prop} {hs : List (Nat × Blk)} {δ : Delta} (hd : ∀ d, o.dst = some d → d < E.n) (h : prim T o vs H = some (p, hs, δ)) (hp : p) : PrimOk E T cq o vs H hs δ := by
  unfold prim at h
  split at h
  · rename_i x ho
    split at h
    · simp only [Option.some.injEq, Prod.mk.injEq] at h
      obtain ⟨rfl, rfl, rfl⟩ := h
      exact .value (does_move (.inl ho) hd) fun U h => AV.withinL_mem h _ (List.mem_cons_self ..)
    · cases h
  · rename_i x ho
    split at h
    · simp only [Option.some.injEq, Prod.mk.injEq] at h
      obtain ⟨rfl, rfl, rfl⟩ := h
      exact .value (does_move (.inr ho) hd) fun U h => AV.withinL_mem h _ (List.mem_cons_self ..)
    · cases h
  · rename_i c x y ho
    split at h
    · simp only [Option.some.injEq, Prod.mk.injEq] at h
      obtain ⟨rfl, rfl, rfl⟩ := h
      exact .value (does_pick ho hd) fun U h => within_pick (AV.withinL_mem h _ (by simp)) (AV.withinL_mem h _ (by simp))
    · cases h
  · rename_i t ho
    unfold primAlloc at h
    split at h
    · rename_i r d hr hdst
      simp only [Option.some.injEq, Prod.mk.injEq] at h
      obtain ⟨rfl, rfl, rfl⟩ := h
      refine ⟨does_alloc hT ho hdst (hd d hdst) hr, fun _ h => (by cases h), rfl, fun U _ _ h3 => ⟨?_, fun x hx => ?_, fun _ h => (by cases h)⟩, fun hc => by simp [clsOf0, ho] at hc, fun _ => rfl⟩
      · exact h3 _ (List.mem_cons_self ..)
      · simp only [List.mem_singleton] at hx; subst hx; exact within_consts U _
    · cases h
  · rename_i t x ho
    unfold primBox at h
    split at h
    · rename_i d u hdst
      split at h
      · rename_i cs hcs
        simp only [Option.some.injEq, Prod.mk.injEq] at h
        obtain ⟨rfl, rfl, rfl⟩ := h
        refine ⟨does_box ho hdst (hd d hdst) hcs, fun _ h => (by cases h), rfl, fun U h1 _ h3 => ⟨h3 _ (List.mem_cons_self ..), fun x hx => ?_, fun _ h => (by cases h)⟩, fun hc => by simp [clsOf0, ho] at hc, fun _ => rfl⟩
        simp only [List.mem_singleton] at hx; subst hx
        exact within_cellsOf hcs (AV.withinL_mem h1 _ (List.mem_cons_self ..))
      · cases h
    · cases h
  · rename_i t parts ho
    unfold primBuild at h
    split at h
    · cases h
    · rename_i r hr
      split at h
      · cases h
      · rename_i pl hpl
        split at h
        · rename_i zs hz
          simp only [Option.some.injEq, Prod.mk.injEq] at h
          obtain ⟨rfl, rfl, rfl⟩ := h
          exact .value (does_build hT ho hd hr hpl hz) fun U h => within_fill hz (within_consts U _) (within_zip h)
        · cases h
  · rename_i t n parts ho
    unfold primBuildSlice at h
    split at h
    · rename_i r d hr hdst
      split at h
      · rename_i e hdesc
        split at h
        · rename_i re hre
          split at h
          · rename_i zs hz
            split at h
            · rename_i hc
              simp only [Option.some.injEq, Prod.mk.injEq] at h
              obtain ⟨rfl, rfl, rfl⟩ := h
              refine ⟨does_buildSlice hT ho hdst (hd d hdst) hr hdesc hre hc.1 hz hc.2, fun _ h => (by cases h), rfl, fun U h1 _ h3 => ⟨h3 _ (List.mem_cons_self ..), fun x hx => ?_, fun _ h => (by cases h)⟩, fun hc => by simp [clsOf0, ho] at hc, fun _ => rfl⟩
              simp only [List.mem_singleton] at hx; subst hx
              refine within_fill hz ?_ (within_zip h1)
              refine AV.withinL_of fun x hx => ?_
              simp only [zeroAV, List.mem_map] at hx
              obtain ⟨i, _, rfl⟩ := hx
              unfold constCell; split <;> rfl
            · cases h
          · cases h
        · cases h
      · cases h
    · cases h
  · rename_i t x ho
    unfold primLoad at h
    split at h
    · cases h
    · rename_i r hr
      split at h
      · rename_i b k
        split at h
        · rename_i cs hcs
          split at h
          · rename_i z hz
            simp only [Option.some.injEq, Prod.mk.injEq] at h
            obtain ⟨rfl, rfl, rfl⟩ := h
            refine ⟨does_loadOwn hT ho hd hr hz, fun x hx => ?_, reach_ptr fun U => .inl rfl, fun U _ h2 _ => ⟨?_, fun _ h => (by cases h), fun _ h => (by cases h)⟩, fun hc => by simp [clsOf0, ho] at hc, fun _ => rfl⟩
            · simp only [List.mem_singleton] at hx; subst hx; exact hcs
            · exact within_read hz (within_sub (h2 _ (List.mem_cons_self ..)) fun x hx => List.mem_of_mem_drop hx)
          · cases h
        · cases h
      · split at h
        · rename_i hne
          split at h
          · rename_i z hz
            simp only [Option.some.injEq, Prod.mk.injEq] at h
            obtain ⟨rfl, rfl, rfl⟩ := h
            exact .value (does_loadImm hT ho hd hr hz (PV.isNe_spec hne)) fun U _ => within_read hz (within_pvs U _)
          · cases h
        · cases h
      · cases h
  · rename_i t x y ho
    unfold primStore at h
    split at h
    · rename_i r hr hdst
      split at h
      · rename_i b k u
        split at h
        · rename_i cs xs hcs hxs
          split at h
          · rename_i hc
            simp only [Option.some.injEq, Prod.mk.injEq] at h
            obtain ⟨rfl, rfl, rfl⟩ := h
            refine ⟨does_store hT ho hdst hr hxs hc.1 hc.2.1 hc.2.2, fun x hx => ?_, reach_ptr fun U => .inl rfl, fun U h1 h2 _ => ⟨rfl, fun _ h => (by cases h), fun x hx => ?_⟩, fun hc => by simp [clsOf0, ho] at hc, fun hc => by simp [clsOf0, ho] at hc⟩
            · simp only [List.mem_singleton] at hx; subst hx; exact hcs
            · simp only [List.mem_singleton] at hx; subst hx
              refine ⟨AV.withinL_mem h1 _ (List.mem_cons_self ..), fun k hk => ?_⟩
              simp only [Option.some.injEq] at hk; subst hk
              exact within_setRange (h2 _ (List.mem_cons_self ..)) (within_cellsOf hxs (AV.withinL_mem h1 _ (by simp)))
          · cases h
        · cases h
      · cases h
    · cases h
  · rename_i x ho
    split at h
    · split at h
      · rename_i hl
        simp only [Option.some.injEq, Prod.mk.injEq] at h
        obtain ⟨rfl, rfl, rfl⟩ := h
        exact .value (does_nilCheck ho hd hl) fun U h => AV.withinL_mem h _ (List.mem_cons_self ..)
      · cases h
    · cases h
  · rename_i op t x y yt ho
    unfold primBin at h
    split at h
    · rename_i u v r hr
      split at h
      · rename_i p' z hz
        simp only [Option.some.injEq, Prod.mk.injEq] at h
        obtain ⟨rfl, rfl, rfl⟩ := h
        exact .value (does_binOp hT ho hd hr hz hp) fun U _ => within_bin hz
      · split at h
        · rename_i z hz
          simp only [Option.some.injEq, Prod.mk.injEq] at h
          obtain ⟨rfl, rfl, rfl⟩ := h
          exact .value (does_eqAgg hT ho hd hr hz) fun U _ => within_eqAgg hz
        · split at h
          · rename_i z hz
            simp only [Option.some.injEq, Prod.mk.injEq] at h
            obtain ⟨rfl, rfl, rfl⟩ := h
            exact .value (does_eqNil hT ho hd hr hz) fun U _ => within_eqNil hz
          · cases h
    · cases h
  · rename_i t x y ho
    split at h
    · rename_i u k i r hr
      split at h
      · rename_i p' z hz
        simp only [Option.some.injEq, Prod.mk.injEq] at h
        obtain ⟨rfl, rfl, rfl⟩ := h
        exact .value (does_index hT ho hd hr hz hp) fun U h => within_idx hz (AV.withinL_mem h _ (List.mem_cons_self ..))
      · cases h
    · cases h
  · rename_i t x f ho
    unfold primField at h
    split at h
    · rename_i cs r hr
      split at h
      · rename_i fs hdesc
        split at h
        · rename_i fd hf
          split at h
          · rename_i rf hrf
            split at h
            · rename_i z hz
              simp only [Option.some.injEq, Prod.mk.injEq] at h
              obtain ⟨rfl, rfl, rfl⟩ := h
              exact .value (does_field hT ho hd hr hdesc hf hrf hz) fun U h => within_partV hz (AV.withinL_mem h _ (List.mem_cons_self ..))
            · cases h
          · cases h
        · cases h
      · cases h
    · cases h
  · rename_i t x ho
    unfold primToArray at h
    split at h
    · rename_i u r hr
      split at h
      · rename_i n e hdesc
        split at h
        · rename_i re hre
          split at h
          · rename_i p' z hz
            simp only [Option.some.injEq, Prod.mk.injEq] at h
            obtain ⟨rfl, rfl, rfl⟩ := h
            refine .value (does_toArray hT ho hd hr hdesc hz hp) fun U h => ?_
            have := AV.withinL_mem h _ (List.mem_cons_self ..)
            unfold arrAV at hz
            split at hz
            · simp only [Option.some.injEq, Prod.mk.injEq] at hz; obtain ⟨_, rfl⟩ := hz; rfl
            · simp only [Option.some.injEq, Prod.mk.injEq] at hz; obtain ⟨_, rfl⟩ := hz; rfl
            · split at hz
              · simp only [Option.some.injEq, Prod.mk.injEq] at hz; obtain ⟨_, rfl⟩ := hz; exact this
              · cases hz
            · cases hz
          · cases h
        · cases h
      · cases h
    · cases h
  · rename_i t x y ho
    unfold primMakeSlice at h
    split at h
    · rename_i k len k' cap r d hr hdst
      split at h
      · rename_i e hdesc
        split at h
        · rename_i re hre
          simp only [Option.some.injEq, Prod.mk.injEq] at h
          obtain ⟨rfl, rfl, rfl⟩ := h
          refine ⟨does_makeSlice hT ho hdst (hd d hdst) hr hdesc hre hp.1 hp.2.1 hp.2.2.1 hp.2.2.2, fun _ h => (by cases h), rfl, fun U h1 _ h3 => ⟨h3 _ (List.mem_cons_self ..), fun x hx => ?_, fun _ h => (by cases h)⟩, fun hc => by simp [clsOf0, ho] at hc, fun _ => rfl⟩
          simp only [List.mem_singleton] at hx; subst hx
          refine AV.withinL_of fun x hx => ?_
          simp only [zeroAV, List.mem_map] at hx
          obtain ⟨i, _, rfl⟩ := hx
          unfold constCell; split <;> rfl
        · cases h
      · cases h
    · cases h
  · rename_i op t x ho
    split at h
    · split at h
      · rename_i z hz
        simp only [Option.some.injEq, Prod.mk.injEq] at h
        obtain ⟨rfl, rfl, rfl⟩ := h
        exact .value (does_unOp ho hd hz) fun U _ => within_un hz
      · cases h
    · cases h
  · rename_i src dst x ho
    unfold primConv at h
    split at h
    · rename_i rs rd hrs hrd
      split at h
      · split at h
        · rename_i k' hk
          simp only [Option.some.injEq, Prod.mk.injEq] at h
          obtain ⟨rfl, rfl, rfl⟩ := h
          exact .value (does_convInt hT ho hd hrs hrd hk) fun U _ => rfl
        · cases h
      · split at h
        · rename_i hk
          simp only [Option.some.injEq, Prod.mk.injEq] at h
          obtain ⟨rfl, rfl, rfl⟩ := h
          exact .value (does_convStr hT ho hd hrs hrd hk) fun U _ => rfl
        · cases h
      · cases h
    · cases h
  · rename_i s x f ho
    split at h
    · rename_i u r hr
      split at h
      · rename_i off len rf hf
        split at h
        · rename_i z hz
          simp only [Option.some.injEq, Prod.mk.injEq] at h
          obtain ⟨rfl, rfl, rfl⟩ := h
          exact .value (does_fieldAddr hT ho hd hr hf hz) fun U h => within_part hz (AV.withinL_mem h _ (List.mem_cons_self ..))
        · cases h
      · cases h
    · cases h
  · rename_i t x y ho
    split at h
    · rename_i u k i r hr
      split at h
      · rename_i p' z hz
        simp only [Option.some.injEq, Prod.mk.injEq] at h
        obtain ⟨rfl, rfl, rfl⟩ := h
        exact .value (does_indexAddr hT ho hd hr hz hp) fun U h => within_elem hz (AV.withinL_mem h _ (List.mem_cons_self ..))
      · cases h
    · cases h
  · rename_i t x lo hi mx ho
    unfold primSlice at h
    split at h
    · rename_i r u vs' hr
      split at h
      · rename_i l v1 h1
        split at h
        · rename_i h' v2 h2
          split at h
          · rename_i m v3 h3
            split at h
            · rename_i p' hs' z hz
              simp only [Option.some.injEq, Prod.mk.injEq] at h
              obtain ⟨rfl, rfl, rfl⟩ := h
              refine ⟨does_slice hT ho hd hr h1 h2 h3 hz hp, fun x hx => ?_, ?_, fun U q1 _ _ => ⟨within_slice hz (AV.withinL_mem q1 _ (List.mem_cons_self ..)), fun _ h => (by cases h), fun _ h => (by cases h)⟩, fun hc => by simp [clsOf0, ho] at hc, fun _ => rfl⟩
              · rcases slice_deps hz with rfl | ⟨b, o', cs, rfl, hb, rfl⟩
                · cases hx
                · simp only [List.mem_singleton] at hx; subst hx; exact hb
              · rcases slice_deps hz with rfl | ⟨b, o', cs, rfl, hb, rfl⟩
                · rfl
                · exact reach_ptr fun U => .inl rfl
            · cases h
          · cases h
        · cases h
      · cases h
    · cases h
  · rename_i x i ho
    split at h
    · split at h
      · rename_i us z hz
        simp only [Option.some.injEq, Prod.mk.injEq] at h
        obtain ⟨rfl, rfl, rfl⟩ := h
        refine .value (does_extract ho hd hz) fun U h => ?_
        have := AV.withinL_mem h _ (List.mem_cons_self ..)
        exact AV.withinL_mem this _ (List.mem_of_getElem? hz)
      · cases h
    · cases h
  · rename_i f first caps ho
    split at h
    · rename_i h0
      simp only [Option.some.injEq, Prod.mk.injEq] at h
      obtain ⟨rfl, rfl, rfl⟩ := h
      refine .value (does_makeFunc ho h0 hd) fun U h => ?_
      simp only [AV.within, AV.withinL, Bool.true_and]; exact h
    · cases h
  · rename_i c ho
    split at h
    · rename_i b hb
      cases b
      case len =>
        obtain ⟨q1, n, rfl, rfl⟩ := does_len hT ho hb hd h
        exact .value q1 fun U _ => rfl
      all_goals (unfold primBuiltin at h; simp at h)
    · cases h
  · cases h
end sound
end Go.Am
