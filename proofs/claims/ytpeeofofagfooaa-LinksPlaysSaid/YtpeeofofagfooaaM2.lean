import Derived.Test.YtpeeofofagfooaaM1
import Derived.Deep.LoopGhost
import Derived.LoopN
import Derived.WalkKit
import Derived.ProofKit
import Derived.OpenShut
import Derived.ShutString
import Derived.ChangeOld
import Derived.Below
import Derived.SizedLaws
import Derived.Lib.Overlaps
import Derived.Lib.AppendZerosOnto
import Derived.MapKept
/- An abstract machine over the kit's calls, part 12: all operations in one function (prim), and that it tells the truth. No conditions. -/
namespace Go.Am
abbrev PrimR := Option (Prop × List (Nat × Blk) × Delta)
def PV.isNe : List PV → Bool
  | [] => false
  | _ :: _ => true
def primLoad (T : Tab) (t : TypeId) (vs : List AV) (H : Nat → Option Blk) : PrimR :=
  match T.lookup t with
  | none => none
  | some r => match vs with
    | [.ptr b k] => match H b with
      | some (.cells cs) => match readAV r (cs.drop k) with
        | some z => some (True, [(b, .cells cs)], { v := z })
        | none => none
      | _ => none
    | [.rp ps] => if PV.isNe ps then (match readAV r (ps.map .pv) with
        | some z => some (True, [], { v := z })
        | none => none) else none
    | _ => none
def primStore (T : Tab) (t : TypeId) (d : Option Nat) (vs : List AV) (H : Nat → Option Blk) : PrimR :=
  match T.lookup t, d with
  | some r, none => match vs with
    | [.ptr b k, u] => match H b, cellsOf u with
      | some (.cells cs), some xs => if xs.length = r.size ∧ k + xs.length ≤ cs.length ∧ xs.all flatCell = true then some (True, [(b, .cells cs)], { v := .undef, wr := [(b, some (.cells (setRange cs k xs)))] }) else none
      | _, _ => none
    | _ => none
  | _, _ => none
def primBox (d : Option Nat) (vs : List AV) : PrimR :=
  match d, vs with
  | some d, [u] => match cellsOf u with
    | some cs => some (True, [], { v := .ptr d 0, new := [(d, .cells cs)] })
    | none => none
  | _, _ => none
def primAlloc (T : Tab) (t : TypeId) (d : Option Nat) (vs : List AV) : PrimR :=
  match T.lookup t, d, vs with
  | some r, some d, [] => some (True, [], { v := .ptr d 0, new := [(d, .cells (r.zero.cells.toList.map constCell))] })
  | _, _, _ => none
def primBuild (T : Tab) (t : TypeId) (parts : List (Nat × Operand)) (vs : List AV) : PrimR :=
  match T.lookup t with
  | none => none
  | some r => match placesOf T r.desc with
    | none => none
    | some pl => match fillAV pl (r.zero.cells.toList.map constCell) (parts.zipWith (fun p u => (p.1, u)) vs) with
      | some zs => some (True, [], { v := .agg zs })
      | none => none
def primBuildSlice (T : Tab) (t : TypeId) (n : Nat) (parts : List (Nat × Operand)) (d : Option Nat) (vs : List AV) : PrimR :=
  match T.lookup t, d with
  | some r, some d => match r.desc with
    | .slice e => match T.lookup e with
      | some re => match fillAV (fun i => some (i * re.size, re.size)) (zeroAV re.zero.cells (n * re.size)) (parts.zipWith (fun p u => (p.1, u)) vs) with
        | some zs => if n * re.size ≤ 16777216 ∧ zs.length = n * re.size then some (True, [], { v := .sl d 0 n re.size true, new := [(d, .cells zs)] }) else none
        | none => none
      | none => none
    | _ => none
  | _, _ => none
def primConv (T : Tab) (src dst : TypeId) (vs : List AV) : PrimR :=
  match T.lookup src, T.lookup dst with
  | some _, some rd => match vs with
    | [.pv (.lit (.int _ n))] => match rd.desc with
      | .int k' => some (True, [], { v := .pv (.lit (.int k' (k'.wrap n))) })
      | _ => none
    | [.pv (.lit (.string s))] => match rd.desc with
      | .string => some (True, [], { v := .pv (.lit (.string s)) })
      | _ => none
    | _ => none
  | _, _ => none
def primSlice (T : Tab) (t : TypeId) (lo hi mx : Option Operand) (vs : List AV) (H : Nat → Option Blk) : PrimR :=
  match T.lookup t, vs with
  | some r, u :: vs => match optI vs lo with
    | some (l, v1) => match optI v1 hi with
      | some (h, v2) => match optI v2 mx with
        | some (m, _) => match sliceAV T r.desc H u l h m with
          | some (p, hs, z) => some (p, hs, { v := z })
          | none => none
        | none => none
      | none => none
    | none => none
  | _, _ => none
def lenAV : AV → Option AV
  | .pv (.sl _ n _) | .tsl n _ | .sl _ _ n _ _ => some (.pv (.lit (.int .i64 n)))
  | .pv (.lit (.string s)) => some (.pv (.lit (.int .i64 s.size)))
  | _ => none
def primBuiltin (T : Tab) (b : Builtin) (tys : List TypeId) (vs : List AV) : PrimR :=
  match b, tys, vs with
  | .len, [t], [u] => match T.lookup t with
    | some r => match r.desc, u with
      | .slice _, .pv (.sl _ n _) => some (True, [], { v := .pv (.lit (.int .i64 n)) })
      | .slice _, .tsl n _ => some (True, [], { v := .pv (.lit (.int .i64 n)) })
      | .slice _, .sl _ _ n _ _ => some (True, [], { v := .pv (.lit (.int .i64 n)) })
      | .string, .pv (.lit (.string s)) => some (True, [], { v := .pv (.lit (.int .i64 s.size)) })
      | _, _ => none
    | none => none
  | _, _, _ => none
def primBin (T : Tab) (op : BinOp) (t : TypeId) (vs : List AV) : PrimR :=
  match vs, T.lookup t with
  | [u, v], some r => match binAV op r.desc u v with
    | some (p, z) => some (p, [], { v := z })
    | none => match eqAgg T op r u v with
      | some z => some (True, [], { v := z })
      | none => match eqNil op r.desc u v with
        | some z => some (True, [], { v := z })
        | none => none
  | _, _ => none
def primField (T : Tab) (t : TypeId) (f : Nat) (vs : List AV) : PrimR :=
  match vs, T.lookup t with
  | [.agg cs], some r => match r.desc with
    | .struct fs => match fs[f]? with
      | some fd => match T.lookup fd.type with
        | some rf => match partV rf cs fd.offset with
          | some z => some (True, [], { v := z })
          | none => none
        | none => none
      | none => none
    | _ => none
  | _, _ => none
def primToArray (T : Tab) (t : TypeId) (vs : List AV) : PrimR :=
  match vs, T.lookup t with
  | [u], some r => match r.desc with
    | .array n e => match T.lookup e with
      | some re => match arrAV n re.size u with
        | some (p, z) => some (p, [], { v := z })
        | none => none
      | none => none
    | _ => none
  | _, _ => none
def primMakeSlice (T : Tab) (t : TypeId) (d : Option Nat) (vs : List AV) : PrimR :=
  match vs, T.lookup t, d with
  | [.pv (.lit (.int _ len)), .pv (.lit (.int _ cap))], some r, some d => match r.desc with
    | .slice e => match T.lookup e with
      | some re => some (0 ≤ len ∧ len ≤ cap ∧ cap ≤ 140737488355328 ∧ re.bytes * cap ≤ 140737488355328, [], { v := .sl d 0 len.toNat re.size (decide (len = cap)), new := [(d, .cells (zeroAV re.zero.cells (cap.toNat * re.size)))] })
      | none => none
    | _ => none
  | _, _, _ => none
/-- What an operation does: what must hold, which blocks it looks at, and what comes of it. -/
def prim (T : Tab) (o : Oper) (vs : List AV) (H : Nat → Option Blk) : PrimR :=
  match o.op with
  | .move _ | .assign _ => match vs with | [v] => some (True, [], { v := v }) | _ => none
  | .pick _ _ _ => match vs with | [.pv (.lit (.bool b)), x, y] => some (True, [], { v := pickAV b x y }) | _ => none
  | .alloc t => primAlloc T t o.dst vs
  | .box _ _ => primBox o.dst vs
  | .build t parts => primBuild T t parts.toList vs
  | .buildSlice t n parts => primBuildSlice T t n parts.toList o.dst vs
  | .load t _ => primLoad T t vs H
  | .store t _ _ => primStore T t o.dst vs H
  | .nilCheck _ => match vs with | [u] => if liveAV u then some (True, [], { v := u }) else none | _ => none
  | .binOp op t _ _ _ => primBin T op t vs
  | .index t _ _ => match vs, T.lookup t with
    | [u, .pv (.lit (.int _ i))], some r => match idxAV T r.desc u i with | some (p, z) => some (p, [], { v := z }) | none => none
    | _, _ => none
  | .field t _ f => primField T t f vs
  | .sliceToArrayPointer t _ => primToArray T t vs
  | .makeSlice t _ _ => primMakeSlice T t o.dst vs
  | .unOp op _ _ => match vs with | [u] => (match unAV op u with | some z => some (True, [], { v := z }) | none => none) | _ => none
  | .convert src dst _ => primConv T src dst vs
  | .fieldAddr s _ f => match vs, T.lookup s with
    | [u], some r => match fieldOf T r.desc f with
      | some (off, len, _) => match partAV u off len with | some z => some (True, [], { v := z }) | none => none
      | none => none
    | _, _ => none
  | .indexAddr t _ _ => match vs, T.lookup t with
    | [u, .pv (.lit (.int _ i))], some r => match elemAV T r.desc u i with | some (p, z) => some (p, [], { v := z }) | none => none
    | _, _ => none
  | .slice t _ lo hi mx => primSlice T t lo hi mx vs H
  | .extract _ i => match vs with | [.tup us] => (match us[i]? with | some z => some (True, [], { v := z }) | none => none) | _ => none
  | .makeFunc (.func f) first _ => if first.size = 0 then some (True, [], { v := .fn f [] vs }) else none
  | .call c => match c.callee with
    | .builtin b => primBuiltin T b c.argTypes.toList vs
    | _ => none
  | _ => none
section sound
variable {E : Env} {T : Tab}
theorem does_len (hT : TabOk E.P T) {o : Oper} {c : Call} (ho : o.op = .call c) (hc : c.callee = .builtin .len) (hd : ∀ d, o.dst = some d → d < E.n) {vs : List AV} {p : Prop} {hs : List (Nat × Blk)} {δ : Delta} (h : primBuiltin T .len c.argTypes.toList vs = some (p, hs, δ)) : Does E o vs hs δ ∧ ∃ n, hs = [] ∧ δ = { v := .pv (.lit (.int .i64 n)) } := by
  unfold primBuiltin at h
  split at h
  · rename_i t u hb hts
    split at h
    · rename_i r hr
      have key : ∀ n, δ = { v := .pv (.lit (.int .i64 n)) } → hs = [] → (∀ ι imm st (a : Act) w, SR E ι imm st a w → VHs ι imm w [u] (o.op.operands.toList.map a.eval) → ∃ x, c.args.toList.map a.eval = [x] ∧ (Builtin.len_ #[t] o.type #[x]).run E.P w = .ok (.int .i64 n) w) → Does E o [u] hs δ ∧ ∃ n, hs = [] ∧ δ = { v := .pv (.lit (.int .i64 n)) } := by
        intro n e1 e2 hh
        subst e1; subst e2
        refine ⟨Does.value hd fun ι imm st a w hs hv _ => ?_, n, rfl, rfl⟩
        obtain ⟨x, hx, hrun⟩ := hh ι imm st a w hs hv
        refine ⟨.int .i64 n, ?_, by simp [VH, PH, flatB]⟩
        have h1 : c.args.map a.eval = #[x] := by apply Array.ext'; simpa using hx
        have h2 : c.argTypes = #[t] := by apply Array.ext'; simpa using hts
        simp only [execOp, ho, resolve, hc, run_bind', run_pure', invoke, builtin, h1, h2, hrun]
      have one_arg : ∀ (a : Act) (ι : Nat → Option (Nat × Nat)) (imm : Nat → Prop) (w : World), VHs ι imm w [u] (o.op.operands.toList.map a.eval) → ∃ x, c.args.toList.map a.eval = [x] ∧ VH ι imm w u x := by
        intro a ι imm w hv
        have hops : o.op.operands.toList = c.args.toList := by rw [ho]; simp [Op.operands, Call.operands, hc]
        rw [hops] at hv
        obtain ⟨x, us, he, h1, h2⟩ := hv
        simp only [VHs] at h2
        subst h2
        exact ⟨x, he, h1⟩
      have hu := run_underlying hT hr (P := E.P)
      split at h
      all_goals first | (cases h; done) | skip
      all_goals (simp only [Option.some.injEq, Prod.mk.injEq] at h; obtain ⟨rfl, rfl, rfl⟩ := h)
      all_goals rename_i hdesc
      all_goals refine key _ rfl rfl fun ι imm st a w hs hv => ?_
      all_goals obtain ⟨x, hx, hv⟩ := one_arg a ι imm w hv
      all_goals refine ⟨x, hx, ?_⟩
      · simp only [VH, PH] at hv
        obtain ⟨A, cap, rfl, _⟩ := hv
        simp [Builtin.len_, hu, hdesc, goInt]
      · simp only [VH] at hv
        obtain ⟨A, rfl, _⟩ := hv
        simp [Builtin.len_, hu, hdesc, goInt]
      · simp only [VH] at hv
        obtain ⟨r, z, cap, _, rfl, _⟩ := hv
        simp [Builtin.len_, hu, hdesc, goInt]
      · simp only [VH, PH] at hv
        obtain ⟨rfl, _⟩ := hv
        simp [Builtin.len_, hu, hdesc, goInt]
    · cases h
  · cases h
theorem does_makeFunc {o : Oper} {f : FuncId} {first caps : Array Operand} (ho : o.op = .makeFunc (.func f) first caps) (h0 : first.size = 0) (hd : ∀ d, o.dst = some d → d < E.n) {vs : List AV} : Does E o vs [] { v := .fn f [] vs } := by
  refine Does.value hd fun ι imm st a w hs hv _ => ?_
  have hf : first = #[] := Array.eq_empty_of_size_eq_zero h0
  subst hf
  rw [ho] at hv
  simp only [Op.operands, Array.empty_append] at hv
  refine ⟨.func (.func f) #[] (caps.map a.eval), by simp only [execOp, ho, Instr.makeFunc, run_bind', run_pure', Array.map_empty], ⟨[], caps.toList.map a.eval, ?_, rfl, hv⟩⟩
  congr 1
  apply Array.ext'; simp
theorem PV.isNe_spec {ps : List PV} (h : PV.isNe ps = true) : ps ≠ [] := by
  intro e; subst e; cases h
/-- What comes of an operation names nothing but what its operands and the blocks that it looks at name. -/
def InRefs (vs : List AV) (hs : List (Nat × Blk)) (δ : Delta) : Prop :=
  ∀ U : Nat → Bool, AV.withinL U vs = true → (∀ x ∈ hs, x.2.within U = true) → (∀ x ∈ δ.new, U x.1 = true) → δ.v.within U = true ∧ (∀ x ∈ δ.new, x.2.within U = true) ∧ (∀ x ∈ δ.wr, U x.1 = true ∧ ∀ k, x.2 = some k → k.within U = true)
theorem within_consts (U : Nat → Bool) (l : List Value) : AV.withinL U (l.map constCell) = true :=
  AV.withinL_of fun x hx => by
    obtain ⟨v, _, rfl⟩ := List.mem_map.1 hx
    unfold constCell; split <;> rfl
theorem within_cellsOf {U : Nat → Bool} {u : AV} {cs : List AV} (h : cellsOf u = some cs) (hu : u.within U = true) : AV.withinL U cs = true := by
  cases u <;> simp only [cellsOf, Option.some.injEq, reduceCtorEq] at h <;> subst h
  all_goals first
    | exact hu
    | (simp only [AV.withinL, Bool.and_eq_true]; exact ⟨hu, trivial⟩)
theorem within_sub {U : Nat → Bool} {xs ys : List AV} (h : AV.withinL U ys = true) (hs : ∀ x ∈ xs, x ∈ ys) : AV.withinL U xs = true :=
  AV.withinL_of fun x hx => AV.withinL_mem h x (hs x hx)
theorem within_setRange {U : Nat → Bool} {cs xs : List AV} {k : Nat} (h1 : AV.withinL U cs = true) (h2 : AV.withinL U xs = true) : AV.withinL U (setRange cs k xs) = true := by
  refine AV.withinL_of fun x hx => ?_
  simp only [setRange, List.mem_append] at hx
  rcases hx with (hx | hx) | hx
  · exact AV.withinL_mem h1 x (List.mem_of_mem_take hx)
  · exact AV.withinL_mem h2 x hx
  · exact AV.withinL_mem h1 x (List.mem_of_mem_drop hx)
theorem within_fill {U : Nat → Bool} {pl : Nat → Option (Nat × Nat)} : ∀ {ps : List (Nat × AV)} {cs zs : List AV}, fillAV pl cs ps = some zs → AV.withinL U cs = true → (∀ x ∈ ps, x.2.within U = true) → AV.withinL U zs = true
  | [], cs, zs, h, h1, _ => by simp only [fillAV, Option.some.injEq] at h; subst h; exact h1
  | (i, x) :: ps, cs, zs, h, h1, h2 => by
    simp only [fillAV] at h
    split at h
    · rename_i off size xs _ hx
      split at h
      · exact within_fill h (within_setRange h1 (within_cellsOf hx (h2 _ (List.mem_cons_self ..)))) fun y hy => h2 y (List.mem_cons_of_mem _ hy)
      · cases h
    · cases h
theorem within_zip {U : Nat → Bool} : ∀ {parts : List (Nat × Operand)} {vs : List AV}, AV.withinL U vs = true → ∀ x ∈ parts.zipWith (fun p u => (p.1, u)) vs, x.2.within U = true
  | [], vs, _, x, hx => by simp at hx
  | p :: ps, [], _, x, hx => by simp at hx
  | p :: ps, v :: vs, h, x, hx => by
    simp only [AV.withinL, Bool.and_eq_true] at h
    simp only [List.zipWith_cons_cons, List.mem_cons] at hx
    rcases hx with rfl | hx
    · exact h.1
    · exact within_zip h.2 x hx
theorem within_read {U : Nat → Bool} {r : TyRow} {cs : List AV} {z : AV} (h : readAV r cs = some z) (hc : AV.withinL U cs = true) : z.within U = true := by
  unfold readAV at h
  split at h
  · split at h
    · simp only [Option.some.injEq] at h; subst h
      exact within_sub hc fun x hx => List.mem_of_mem_take hx
    · cases h
  · cases cs with
    | nil => cases h
    | cons y ys => simp only [List.head?_cons, Option.some.injEq] at h; subst h; exact AV.withinL_mem hc _ (List.mem_cons_self ..)
theorem within_pvs (U : Nat → Bool) (ps : List PV) : AV.withinL U (ps.map .pv) = true := AV.withinL_of fun x hx => by
  obtain ⟨p, _, rfl⟩ := List.mem_map.1 hx; rfl
theorem within_bin {U : Nat → Bool} {op : BinOp} {d : TypeDesc} {x y z : AV} {p : Prop} (h : binAV op d x y = some (p, z)) : z.within U = true := by
  have hi : ∀ {op k a b}, intAV op k a b = some (p, z) → z.within U = true := fun {op k a b} h => by
    cases op <;> simp only [intAV, Option.some.injEq, Prod.mk.injEq, reduceCtorEq] at h
    all_goals (obtain ⟨_, rfl⟩ := h; rfl)
  have hst : ∀ {op a b}, strAV op a b = some (p, z) → z.within U = true := fun {op a b} h => by
    cases op <;> simp only [strAV, Option.some.injEq, Prod.mk.injEq, reduceCtorEq] at h
    all_goals (obtain ⟨_, rfl⟩ := h; rfl)
  unfold binAV at h
  split at h
  · simp only [Option.some.injEq, Prod.mk.injEq] at h; obtain ⟨_, rfl⟩ := h; rfl
  · simp only [Option.some.injEq, Prod.mk.injEq] at h; obtain ⟨_, rfl⟩ := h; rfl
  · split at h
    · exact hi h
    · cases h
  · exact hst h
  · split at h
    · simp only [Option.some.injEq, Prod.mk.injEq] at h; obtain ⟨_, rfl⟩ := h; rfl
    · cases h
  · split at h
    · simp only [Option.some.injEq, Prod.mk.injEq] at h; obtain ⟨_, rfl⟩ := h; rfl
    · cases h
  · cases h
theorem within_eqAgg {U : Nat → Bool} {op : BinOp} {r : TyRow} {x y z : AV} (h : eqAgg T op r x y = some z) : z.within U = true := by
  unfold eqAgg at h
  repeat' split at h
  all_goals first | (cases h; done) | (simp only [Option.some.injEq] at h; subst h; rfl)
theorem within_eqNil {U : Nat → Bool} {op : BinOp} {d : TypeDesc} {x y z : AV} (h : eqNil op d x y = some z) : z.within U = true := by
  unfold eqNil opB at h
  repeat' split at h
  all_goals first | (cases h; done) | (simp only [Option.some.injEq] at h; subst h; rfl)
theorem within_partV {U : Nat → Bool} {r : TyRow} {cs : List AV} {off : Nat} {z : AV} (h : partV r cs off = some z) (hc : AV.withinL U cs = true) : z.within U = true := by
  unfold partV at h
  split at h
  · split at h
    · simp only [Option.some.injEq] at h; subst h
      exact within_sub hc fun x hx => List.mem_of_mem_drop (List.mem_of_mem_take hx)
    · cases h
  · have : AV.withinL U (cs.drop off) = true := within_sub hc fun x hx => List.mem_of_mem_drop hx
    cases hd : cs.drop off with
    | nil => rw [hd] at h; cases h
    | cons y ys => rw [hd] at h this; simp only [List.head?_cons, Option.some.injEq] at h; subst h; exact AV.withinL_mem this _ (List.mem_cons_self ..)
theorem within_idx {U : Nat → Bool} {d : TypeDesc} {x z : AV} {i : Int} {p : Prop} (h : idxAV T d x i = some (p, z)) (hx : x.within U = true) : z.within U = true := by
  unfold idxAV at h
  split at h
  · split at h
    · split at h
      · rename_i z' hz
        simp only [Option.some.injEq, Prod.mk.injEq] at h; obtain ⟨_, rfl⟩ := h; exact within_partV hz hx
      · cases h
    · cases h
  · simp only [Option.some.injEq, Prod.mk.injEq] at h; obtain ⟨_, rfl⟩ := h; rfl
  · cases h
theorem within_un {U : Nat → Bool} {op : UnOp} {x z : AV} (h : unAV op x = some z) : z.within U = true := by
  unfold unAV at h
  split at h <;> first | (cases h; done) | (simp only [Option.some.injEq] at h; subst h; rfl)
theorem within_pick {U : Nat → Bool} {b : Bool} {x y : AV} (hx : x.within U = true) (hy : y.within U = true) : (pickAV b x y).within U = true := by
  unfold pickAV
  split
  · rfl
  · split
    · rfl
    · cases b <;> rfl
  · cases b
    · exact hy
    · exact hx
theorem within_part {U : Nat → Bool} {x z : AV} {o l : Nat} (h : partAV x o l = some z) (hx : x.within U = true) : z.within U = true := by
  cases x <;> simp only [partAV, Option.some.injEq, reduceCtorEq] at h <;> subst h
  · exact hx
  · rfl
theorem within_elem {U : Nat → Bool} {d : TypeDesc} {x z : AV} {i : Int} {p : Prop} (h : elemAV T d x i = some (p, z)) (hx : x.within U = true) : z.within U = true := by
  unfold elemAV at h
  split at h
  · split at h
    · split at h
      · simp only [Option.some.injEq, Prod.mk.injEq] at h; obtain ⟨_, rfl⟩ := h; exact hx
      · simp only [Option.some.injEq, Prod.mk.injEq] at h; obtain ⟨_, rfl⟩ := h; rfl
      · cases h
    · cases h
  · split at h
    · split at h
      · simp only [Option.some.injEq, Prod.mk.injEq] at h; obtain ⟨_, rfl⟩ := h; rfl
      · simp only [Option.some.injEq, Prod.mk.injEq] at h; obtain ⟨_, rfl⟩ := h; rfl
      · split at h
        · simp only [Option.some.injEq, Prod.mk.injEq] at h; obtain ⟨_, rfl⟩ := h; exact hx
        · cases h
      · cases h
    · cases h
  · cases h
theorem within_slice {U : Nat → Bool} {d : TypeDesc} {H : Nat → Option Blk} {x z : AV} {lo hi mx : Option Int} {p : Prop} {hs : List (Nat × Blk)} (h : sliceAV T d H x lo hi mx = some (p, hs, z)) (hx : x.within U = true) : z.within U = true := by
  unfold sliceAV at h
  repeat' split at h
  all_goals first | (cases h; done) | (simp only [Option.some.injEq, Prod.mk.injEq] at h; obtain ⟨_, _, rfl⟩ := h; first | exact hx | rfl)
theorem slice_deps {d : TypeDesc} {H : Nat → Option Blk} {x z : AV} {lo hi mx : Option Int} {p : Prop} {hs : List (Nat × Blk)} (h : sliceAV T d H x lo hi mx = some (p, hs, z)) : hs = [] ∨ ∃ b o cs, x = .ptr b o ∧ H b = some (.cells cs) ∧ hs = [(b, .cells cs)] := by
  unfold sliceAV at h
  repeat' split at h
  all_goals first | (cases h; done) | skip
  all_goals (simp only [Option.some.injEq, Prod.mk.injEq] at h; obtain ⟨_, rfl, _⟩ := h)
  all_goals first | exact .inl rfl | exact .inr ⟨_, _, _, rfl, by assumption, rfl⟩
/-- The class of an operation; calls of Go's own functions as told. -/
def clsOf0 (cq : Oper → Cls) (o : Oper) : Cls :=
  match o.op with
  | .move _ | .assign _ | .pick _ _ _ | .build _ _ | .nilCheck _ | .binOp _ _ _ _ _ | .unOp _ _ _ | .convert _ _ _ | .fieldAddr _ _ _ | .indexAddr _ _ _ | .extract _ _ | .makeFunc _ _ _ | .index _ _ _ | .field _ _ _ | .sliceToArrayPointer _ _ => .pure
  | .alloc _ | .box _ _ | .buildSlice _ _ _ | .load _ _ | .slice _ _ _ _ _ | .makeSlice _ _ _ => .quiet
  | .call c => match c.callee with
    | .builtin .len => .pure
    | .builtin .min => .pure
    | .builtin .max => .pure
    | .builtin _ => .writer
    | _ => cq o
  | _ => .writer
def clsOf (cq : Oper → Cls) (o : Oper) : Cls :=
  match cq o with
  | .reads bs => .reads bs
  | .writes bs => .writes bs
  | _ => clsOf0 cq o
theorem clsOf_pure {cq : Oper → Cls} {o : Oper} (h : clsOf cq o = .pure) : clsOf0 cq o = .pure := by
  unfold clsOf at h; split at h <;> first | (cases h; done) | exact h
theorem clsOf_quiet {cq : Oper → Cls} {o : Oper} (h : clsOf cq o = .quiet) : clsOf0 cq o = .quiet := by
  unfold clsOf at h; split at h <;> first | (cases h; done) | exact h
structure PrimOk (E : Env) (T : Tab) (cq : Oper → Cls) (o : Oper) (vs : List AV) (H : Nat → Option Blk) (hs : List (Nat × Blk)) (δ : Delta) : Prop where
  does : Does E o vs hs δ
  deps : ∀ x ∈ hs, H x.1 = some x.2
  reach : reachB vs [] hs = true
  inr : InRefs vs hs δ
  pure : clsOf0 cq o = .pure → hs = [] ∧ δ.new = [] ∧ δ.wr = []
  quiet : clsOf0 cq o = .quiet → δ.wr = []
theorem PrimOk.value {cq : Oper → Cls} {o : Oper} {vs : List AV} {H : Nat → Option Blk} {z : AV} (hd : Does E o vs [] { v := z }) (hz : ∀ U, AV.withinL U vs = true → z.within U = true) : PrimOk E T cq o vs H [] { v := z } :=
  ⟨hd, fun _ h => (by cases h), rfl, fun U h1 _ _ => ⟨hz U h1, fun _ h => (by cases h), fun _ h => (by cases h)⟩, fun _ => ⟨rfl, rfl, rfl⟩, fun _ => rfl⟩
theorem reach_ptr {b : Nat} {u : AV} {vs : List AV} {k : Blk} (hu : ∀ U : Nat → Bool, u.within U = U b ∨ (u.within U = true → U b = true)) : reachB (u :: vs) [] [(b, k)] = true := by
  have : u.within (· != b) = false := by
    rcases hu (· != b) with h | h
    · rw [h]; simp
    · cases hw : u.within (· != b) with
      | false => rfl
      | true => have := h hw; simp at this
  simp [reachB, refs, AV.withinL, this]
theorem prim_ok (hT : TabOk E.P T) (cq : Oper → Cls) {o : Oper} {vs : List AV} {H : Nat → Option Blk} {p : Prop} {hs : List (Nat × Blk)} {δ : Delta} (hd : ∀ d, o.dst = some d → d < E.n) (h : prim T o vs H = some (p, hs, δ)) (hp : p) : PrimOk E T cq o vs H hs δ := by
  unfold prim at h
  split at h
  · rename_i x ho
    split at h
    · simp only [Option.some.injEq, Prod.mk.injEq] at h
      obtain ⟨rfl, rfl, rfl⟩ := h
      exact .value (does_move (.inl ho) hd) fun U h => AV.withinL_mem h _ (List.mem_cons_self ..)
    · cases h
  · rename_i x ho
    split at h
    · simp only [Option.some.injEq, Prod.mk.injEq] at h
      obtain ⟨rfl, rfl, rfl⟩ := h
      exact .value (does_move (.inr ho) hd) fun U h => AV.withinL_mem h _ (List.mem_cons_self ..)
    · cases h
  · rename_i c x y ho
    split at h
    · simp only [Option.some.injEq, Prod.mk.injEq] at h
      obtain ⟨rfl, rfl, rfl⟩ := h
      exact .value (does_pick ho hd) fun U h => within_pick (AV.withinL_mem h _ (by simp)) (AV.withinL_mem h _ (by simp))
    · cases h
  · rename_i t ho
    unfold primAlloc at h
    split at h
    · rename_i r d hr hdst
      simp only [Option.some.injEq, Prod.mk.injEq] at h
      obtain ⟨rfl, rfl, rfl⟩ := h
      refine ⟨does_alloc hT ho hdst (hd d hdst) hr, fun _ h => (by cases h), rfl, fun U _ _ h3 => ⟨?_, fun x hx => ?_, fun _ h => (by cases h)⟩, fun hc => by simp [clsOf0, ho] at hc, fun _ => rfl⟩
      · exact h3 _ (List.mem_cons_self ..)
      · simp only [List.mem_singleton] at hx; subst hx; exact within_consts U _
    · cases h
  · rename_i t x ho
    unfold primBox at h
    split at h
    · rename_i d u hdst
      split at h
      · rename_i cs hcs
        simp only [Option.some.injEq, Prod.mk.injEq] at h
        obtain ⟨rfl, rfl, rfl⟩ := h
        refine ⟨does_box ho hdst (hd d hdst) hcs, fun _ h => (by cases h), rfl, fun U h1 _ h3 => ⟨h3 _ (List.mem_cons_self ..), fun x hx => ?_, fun _ h => (by cases h)⟩, fun hc => by simp [clsOf0, ho] at hc, fun _ => rfl⟩
        simp only [List.mem_singleton] at hx; subst hx
        exact within_cellsOf hcs (AV.withinL_mem h1 _ (List.mem_cons_self ..))
      · cases h
    · cases h
  · rename_i t parts ho
    unfold primBuild at h
    split at h
    · cases h
    · rename_i r hr
      split at h
      · cases h
      · rename_i pl hpl
        split at h
        · rename_i zs hz
          simp only [Option.some.injEq, Prod.mk.injEq] at h
          obtain ⟨rfl, rfl, rfl⟩ := h
          exact .value (does_build hT ho hd hr hpl hz) fun U h => within_fill hz (within_consts U _) (within_zip h)
        · cases h
  · rename_i t n parts ho
    unfold primBuildSlice at h
    split at h
    · rename_i r d hr hdst
      split at h
      · rename_i e hdesc
        split at h
        · rename_i re hre
          split at h
          · rename_i zs hz
            split at h
            · rename_i hc
              simp only [Option.some.injEq, Prod.mk.injEq] at h
              obtain ⟨rfl, rfl, rfl⟩ := h
              refine ⟨does_buildSlice hT ho hdst (hd d hdst) hr hdesc hre hc.1 hz hc.2, fun _ h => (by cases h), rfl, fun U h1 _ h3 => ⟨h3 _ (List.mem_cons_self ..), fun x hx => ?_, fun _ h => (by cases h)⟩, fun hc => by simp [clsOf0, ho] at hc, fun _ => rfl⟩
              simp only [List.mem_singleton] at hx; subst hx
              refine within_fill hz ?_ (within_zip h1)
              refine AV.withinL_of fun x hx => ?_
              simp only [zeroAV, List.mem_map] at hx
              obtain ⟨i, _, rfl⟩ := hx
              unfold constCell; split <;> rfl
            · cases h
          · cases h
        · cases h
      · cases h
    · cases h
  · rename_i t x ho
    unfold primLoad at h
    split at h
    · cases h
    · rename_i r hr
      split at h
      · rename_i b k
        split at h
        · rename_i cs hcs
          split at h
          · rename_i z hz
            simp only [Option.some.injEq, Prod.mk.injEq] at h
            obtain ⟨rfl, rfl, rfl⟩ := h
            refine ⟨does_loadOwn hT ho hd hr hz, fun x hx => ?_, reach_ptr fun U => .inl rfl, fun U _ h2 _ => ⟨?_, fun _ h => (by cases h), fun _ h => (by cases h)⟩, fun hc => by simp [clsOf0, ho] at hc, fun _ => rfl⟩
            · simp only [List.mem_singleton] at hx; subst hx; exact hcs
            · exact within_read hz (within_sub (h2 _ (List.mem_cons_self ..)) fun x hx => List.mem_of_mem_drop hx)
          · cases h
        · cases h
      · split at h
        · rename_i hne
          split at h
          · rename_i z hz
            simp only [Option.some.injEq, Prod.mk.injEq] at h
            obtain ⟨rfl, rfl, rfl⟩ := h
            exact .value (does_loadImm hT ho hd hr hz (PV.isNe_spec hne)) fun U _ => within_read hz (within_pvs U _)
          · cases h
        · cases h
      · cases h
  · rename_i t x y ho
    unfold primStore at h
    split at h
    · rename_i r hr hdst
      split at h
      · rename_i b k u
        split at h
        · rename_i cs xs hcs hxs
          split at h
          · rename_i hc
            simp only [Option.some.injEq, Prod.mk.injEq] at h
            obtain ⟨rfl, rfl, rfl⟩ := h
            refine ⟨does_store hT ho hdst hr hxs hc.1 hc.2.1 hc.2.2, fun x hx => ?_, reach_ptr fun U => .inl rfl, fun U h1 h2 _ => ⟨rfl, fun _ h => (by cases h), fun x hx => ?_⟩, fun hc => by simp [clsOf0, ho] at hc, fun hc => by simp [clsOf0, ho] at hc⟩
            · simp only [List.mem_singleton] at hx; subst hx; exact hcs
            · simp only [List.mem_singleton] at hx; subst hx
              refine ⟨AV.withinL_mem h1 _ (List.mem_cons_self ..), fun k hk => ?_⟩
              simp only [Option.some.injEq] at hk; subst hk
              exact within_setRange (h2 _ (List.mem_cons_self ..)) (within_cellsOf hxs (AV.withinL_mem h1 _ (by simp)))
          · cases h
        · cases h
      · cases h
    · cases h
  · rename_i x ho
    split at h
    · split at h
      · rename_i hl
        simp only [Option.some.injEq, Prod.mk.injEq] at h
        obtain ⟨rfl, rfl, rfl⟩ := h
        exact .value (does_nilCheck ho hd hl) fun U h => AV.withinL_mem h _ (List.mem_cons_self ..)
      · cases h
    · cases h
  · rename_i op t x y yt ho
    unfold primBin at h
    split at h
    · rename_i u v r hr
      split at h
      · rename_i p' z hz
        simp only [Option.some.injEq, Prod.mk.injEq] at h
        obtain ⟨rfl, rfl, rfl⟩ := h
        exact .value (does_binOp hT ho hd hr hz hp) fun U _ => within_bin hz
      · split at h
        · rename_i z hz
          simp only [Option.some.injEq, Prod.mk.injEq] at h
          obtain ⟨rfl, rfl, rfl⟩ := h
          exact .value (does_eqAgg hT ho hd hr hz) fun U _ => within_eqAgg hz
        · split at h
          · rename_i z hz
            simp only [Option.some.injEq, Prod.mk.injEq] at h
            obtain ⟨rfl, rfl, rfl⟩ := h
            exact .value (does_eqNil hT ho hd hr hz) fun U _ => within_eqNil hz
          · cases h
    · cases h
  · rename_i t x y ho
    split at h
    · rename_i u k i r hr
      split at h
      · rename_i p' z hz
        simp only [Option.some.injEq, Prod.mk.injEq] at h
        obtain ⟨rfl, rfl, rfl⟩ := h
        exact .value (does_index hT ho hd hr hz hp) fun U h => within_idx hz (AV.withinL_mem h _ (List.mem_cons_self ..))
      · cases h
    · cases h
  · rename_i t x f ho
    unfold primField at h
    split at h
    · rename_i cs r hr
      split at h
      · rename_i fs hdesc
        split at h
        · rename_i fd hf
          split at h
          · rename_i rf hrf
            split at h
            · rename_i z hz
              simp only [Option.some.injEq, Prod.mk.injEq] at h
              obtain ⟨rfl, rfl, rfl⟩ := h
              exact .value (does_field hT ho hd hr hdesc hf hrf hz) fun U h => within_partV hz (AV.withinL_mem h _ (List.mem_cons_self ..))
            · cases h
          · cases h
        · cases h
      · cases h
    · cases h
  · rename_i t x ho
    unfold primToArray at h
    split at h
    · rename_i u r hr
      split at h
      · rename_i n e hdesc
        split at h
        · rename_i re hre
          split at h
          · rename_i p' z hz
            simp only [Option.some.injEq, Prod.mk.injEq] at h
            obtain ⟨rfl, rfl, rfl⟩ := h
            refine .value (does_toArray hT ho hd hr hdesc hz hp) fun U h => ?_
            have := AV.withinL_mem h _ (List.mem_cons_self ..)
            unfold arrAV at hz
            split at hz
            · simp only [Option.some.injEq, Prod.mk.injEq] at hz; obtain ⟨_, rfl⟩ := hz; rfl
            · simp only [Option.some.injEq, Prod.mk.injEq] at hz; obtain ⟨_, rfl⟩ := hz; rfl
            · split at hz
              · simp only [Option.some.injEq, Prod.mk.injEq] at hz; obtain ⟨_, rfl⟩ := hz; exact this
              · cases hz
            · cases hz
          · cases h
        · cases h
      · cases h
    · cases h
  · rename_i t x y ho
    unfold primMakeSlice at h
    split at h
    · rename_i k len k' cap r d hr hdst
      split at h
      · rename_i e hdesc
        split at h
        · rename_i re hre
          simp only [Option.some.injEq, Prod.mk.injEq] at h
          obtain ⟨rfl, rfl, rfl⟩ := h
          refine ⟨does_makeSlice hT ho hdst (hd d hdst) hr hdesc hre hp.1 hp.2.1 hp.2.2.1 hp.2.2.2, fun _ h => (by cases h), rfl, fun U h1 _ h3 => ⟨h3 _ (List.mem_cons_self ..), fun x hx => ?_, fun _ h => (by cases h)⟩, fun hc => by simp [clsOf0, ho] at hc, fun _ => rfl⟩
          simp only [List.mem_singleton] at hx; subst hx
          refine AV.withinL_of fun x hx => ?_
          simp only [zeroAV, List.mem_map] at hx
          obtain ⟨i, _, rfl⟩ := hx
          unfold constCell; split <;> rfl
        · cases h
      · cases h
    · cases h
  · rename_i op t x ho
    split at h
    · split at h
      · rename_i z hz
        simp only [Option.some.injEq, Prod.mk.injEq] at h
        obtain ⟨rfl, rfl, rfl⟩ := h
        exact .value (does_unOp ho hd hz) fun U _ => within_un hz
      · cases h
    · cases h
  · rename_i src dst x ho
    unfold primConv at h
    split at h
    · rename_i rs rd hrs hrd
      split at h
      · split at h
        · rename_i k' hk
          simp only [Option.some.injEq, Prod.mk.injEq] at h
          obtain ⟨rfl, rfl, rfl⟩ := h
          exact .value (does_convInt hT ho hd hrs hrd hk) fun U _ => rfl
        · cases h
      · split at h
        · rename_i hk
          simp only [Option.some.injEq, Prod.mk.injEq] at h
          obtain ⟨rfl, rfl, rfl⟩ := h
          exact .value (does_convStr hT ho hd hrs hrd hk) fun U _ => rfl
        · cases h
      · cases h
    · cases h
  · rename_i s x f ho
    split at h
    · rename_i u r hr
      split at h
      · rename_i off len rf hf
        split at h
        · rename_i z hz
          simp only [Option.some.injEq, Prod.mk.injEq] at h
          obtain ⟨rfl, rfl, rfl⟩ := h
          exact .value (does_fieldAddr hT ho hd hr hf hz) fun U h => within_part hz (AV.withinL_mem h _ (List.mem_cons_self ..))
        · cases h
      · cases h
    · cases h
  · rename_i t x y ho
    split at h
    · rename_i u k i r hr
      split at h
      · rename_i p' z hz
        simp only [Option.some.injEq, Prod.mk.injEq] at h
        obtain ⟨rfl, rfl, rfl⟩ := h
        exact .value (does_indexAddr hT ho hd hr hz hp) fun U h => within_elem hz (AV.withinL_mem h _ (List.mem_cons_self ..))
      · cases h
    · cases h
  · rename_i t x lo hi mx ho
    unfold primSlice at h
    split at h
    · rename_i r u vs' hr
      split at h
      · rename_i l v1 h1
        split at h
        · rename_i h' v2 h2
          split at h
          · rename_i m v3 h3
            split at h
            · rename_i p' hs' z hz
              simp only [Option.some.injEq, Prod.mk.injEq] at h
              obtain ⟨rfl, rfl, rfl⟩ := h
              refine ⟨does_slice hT ho hd hr h1 h2 h3 hz hp, fun x hx => ?_, ?_, fun U q1 _ _ => ⟨within_slice hz (AV.withinL_mem q1 _ (List.mem_cons_self ..)), fun _ h => (by cases h), fun _ h => (by cases h)⟩, fun hc => by simp [clsOf0, ho] at hc, fun _ => rfl⟩
              · rcases slice_deps hz with rfl | ⟨b, o', cs, rfl, hb, rfl⟩
                · cases hx
                · simp only [List.mem_singleton] at hx; subst hx; exact hb
              · rcases slice_deps hz with rfl | ⟨b, o', cs, rfl, hb, rfl⟩
                · rfl
                · exact reach_ptr fun U => .inl rfl
            · cases h
          · cases h
        · cases h
      · cases h
    · cases h
  · rename_i x i ho
    split at h
    · split at h
      · rename_i us z hz
        simp only [Option.some.injEq, Prod.mk.injEq] at h
        obtain ⟨rfl, rfl, rfl⟩ := h
        refine .value (does_extract ho hd hz) fun U h => ?_
        have := AV.withinL_mem h _ (List.mem_cons_self ..)
        exact AV.withinL_mem this _ (List.mem_of_getElem? hz)
      · cases h
    · cases h
  · rename_i f first caps ho
    split at h
    · rename_i h0
      simp only [Option.some.injEq, Prod.mk.injEq] at h
      obtain ⟨rfl, rfl, rfl⟩ := h
      refine .value (does_makeFunc ho h0 hd) fun U h => ?_
      simp only [AV.within, AV.withinL, Bool.true_and]; exact h
    · cases h
  · rename_i c ho
    split at h
    · rename_i b hb
      cases b
      case len =>
        obtain ⟨q1, n, rfl, rfl⟩ := does_len hT ho hb hd h
        exact .value q1 fun U _ => rfl
      all_goals (unfold primBuiltin at h; simp at h)
    · cases h
  · cases h
end sound
end Go.Am
namespace Go.Am
/-- A slot's value, known to be this. -/
def St.set (st : St) (t : Nat) (v : AV) : St := ⟨putO st.S (some t) v, st.H, st.U⟩
def dstB (n : Nat) (o : Oper) : Bool := match o.dst with | some d => decide (d < n) | none => true
def freshB (U : Nat → Bool) (δ : Delta) : Bool := δ.new.all fun x => !U x.1
/-- What must be shown of an operation. -/
def rexec (E : Env) (cq : Oper → Cls) (n : Nat) (o : Oper) (st : St) (K : St → Prop) : Prop :=
  dstB n o = true ∧ ∃ vs hs δ, Move E (clsOf cq o) o st vs hs δ ∧ K (st.after o.dst δ)
def rvc (E : Env) (cq : Oper → Cls) (n : Nat) (ops : Array Oper) : List Oper → St → (St → Prop) → Prop
  | [], st, K => K st
  | o :: rest, st, K => match o.guard with
    | none => rexec E cq n o st fun st' => rvc E cq n ops rest st' K
    | some (j, want) => match (ops[j]?).bind (·.dst) with
      | none => False
      | some t => match st.S t with
        | some (.pv (.lit (.bool b))) =>
          (b = want → rexec E cq n o st fun st' => rvc E cq n ops rest st' K) ∧
          (b = !want → dstB n o = true ∧ rvc E cq n ops rest (st.after o.dst { v := .tup [] }) K)
        | some (.tup []) => dstB n o = true ∧ rvc E cq n ops rest (st.after o.dst { v := .tup [] }) K
        | _ => False
theorem PrimOk.move {E : Env} {T : Tab} {cq : Oper → Cls} {o : Oper} {st : St} {vs : List AV} {hs : List (Nat × Blk)} {δ : Delta} (h : PrimOk E T cq o vs st.H hs δ) (hv : evls st.S o.op.operands.toList = some vs) (hf : freshB st.U δ = true) (hfoot : footB (clsOf cq o) hs δ = true) : Move E (clsOf cq o) o st vs hs δ := by
  have hV : AV.withinL (fun b => (δ.new.lookup b).isSome || refs vs hs b) vs = true := by
    refine AV.withinL_mono (U := fun b => refs vs hs b) (fun b hb => by simp [hb]) vs ?_
    exact within_self vs hs
  have hH : ∀ x ∈ hs, x.2.within (fun b => (δ.new.lookup b).isSome || refs vs hs b) = true := fun x hx =>
    Blk.within_mono (U := fun b => refs vs hs b) (fun b hb => by simp [hb]) x.2 (within_self_blk vs hs x hx)
  have hN : ∀ x ∈ δ.new, (fun b => (δ.new.lookup b).isSome || refs vs hs b) x.1 = true := fun x hx => by
    have : δ.new.lookup x.1 ≠ none := by
      have none_of : ∀ (l : List (Nat × Blk)) (p : Nat × Blk), p ∈ l → l.lookup p.1 ≠ none := by
        intro l
        induction l with
        | nil => intro p h; cases h
        | cons y ys ih =>
          intro p h
          simp only [List.lookup]
          split
          · simp
          · rename_i hne
            cases h with
            | head => simp at hne
            | tail _ hm => exact ih p hm
      exact none_of _ _ hx
    cases hl : δ.new.lookup x.1 with
    | none => exact absurd hl this
    | some k => simp [hl]
  obtain ⟨h1, h2, h3⟩ := h.inr _ hV hH hN
  refine { vals := hv, deps := h.deps, fresh := fun x hx => ?_, does := h.does, reach := h.reach, inV := h1, inN := h2, inW := fun x hx k hk => (h3 x hx).2 k hk, wr := fun x hx => ?_, pure := fun e => h.pure (clsOf_pure e), quiet := fun e => h.quiet (clsOf_quiet e), foot := hfoot }
  · have := List.all_eq_true.1 hf x hx
    simpa using this
  · exact (h3 x hx).1
theorem run_of_rvc {E : Env} {cq : Oper → Cls} {n : Nat} {ops : Array Oper} (hn : E.n = n) : ∀ (l : List Oper) (k : Nat) (st : St) (K : St → Prop), (∀ j, l[j]? = ops[k + j]?) → rvc E cq n ops l st K → ∃ sn, Run E ops (clsOf cq) (List.range' k l.length) st sn ∧ K sn
  | [], k, st, K, _, h => ⟨st, .nil st, h⟩
  | o :: l, k, st, K, hl, h => by
    have ho : ops[k]? = some o := by simpa using (hl 0).symm
    have hl' : ∀ j, l[j]? = ops[k + 1 + j]? := fun j => by have := hl (j + 1); simpa [Nat.add_assoc, Nat.add_comm 1 j] using this
    have hD : dstB n o = true → ∀ d, o.dst = some d → d < E.n := fun hd d e => by simp only [dstB, e, decide_eq_true_eq] at hd; exact hn ▸ hd
    simp only [List.length_cons, List.range'_succ]
    simp only [rvc] at h
    split at h
    · rename_i hg
      obtain ⟨hd, vs, hs, δ, m, h2⟩ := h
      obtain ⟨sn, h3, h4⟩ := run_of_rvc hn l (k + 1) _ K hl' h2
      exact ⟨sn, .cons ho (.exec (by simp [guardV, hg]) (hD hd) vs hs δ m) h3, h4⟩
    · rename_i j want hg
      split at h
      · exact h.elim
      · rename_i t ht
        split at h
        · rename_i b hb
          obtain ⟨hyes, hno⟩ := h
          have hgv : guardV ops st.S o = some (b == want) := by simp only [guardV, hg, ht, Option.bind_some, hb]
          by_cases hbw : b = want
          · obtain ⟨hd, vs, hs, δ, m, h2⟩ := hyes hbw
            obtain ⟨sn, h3, h4⟩ := run_of_rvc hn l (k + 1) _ K hl' h2
            exact ⟨sn, .cons ho (.exec (by rw [hgv, hbw]; simp) (hD hd) vs hs δ m) h3, h4⟩
          · have hbn : b = !want := by cases b <;> cases want <;> simp_all
            obtain ⟨hd, h2⟩ := hno hbn
            obtain ⟨sn, h3, h4⟩ := run_of_rvc hn l (k + 1) _ K hl' h2
            exact ⟨sn, .cons ho (.skip (by rw [hgv, hbn]; cases want <;> rfl) (hD hd)) h3, h4⟩
        · rename_i hb
          obtain ⟨hd, h2⟩ := h
          have hgv : guardV ops st.S o = some false := by simp only [guardV, hg, ht, Option.bind_some, hb]
          obtain ⟨sn, h3, h4⟩ := run_of_rvc hn l (k + 1) _ K hl' h2
          exact ⟨sn, .cons ho (.skip hgv (hD hd)) h3, h4⟩
        · exact h.elim
def Awp (E : Env) (c : Code) (st : St) (Q : Exit → St → Prop) : Prop :=
  ∀ a w, At E st a w → c.wp E.P (fun e a' w' => ∃ st', Q e st' ∧ At E st' a' w') a w
/-- What the rules ask of the function that one stands in. -/
structure Cx (E : Env) (T : Tab) (n : Nat) : Prop where
  tab : TabOk E.P T
  n : E.n = n
  mixed : E.P.follows .mixedOrders = true
namespace Awp
variable {E : Env} {T : Tab} {n : Nat} {st : St} {Q : Exit → St → Prop}
theorem mono {c : Code} {Q' : Exit → St → Prop} (h : Awp E c st Q) (hq : ∀ e st, Q e st → Q' e st) : Awp E c st Q' :=
  fun a w hat => wp_mono (h a w hat) fun _ _ _ ⟨st', h1, h2⟩ => ⟨st', hq _ _ h1, h2⟩
theorem skip (h : Q .normal st) : Awp E .skip st Q := fun _ _ hat => wp_skip ⟨st, h, hat⟩
theorem exit {id : Nat} (h : Q (.exit id) st) : Awp E (.exit id) st Q := fun _ _ hat => wp_exit ⟨st, h, hat⟩
theorem ret (h : Q .ret st) : Awp E .ret st Q := fun _ _ hat => wp_ret ⟨st, h, hat⟩
/-- A region in the order of its text, or in any drawn order. -/
theorem region (C : Cx E T n) (cq : Oper → Cls) {id : Nat} {b : Bool} {l : List Oper} (hok : (!b || okDrawn l.toArray (clsOf cq) (befs l [])) = true) (h : rvc E cq n l.toArray l st fun st' => Q .normal st') : Awp E (.region id l.toArray b) st Q := by
  intro a w hat
  obtain ⟨sn, h1, h2⟩ := run_of_rvc C.n l 0 st _ (by simp) h
  have hr : List.range' 0 l.length = List.range l.toArray.size := by rw [List.range_eq_range']; simp
  rw [hr] at h1
  cases b with
  | false => exact wp_region_run h1 hat fun a w h3 => ⟨sn, h2, h3⟩
  | true => exact wp_region_drawn C.mixed (by simpa using hok) h1 hat fun a w h3 => ⟨sn, h2, h3⟩
theorem seq {x y : Code} (h : Awp E x st fun e st' => match e with | .normal => Awp E y st' Q | e => Q e st') : Awp E (.seq x y) st Q := by
  intro a w hat
  refine wp_seq (wp_mono (h a w hat) ?_)
  rintro e a' w' ⟨st', h1, h2⟩
  cases e <;> simp only [Exit.then]
  case normal => exact h1 a' w' h2
  all_goals exact ⟨st', h1, h2⟩
/-- A region, and what comes behind it. -/
theorem cons (C : Cx E T n) (cq : Oper → Cls) {id : Nat} {b : Bool} {l : List Oper} {y : Code} (hok : (!b || okDrawn l.toArray (clsOf cq) (befs l [])) = true) (h : rvc E cq n l.toArray l st fun st' => Awp E y st' Q) : Awp E (.seq (.region id l.toArray b) y) st Q :=
  seq (region C cq hok h)
theorem cond {c : Operand} {x y : Code} {b : Bool} (hc : evl st.S c = some (.pv (.lit (.bool b)))) (hx : b = true → Awp E x st Q) (hy : b = false → Awp E y st Q) : Awp E (.cond c x y) st Q := by
  intro a w hat
  obtain ⟨ι, imm, hs⟩ := hat
  have hv := hs.evl hc
  simp only [VH, PH] at hv
  exact wp_cond_split hv.1 (fun e => hx e a w ⟨ι, imm, hs⟩) (fun e => hy e a w ⟨ι, imm, hs⟩)
theorem condT {c : Operand} {x y : Code} {b : Bool} (hc : evl st.S c = some (.pv (.lit (.bool b)))) (hb : b = true) (hx : Awp E x st Q) : Awp E (.cond c x y) st Q := cond hc (fun _ => hx) fun h => by rw [hb] at h; cases h
theorem condF {c : Operand} {x y : Code} {b : Bool} (hc : evl st.S c = some (.pv (.lit (.bool b)))) (hb : b = false) (hy : Awp E y st Q) : Awp E (.cond c x y) st Q := cond hc (fun h => by rw [hb] at h; cases h) fun _ => hy
theorem block {id : Nat} {x : Code} (h : Awp E x st fun e st' => match e with | .exit i => if i = id then Q .normal st' else Q (.exit i) st' | e => Q e st') : Awp E (.block id x) st Q := by
  intro a w hat
  refine wp_block (wp_mono (h a w hat) ?_)
  rintro e a' w' ⟨st', h1, h2⟩
  cases e <;> simp only [Exit.inBlock]
  case exit i =>
    simp only at h1
    split at h1
    · rename_i e; rw [if_pos e]; exact ⟨st', h1, h2⟩
    · rename_i e; rw [if_neg e]; exact ⟨st', h1, h2⟩
  all_goals exact ⟨st', h1, h2⟩
end Awp
/-- So many rounds of a loop. -/
def Arounds (E : Env) (c : Code) (Q : Exit → St → Prop) : Nat → St → Prop
  | 0, _ => False
  | n + 1, st => Awp E c st fun e st' => match e with | .normal => Arounds E c Q n st' | e => Q e st'
theorem Awp.rounds {E : Env} {c : Code} {Q : Exit → St → Prop} (n : Nat) {st : St} (h : Arounds E c Q n st) : Awp E (.loop c) st Q := by
  intro a w hat
  refine wp_loop_rounds n ?_
  induction n generalizing st a w with
  | zero => exact h.elim
  | succ n ih =>
    rw [rounds_succ]
    refine wp_mono (h a w hat) ?_
    rintro e a' w' ⟨st', h1, h2⟩
    cases e <;> simp only [Exit.then]
    case normal => exact ih h1 a' w' h2
    all_goals exact ⟨st', h1, h2⟩
theorem Arounds.succ {E : Env} {c : Code} {Q : Exit → St → Prop} {n : Nat} {st : St} (h : Awp E c st fun e st' => match e with | .normal => Arounds E c Q n st' | e => Q e st') : Arounds E c Q (n + 1) st := h
end Go.Am
namespace Go.Am
mutual
theorem AV.ren_id : ∀ (x : AV), x.ren (fun b => b) = x
  | .undef | .pv _ | .tsl _ _ | .rp _ | .ptr _ _ | .sl _ _ _ _ _ | .slc _ _ _ _ _ | .mp _ => rfl
  | .agg cs => by simp only [AV.ren, AV.renL_id cs]
  | .tup cs => by simp only [AV.ren, AV.renL_id cs]
  | .fn f xs ys => by simp only [AV.ren, AV.renL_id xs, AV.renL_id ys]
theorem AV.renL_id : ∀ (xs : List AV), AV.renL (fun b => b) xs = xs
  | [] => rfl
  | x :: xs => by simp only [AV.renL, AV.ren_id x, AV.renL_id xs]
end
/-- A state, told by lists. -/
def mkSt (S : List (Nat × AV)) (H : List (Nat × Blk)) (U : List Nat) : St := ⟨fun t => S.lookup t, fun b => H.lookup b, fun b => U.contains b⟩
def res1 (T : Tab) (st : St) : ResultVar → Option AV
  | .tmp t => st.S t
  | .cell a t => match st.S a with
    | some (.ptr b o) => match st.H b, T.lookup t with
      | some (.cells cs), some r => readAV r (cs.drop o)
      | _, _ => none
    | _ => none
def resL (T : Tab) (st : St) : List ResultVar → Option (List AV)
  | [] => some []
  | r :: rs => match res1 T st r, resL T st rs with
    | some v, some vs => some (v :: vs)
    | _, _ => none
def resAV (T : Tab) (st : St) (rs : List ResultVar) : Option AV :=
  match resL T st rs with
  | some [v] => some v
  | some vs => some (.tup vs)
  | none => none
theorem run_res1 {E : Env} {T : Tab} (hT : TabOk E.P T) {ι : Nat → Option (Nat × Nat)} {imm : Nat → Prop} {st : St} {a : Act} {w : World} (h : SR E ι imm st a w) {r : ResultVar} {v : AV} (hr : res1 T st r = some v) :
    ∃ u, ((match r with | .tmp t => pure (a.tmps.getD t undef) | .cell c t => do loadVar t (← asAddr (a.tmps.getD c undef)) : Sem Value)).run E.P w = .ok u w ∧ VH ι imm w v u := by
  cases r with
  | tmp t => exact ⟨_, rfl, h.slot t v hr⟩
  | cell c t =>
    simp only [res1] at hr
    split at hr
    · rename_i b o hS
      split at hr
      · rename_i cs r hH hl
        have hv := h.slot c _ hS
        simp only [VH] at hv
        obtain ⟨q, z, hi, he⟩ := hv
        obtain ⟨cc, e, f, h1, h2, h3, h4, _⟩ := h.heap.cells hH hi
        obtain ⟨vs, h5, h6⟩ := (h4.drop (k := o)).vals
        obtain ⟨u, h7, h8⟩ := run_loadVar hT hl hr (ι := ι) (imm := imm) (w := w) (b := q) (o := z + o) ⟨vs, h5, fun i hi => by rw [cell_of_heap h1]; exact h6 i hi⟩
        exact ⟨u, by simp only [he, asAddr, run_bind', run_pure', h7], h8⟩
      · cases hr
    · cases hr
theorem run_resL {E : Env} {T : Tab} (hT : TabOk E.P T) {ι : Nat → Option (Nat × Nat)} {imm : Nat → Prop} {st : St} {a : Act} {w : World} (h : SR E ι imm st a w) : ∀ {rs : List ResultVar} {vs : List AV}, resL T st rs = some vs →
    ∃ us, (rs.mapM (fun r => (match r with | .tmp t => pure (a.tmps.getD t undef) | .cell c t => do loadVar t (← asAddr (a.tmps.getD c undef)) : Sem Value))).run E.P w = .ok us w ∧ VHs ι imm w vs us
  | [], vs, hr => by simp only [resL, Option.some.injEq] at hr; subst hr; exact ⟨[], rfl, rfl⟩
  | r :: rs, vs, hr => by
    simp only [resL] at hr
    split at hr
    · rename_i v vs' h1 h2
      simp only [Option.some.injEq] at hr
      subst hr
      obtain ⟨u, q1, q2⟩ := run_res1 hT h h1
      obtain ⟨us, q3, q4⟩ := run_resL hT h h2
      refine ⟨u :: us, ?_, ⟨u, us, rfl, q2, q4⟩⟩
      rw [List.mapM_cons, run_bind', q1]
      simp only
      rw [run_bind', q3]
      rfl
    · cases hr
theorem run_results {E : Env} {T : Tab} (hT : TabOk E.P T) {ι : Nat → Option (Nat × Nat)} {imm : Nat → Prop} {st : St} {a : Act} {w : World} (h : SR E ι imm st a w) {fn : Func} {v : AV} (hr : resAV T st fn.results.toList = some v) :
    ∃ u, (results fn a.tmps).run E.P w = .ok u w ∧ VH ι imm w v u := by
  unfold resAV at hr
  have key : ∀ {vs}, resL T st fn.results.toList = some vs → ∃ us, (results fn a.tmps).run E.P w = .ok (if h : (List.toArray us).size = 1 then (List.toArray us)[0] else .tuple (List.toArray us)) w ∧ VHs ι imm w vs us := by
    intro vs hv
    obtain ⟨us, q1, q2⟩ := run_resL hT h hv
    refine ⟨us, ?_, q2⟩
    unfold results
    rw [Array.mapM_eq_mapM_toList, run_bind']
    have : ((List.toArray <$> fn.results.toList.mapM (fun r => (match r with | .tmp t => pure (a.tmps.getD t undef) | .cell c t => do loadVar t (← asAddr (a.tmps.getD c undef)) : Sem Value))) : Sem (Array Value)).run E.P w = .ok us.toArray w := by
      show ((fn.results.toList.mapM _) >>= fun l => pure (List.toArray l) : Sem (Array Value)).run E.P w = _
      rw [run_bind', q1]; rfl
    erw [this]
    rfl
  split at hr
  · rename_i x hx
    simp only [Option.some.injEq] at hr
    subst hr
    obtain ⟨us, q1, q2⟩ := key hx
    obtain ⟨u, us', rfl, q3, q4⟩ := q2
    simp only [VHs] at q4
    subst q4
    exact ⟨u, by simpa using q1, q3⟩
  · rename_i vs hne hx
    simp only [Option.some.injEq] at hr
    subst hr
    obtain ⟨us, q1, q2⟩ := key hx
    refine ⟨.tuple us.toArray, ?_, ⟨us, rfl, q2⟩⟩
    have hl := q2.length
    have : ¬ (List.toArray us).size = 1 := by
      intro h1
      simp at h1
      rw [hl] at h1
      obtain ⟨y, rfl⟩ := List.length_eq_one_iff.1 h1
      exact hne y rfl
    rw [dif_neg this] at q1
    exact q1
  · cases hr
/-- Where a function begins. -/
def entry (avs : List AV) (H : List (Nat × Blk)) (I : List Nat) : St := ⟨fun t => avs[t]?, heapOf H, inI I⟩
theorem ACalls.of_body {P : Program} {T : Tab} (hT : TabOk P T) {f : FuncId} {fn : Func} {body : Code} (hf : P.funcs[f]? = some fn) (hb : fn.body = some body) {I : List Nat} {avs : List AV} {H : List (Nat × Blk)} {av : AV} {H' : List (Nat × Blk)} (hl : avs.length ≤ fn.ntmps)
    (h : ∀ E : Env, E.P = P → E.n = fn.ntmps → E.I = I → Awp E body (entry avs H I) fun e st => (e = .ret ∨ e = .normal) ∧ resAV T st fn.results.toList = some av ∧ ∀ x ∈ H', st.H x.1 = some x.2) : ACalls P f I avs H av H' := by
  intro ι imm w M vs hHR hvs hlt hdom
  let E : Env := { P := P, n := fn.ntmps, w0 := w, R := Rof ι H, ι0 := ι, imm0 := imm, I := I, dom := hdom }
  have hlen := hvs.length
  have hat : At E (entry avs H I) { tmps := List.toArray vs ++ Array.replicate (fn.ntmps - (List.toArray vs).size) undef, defers := [] } w := by
    refine ⟨ι, imm, rfl, ?_, fun t v hv => ?_, ⟨fun b k hb => ?_, hHR.inj⟩, hdom, .refl _ _ _, .refl _ _, fun k hk => .inl hk, hlt⟩
    · show (List.toArray vs ++ Array.replicate (fn.ntmps - (List.toArray vs).size) undef).size = fn.ntmps
      simp; omega
    · obtain ⟨u, h1, h2⟩ := hvs.get hv
      have hlt' : t < vs.length := by
        rcases Nat.lt_or_ge t vs.length with h' | h'
        · exact h'
        · rw [List.getElem?_eq_none h'] at h1; cases h1
      have : (List.toArray vs ++ Array.replicate (fn.ntmps - (List.toArray vs).size) undef).getD t undef = u := by
        rw [Array.getD_eq_getD_getElem?, Array.getElem?_append_left (by simpa using hlt')]
        simp [h1]
      show VH ι imm w v ((List.toArray vs ++ Array.replicate (fn.ntmps - (List.toArray vs).size) undef).getD t undef)
      rw [this]; exact h2
    · obtain ⟨r, z, q1, q2, _, q4⟩ := hHR.blk b k hb
      exact ⟨r, z, q1, q2, .inl ⟨b, k, z, hb, q1⟩, q4⟩
  refine calls_of_wp hf hb (wp_mono (h E rfl rfl rfl _ _ hat) ?_)
  rintro e a' w' ⟨st, ⟨he, hres, hH'⟩, ι', imm', hs⟩
  obtain ⟨u, q1, q2⟩ := run_results (E := E) hT hs hres
  have post : ∃ v ι'' imm'', Ending.returned u = .returned v ∧ VH ι'' imm'' w' av v ∧ Grows ι ι'' imm imm'' w w' ∧ Ext (Rof ι H) w w' ∧ HR ι'' imm'' w' (fun r => Rof ι H r ∨ w.heap.size ≤ r) (heapOf H') ∧
      (∀ k, imm'' k → imm k ∨ Rof ι H k ∨ w.heap.size ≤ k) ∧ (∀ k, imm'' k → k < w'.heap.size) := by
    refine ⟨u, ι', imm', rfl, q2, hs.grow, hs.ext, ⟨fun b k hb => ?_, fun b b' k k' r z z' hb hb' hi hi' => ?_⟩, hs.immM, hs.immlt⟩
    · exact hs.heap.blk b k (hH' _ (lookup_mem (l := H') hb))
    · exact hs.heap.inj b b' k k' r z z' (hH' _ (lookup_mem (l := H') hb)) (hH' _ (lookup_mem (l := H') hb')) hi hi'
  rcases he with rfl | rfl
  · exact ⟨hs.defers, u, q1, post⟩
  · exact ⟨hs.defers, u, q1, post⟩
end Go.Am
namespace Go.Am
section steps
variable {E : Env} {T : Tab} {cq : Oper → Cls} {n : Nat} {ops : Array Oper}
theorem rvc_nil {st : St} {K : St → Prop} (h : K st) : rvc E cq n ops [] st K := h
theorem rexec_prim (C : Cx E T n) {d : Option Nat} {op : Op} {ty : TypeId} {pos : String} {af : Array Edge} {g : Option (Nat × Bool)} {st : St} {K : St → Prop} {xs : List Operand} {vs : List AV} {p : Prop} {hs : List (Nat × Blk)} {δ : Delta} (h1 : dstB n ⟨d, op, ty, pos, af, g⟩ = true)
    (hx : op.operands.toList = xs) (h2 : evls st.S xs = some vs) (h4 : prim T ⟨d, op, ty, pos, af, g⟩ vs st.H = some (p, hs, δ)) (h5 : p) (h6 : freshB st.U δ = true) (h7 : K (st.after d δ)) (h8 : footB (clsOf cq ⟨d, op, ty, pos, af, g⟩) hs δ = true := by rfl) :
    rexec E cq n ⟨d, op, ty, pos, af, g⟩ st K := by
  subst hx
  have hd' : ∀ d', Oper.dst ⟨d, op, ty, pos, af, g⟩ = some d' → d' < E.n := fun d' e => by
    simp only [dstB] at h1
    simp only at e
    subst e
    simp only [decide_eq_true_eq] at h1
    exact C.n ▸ h1
  exact ⟨h1, vs, hs, δ, (prim_ok C.tab cq hd' h4 h5).move h2 h6 h8, h7⟩
/-- An operation without a guard. -/
theorem rvc_prim (C : Cx E T n) {d : Option Nat} {op : Op} {ty : TypeId} {pos : String} {af : Array Edge} {rest : List Oper} {st : St} {K : St → Prop} {xs : List Operand} {vs : List AV} {p : Prop} {hs : List (Nat × Blk)} {δ : Delta} (h1 : dstB n ⟨d, op, ty, pos, af, none⟩ = true)
    (hx : op.operands.toList = xs) (h2 : evls st.S xs = some vs) (h4 : prim T ⟨d, op, ty, pos, af, none⟩ vs st.H = some (p, hs, δ)) (h5 : p) (h6 : freshB st.U δ = true) (h7 : rvc E cq n ops rest (st.after d δ) K) (h8 : footB (clsOf cq ⟨d, op, ty, pos, af, none⟩) hs δ = true := by rfl) :
    rvc E cq n ops (⟨d, op, ty, pos, af, none⟩ :: rest) st K := by
  simp only [rvc]
  exact rexec_prim C h1 hx h2 h4 h5 h6 h7 h8
/-- An operation behind a guard that lets it through. -/
theorem rvc_open {d : Option Nat} {op : Op} {ty : TypeId} {pos : String} {af : Array Edge} {j : Nat} {want : Bool} {rest : List Oper} {st : St} {K : St → Prop} {t : Nat} (hj : (ops[j]?).bind (·.dst) = some t) {b : Bool} (ht : st.S t = some (.pv (.lit (.bool b)))) (hb : b = want)
    (h : rexec E cq n ⟨d, op, ty, pos, af, some (j, want)⟩ st fun st' => rvc E cq n ops rest st' K) : rvc E cq n ops (⟨d, op, ty, pos, af, some (j, want)⟩ :: rest) st K := by
  simp only [rvc, hj, ht]
  exact ⟨fun _ => h, fun e => by rw [hb] at e; cases want <;> cases e⟩
/-- .. that does not. -/
theorem rvc_shut {d : Option Nat} {op : Op} {ty : TypeId} {pos : String} {af : Array Edge} {j : Nat} {want : Bool} {rest : List Oper} {st : St} {K : St → Prop} {t : Nat} (hj : (ops[j]?).bind (·.dst) = some t) {b : Bool} (ht : st.S t = some (.pv (.lit (.bool b)))) (hb : b = !want) (hd : dstB n ⟨d, op, ty, pos, af, some (j, want)⟩ = true)
    (h : rvc E cq n ops rest (st.after d { v := .tup [] }) K) : rvc E cq n ops (⟨d, op, ty, pos, af, some (j, want)⟩ :: rest) st K := by
  simp only [rvc, hj, ht]
  exact ⟨fun e => (by rw [hb] at e; cases want <;> cases e), fun _ => ⟨hd, h⟩⟩
mutual
theorem AV.ren_none {σ : Nat → Nat} : ∀ (x : AV), x.within (fun _ => false) = true → x.ren σ = x
  | .undef, _ | .pv _, _ | .tsl _ _, _ | .rp _, _ => rfl
  | .ptr b o, h => by simp [AV.within] at h
  | .sl b _ _ _ _, h | .slc b _ _ _ _, h => by simp [AV.within] at h
  | .mp b, h => by simp [AV.within] at h
  | .agg cs, h => by simp only [AV.within] at h; simp only [AV.ren, AV.renL_none cs h]
  | .tup cs, h => by simp only [AV.within] at h; simp only [AV.ren, AV.renL_none cs h]
  | .fn f xs ys, h => by simp only [AV.within, Bool.and_eq_true] at h; simp only [AV.ren, AV.renL_none xs h.1, AV.renL_none ys h.2]
theorem AV.renL_none {σ : Nat → Nat} : ∀ (xs : List AV), AV.withinL (fun _ => false) xs = true → AV.renL σ xs = xs
  | [], _ => rfl
  | x :: xs, h => by simp only [AV.withinL, Bool.and_eq_true] at h; simp only [AV.renL, AV.ren_none x h.1, AV.renL_none xs h.2]
end
/-- A function's contract where no block of one's own is handed to and fro. -/
structure PCalls (P : Program) (f : FuncId) (avs : List AV) (av : AV) : Prop where
  fn : ∃ fn, P.funcs[f]? = some fn ∧ (fn.name == "runtime.NumGoroutine") = false ∧ fn.body.isNone = false
  args : AV.withinL (fun _ => false) avs = true
  res : av.within (fun _ => false) = true
  calls : ACalls P f [] avs [] av []
theorem PCalls.move {P : Program} (hP : E.P = P) {f : FuncId} {avs : List AV} {av : AV} (C : PCalls P f avs av) {d : Option Nat} {c : Call} {ty : TypeId} {pos : String} {af : Array Edge} {g : Option (Nat × Bool)} {st : St} (h1 : ∀ x, d = some x → x < E.n) (hc : c.callee = .value (.func f)) (hv : evls st.S c.args.toList = some avs) (cl : Cls) :
    Move E cl ⟨d, .call c, ty, pos, af, g⟩ st (.fn f [] [] :: avs) [] { v := av } := by
  subst hP
  obtain ⟨fn, q1, q2, q3⟩ := C.fn
  have hin : (inI ([] : List Nat)) = fun _ => false := rfl
  have ok : CallOk ⟨fun b => b, []⟩ [] avs [] [] av := by
    refine { args := C.args, ids := ?_, blks := ?_, nodup := by simp, inj := ?_, nodupL := by simp, nodupR := by simp, fresh := ?_, res := ?_, res' := ?_, kept := ?_, all := ?_, used := ?_ }
    all_goals first | (intro x hx; cases hx; done) | skip
    · intro b c hb; cases hb
    · exact AV.within_mono (fun b hb => by cases hb) av C.res
  have hd := does_call (E := E) (o := ⟨d, .call c, ty, pos, af, g⟩) (c := c) rfl hc h1 q1 q2 q3 C.calls ok (args := avs) (caps := []) (by rw [AV.renL_none avs C.args]; simp)
  have he : Names.delta ⟨fun b => b, []⟩ [] [] [] av = { v := av } := by
    simp only [Names.delta, List.map_nil, AV.ren_none av C.res]
  rw [he] at hd
  have hops : (Op.operands (.call c)).toList = .func f :: c.args.toList := by simp [Op.operands, Call.operands, hc]
  refine { vals := ?_, deps := ?_, fresh := ?_, does := hd, reach := rfl, inV := ?_, inN := ?_, inW := ?_, wr := ?_, pure := fun _ => ⟨rfl, rfl, rfl⟩, quiet := fun _ => rfl, foot := by cases cl <;> rfl }
  · show evls st.S (Op.operands (.call c)).toList = _
    rw [hops]; simp only [evls, evl, hv]
  · intro x hx; cases hx
  · intro x hx; cases hx
  · exact AV.within_mono (fun b hb => by cases hb) av C.res
  · intro x hx; cases hx
  · intro x hx; cases hx
  · intro x hx; cases hx
theorem rexec_call {P : Program} (hP : E.P = P) (C : Cx E T n) {f : FuncId} {avs : List AV} {av : AV} {d : Option Nat} {c : Call} {ty : TypeId} {pos : String} {af : Array Edge} {g : Option (Nat × Bool)} {st : St} {K : St → Prop} (h1 : dstB n ⟨d, .call c, ty, pos, af, g⟩ = true) (hc : c.callee = .value (.func f)) (hv : evls st.S c.args.toList = some avs)
    (F : PCalls P f avs av) (h7 : K (st.after d { v := av })) : rexec E cq n ⟨d, .call c, ty, pos, af, g⟩ st K := by
  refine ⟨h1, _, _, _, F.move hP (fun x e => ?_) hc hv _, h7⟩
  simp only [dstB, e, decide_eq_true_eq] at h1
  exact C.n ▸ h1
theorem PCalls.of_body {P : Program} (hT : TabOk P T) {f : FuncId} {fn : Func} {body : Code} (hf : P.funcs[f]? = some fn) (hb : fn.body = some body) (hn : (fn.name == "runtime.NumGoroutine") = false) {avs : List AV} {av : AV} (hl : decide (avs.length ≤ fn.ntmps) = true) (ha : AV.withinL (fun _ => false) avs = true) (hr : av.within (fun _ => false) = true) (hm : P.follows .mixedOrders = true)
    (h : ∀ E : Env, E.P = P → Cx E T fn.ntmps → E.I = [] → Awp E body (entry avs [] []) fun e st => (e = .ret ∨ e = .normal) ∧ resAV T st fn.results.toList = some av) : PCalls P f avs av where
  fn := ⟨fn, hf, hn, by simp [hb]⟩
  args := ha
  res := hr
  calls := ACalls.of_body hT hf hb (by simpa using hl) fun E hP hE hI => (h E hP ⟨hP ▸ hT, hE, hP ▸ hm⟩ hI).mono fun e st ⟨h1, h2⟩ => ⟨h1, h2, fun _ hx => by cases hx⟩
end steps
end Go.Am
namespace Go.Am
/-- What a slice, or a string, holds: how many elements, which blocks it looks at, its cells. -/
def srcAV (H : Nat → Option Blk) (sz : Nat) : AV → Option (Nat × List (Nat × Blk) × List AV)
  | .pv (.sl _ m ps) => some (m, [], ps.map .pv)
  | .tsl m ps => some (m, [], ps.map .pv)
  | .sl b o m s _ => if s = sz then match H b with
      | some (.cells cs) => some (m, [(b, .cells cs)], (cs.drop o).take (m * s))
      | _ => none
    else none
  | .pv (.lit (.string s)) => if sz = 1 then some (s.size, [], s.data.toList.map fun b => .pv (.lit (.int .u8 b.toNat))) else none
  | _ => none
section ops
variable {E : Env} {T : Tab}
theorem VHs_lits (ι : Nat → Option (Nat × Nat)) (imm : Nat → Prop) (w : World) : ∀ (l : List UInt8), VHs ι imm w (l.map fun b => .pv (.lit (.int .u8 b.toNat))) (l.map fun b => .int .u8 b.toNat)
  | [] => rfl
  | b :: l => ⟨_, _, rfl, by simp [VH, PH, flatB], VHs_lits ι imm w l⟩
/-- The cells of what is appended, or copied. -/
theorem run_src {ι : Nat → Option (Nat × Nat)} {imm : Nat → Prop} {st : St} {a : Act} {w : World} (hs : SR E ι imm st a w) {H : Nat → Option Blk} {sz : Nat} {y : AV} {m : Nat} {hd : List (Nat × Blk)} {cs : List AV} (h : srcAV H sz y = some (m, hd, cs)) (hdeps : ∀ x ∈ hd, st.H x.1 = some x.2) (hlen : cs.length = m * sz) {v : Value} (hv : VH ι imm w y v) :
    ∃ vs, (Builtin.lenOf v).run E.P w = .ok m w ∧ VHs ι imm w cs vs ∧ ∀ k, k ≤ m → ∀ w' : World, (∀ x, w'.cell? x = w.cell? x) → (Builtin.firstCells sz k v).run E.P w' = .ok (List.toArray (vs.take (k * sz))) w' := by
  unfold srcAV at h
  split at h
  · simp only [Option.some.injEq, Prod.mk.injEq] at h
    obtain ⟨rfl, rfl, rfl⟩ := h
    rename_i ps
    simp only [VH, PH] at hv
    obtain ⟨A, cap, rfl, h1, h2, h3, h4, h5⟩ := hv
    cases A with
    | none =>
      obtain ⟨h6, h7, h8⟩ := h4 rfl
      subst h8
      refine ⟨[], rfl, rfl, fun k hk w' hw' => ?_⟩
      simp [Builtin.firstCells]
    | some ad =>
      by_cases hp : ps = []
      · subst hp
        refine ⟨[], rfl, rfl, fun k hk w' hw' => ?_⟩
        simp only [List.map_nil, List.length_nil] at hlen
        have : k * sz = 0 := by
          have h9 := Nat.mul_le_mul_right sz hk
          omega
        simp [Builtin.firstCells, this, loadCells, loadCellsFrom]
      · obtain ⟨q1, q2, q3⟩ := h5 ad rfl hp
        obtain ⟨vs, g1, g2⟩ := q3.vals ι
        refine ⟨vs, rfl, g1, fun k hk w' hw' => ?_⟩
        have hl := g1.length
        have hk' : k * sz ≤ vs.length := by rw [hl, hlen]; exact Nat.mul_le_mul_right _ hk
        have hl2 : (vs.take (k * sz)).length = k * sz := by simp; omega
        simp only [Builtin.firstCells]
        rw [addr_eta q1]
        have := run_loadCells (P := E.P) (w := w') (r := ad.block) (o := ad.off) (vs.take (k * sz)) (fun i hi => by
          rw [hw', g2 i (by omega), List.getElem?_take, if_pos (by omega)])
        rw [hl2] at this
        exact this
  · simp only [Option.some.injEq, Prod.mk.injEq] at h
    obtain ⟨rfl, rfl, rfl⟩ := h
    rename_i ps
    simp only [VH] at hv
    obtain ⟨A, rfl, h4, h5⟩ := hv
    cases A with
    | none =>
      obtain ⟨h6, h8⟩ := h4 rfl
      subst h8
      refine ⟨[], rfl, rfl, fun k hk w' hw' => ?_⟩
      simp [Builtin.firstCells]
    | some ad =>
      by_cases hp : ps = []
      · subst hp
        refine ⟨[], rfl, rfl, fun k hk w' hw' => ?_⟩
        simp only [List.map_nil, List.length_nil] at hlen
        have : k * sz = 0 := by
          have h9 := Nat.mul_le_mul_right sz hk
          omega
        simp [Builtin.firstCells, this, loadCells, loadCellsFrom]
      · obtain ⟨q1, q2, q3⟩ := h5 ad rfl hp
        obtain ⟨vs, g1, g2⟩ := q3.vals ι
        refine ⟨vs, rfl, g1, fun k hk w' hw' => ?_⟩
        have hl := g1.length
        have hk' : k * sz ≤ vs.length := by rw [hl, hlen]; exact Nat.mul_le_mul_right _ hk
        have hl2 : (vs.take (k * sz)).length = k * sz := by simp; omega
        simp only [Builtin.firstCells]
        rw [addr_eta q1]
        have := run_loadCells (P := E.P) (w := w') (r := ad.block) (o := ad.off) (vs.take (k * sz)) (fun i hi => by
          rw [hw', g2 i (by omega), List.getElem?_take, if_pos (by omega)])
        rw [hl2] at this
        exact this
  · split at h
    · rename_i hsz
      have hsz' := hsz.symm
      subst hsz'
      split at h
      · rename_i cs0 hcs
        simp only [Option.some.injEq, Prod.mk.injEq] at h
        obtain ⟨rfl, rfl, rfl⟩ := h
        simp only [VH] at hv
        obtain ⟨r, z, cap, hi, rfl, h1, _⟩ := hv
        obtain ⟨c, e, f, g1, g2, g3, g4, _⟩ := hs.heap.cells (hdeps _ (List.mem_cons_self ..)) hi
        obtain ⟨vs, g5, g6⟩ := (g4.drop.take).vals
        refine ⟨vs, rfl, g5, fun k hk w' hw' => ?_⟩
        have hl := g5.length
        have hk' : k * sz ≤ vs.length := by rw [hl, hlen]; exact Nat.mul_le_mul_right _ hk
        have hl2 : (vs.take (k * sz)).length = k * sz := by simp; omega
        have := run_loadCells (P := E.P) (w := w') (r := r) (vs.take (k * sz)) (fun i hi => by
          rw [hw', cell_of_heap g1, g6 i (by omega), List.getElem?_take, if_pos (by omega)])
        rw [hl2] at this
        simpa [Builtin.firstCells] using this
      · cases h
    · cases h
  · split at h
    · rename_i s hsz
      subst hsz
      simp only [Option.some.injEq, Prod.mk.injEq] at h
      obtain ⟨rfl, rfl, rfl⟩ := h
      simp only [VH, PH] at hv
      obtain ⟨rfl, _⟩ := hv
      refine ⟨s.data.toList.map fun b => .int .u8 b.toNat, rfl, VHs_lits ι imm w _, fun k hk w' hw' => ?_⟩
      simp only [Builtin.firstCells, run_pure', Nat.mul_one]
      congr 1
      apply Array.ext'
      simp
    · cases h
  · cases h
end ops
end Go.Am
namespace Go.Am
section steps
variable {E : Env} {T : Tab} {cq : Oper → Cls} {n : Nat} {ops : Array Oper}
theorem readAV_one {r : TyRow} (hr : isAggD r.desc = false) {cs : List AV} {k : Nat} {v : AV} (h : cs[k]? = some v) : readAV r (cs.drop k) = some v := by
  unfold readAV
  rw [hr]
  simpa using h
theorem rexec_load (C : Cx E T n) {d : Option Nat} {t : TypeId} {x : Operand} {ty : TypeId} {pos : String} {af : Array Edge} {g : Option (Nat × Bool)} {st : St} {K : St → Prop} {b k : Nat} {cs : List AV} {r : TyRow} {v : AV} (h1 : dstB n ⟨d, .load t x, ty, pos, af, g⟩ = true)
    (h2 : evl st.S x = some (.ptr b k)) (h3 : st.H b = some (.cells cs)) (hr : T.lookup t = some r) (hra : isAggD r.desc = false) (h4 : cs[k]? = some v) (h7 : K (st.after d { v := v })) (h8 : footB (clsOf cq ⟨d, .load t x, ty, pos, af, g⟩) [(b, .cells cs)] { v := v } = true := by rfl) : rexec E cq n ⟨d, .load t x, ty, pos, af, g⟩ st K := by
  refine rexec_prim C (p := True) (hs := [(b, .cells cs)]) (δ := { v := v }) h1 rfl (vs := [.ptr b k]) ?_ ?_ trivial rfl h7 h8
  · show evls st.S [x] = _
    simp only [evls, h2]
  · simp only [prim, primLoad, hr, h3, readAV_one hra h4]
theorem setRange_one {cs : List AV} {k : Nat} {v : AV} (hk : k < cs.length) : setRange cs k [v] = cs.set k v := by
  simp only [setRange, List.length_singleton]
  rw [List.set_eq_take_append_cons_drop, if_pos hk]
  simp
def eqsH (f : Nat → Option Blk) : List (Nat × Blk) → Prop
  | [] => True
  | x :: xs => f x.1 = some x.2 ∧ eqsH f xs
theorem eqsH_mem {f : Nat → Option Blk} : ∀ {l : List (Nat × Blk)}, eqsH f l → ∀ x ∈ l, f x.1 = some x.2
  | [], _, x, hx => by cases hx
  | y :: ys, h, x, hx => by
    cases hx with
    | head => exact h.1
    | tail _ hm => exact eqsH_mem h.2 x hm
end steps
def cI (k : IntKind) (A : List Int) : List AV := A.map fun x => .pv (.lit (.int k x))
end Go.Am
namespace Go.Am
section ops
variable {E : Env} {T : Tab}
theorem growBy_le (need : Nat) : ∀ (k c : Nat), c ≤ 2 * need + 192 → Builtin.growBy need k c ≤ 2 * need + 192
  | 0, c, h => h
  | k + 1, c, h => by
    simp only [Builtin.growBy]
    split
    · exact h
    · exact growBy_le need k _ (by omega)
theorem nextcap_le {need cap : Nat} (h : cap < need) : Builtin.nextslicecap need cap ≤ 2 * need + 192 := by
  unfold Builtin.nextslicecap
  split
  · omega
  · split
    · omega
    · exact growBy_le need 4 cap (by omega)
/-- What an append does in the memory: it goes into the room behind, or into a row of its own. -/
theorem run_append' (hT : TabOk E.P T) {t t2 : TypeId} {r re r2 : TyRow} (hr : T.lookup t = some r) {e : TypeId} (hdesc : r.desc = .slice e) (hre : T.lookup e = some re) (hr2 : T.lookup t2 = some r2) (hd2 : ∀ k, r2.desc ≠ .int k) {w : World} {ty : TypeId}
    {base : Option Addr} {n cap m : Nat} {y : Value} {old new : List Value} (hl : (Builtin.lenOf y).run E.P w = .ok m w) (hy : ∀ w' : World, (∀ x, w'.cell? x = w.cell? x) → (Builtin.firstCells re.size m y).run E.P w' = .ok (List.toArray new) w') (ho : ∀ w' : World, (∀ x, w'.cell? x = w.cell? x) → (Builtin.firstCells re.size n (.slice base n cap)).run E.P w' = .ok (List.toArray old) w')
    (hb : cap < n + m → Builtin.nextslicecap (n + m) cap * re.bytes ≤ 281474976710656) (hnm : n + m ≤ 9223372036854775807) :
    (n + m ≤ cap → ∃ s, (Builtin.append_ #[t, t2] ty #[.slice base n cap, y]).run E.P w = ((match base with | some a => storeCells (a.add (n * re.size)) new | none => pure () : Sem Unit) >>= fun _ => pure (.slice base s cap)).run E.P w ∧ s = n + m) ∧
    (cap < n + m → ∃ w1 nc rest, (Builtin.append_ #[t, t2] ty #[.slice base n cap, y]).run E.P w = .ok (.slice (some ⟨w.heap.size, 0, none⟩) (n + m) nc) (World.push w1 (.cells (List.toArray (old ++ new ++ rest)) e)) ∧ n + m ≤ nc ∧ (w1.heap = w.heap ∧ w1.os = w.os ∧ w1.tape = w.tape ∧ w1.output = w.output ∧ w.drawn ≤ w1.drawn) ∧ rest.length = (nc - (n + m)) * re.zero.cells.size) := by
  have hz : (match r2.desc with | .int _ => true | _ => false) = false := by
    cases hd : r2.desc <;> first | rfl | exact absurd hd (hd2 _)
  obtain ⟨ri, g1, g2, g3, g4⟩ := run_typeInfo hT hre w (P := E.P)
  constructor
  · intro hle
    refine ⟨n + m, ?_, rfl⟩
    simp only [Builtin.append_, List.getElem?_toArray, List.getElem?_cons_zero, List.getElem?_cons_succ]
    rw [run_bind', run_underlying hT hr]
    simp only [hdesc, run_bind', run_sizeOf hT hre, run_underlying hT hr2, run_pure', Bool.false_eq_true, if_false, hl]
    rw [if_pos hle]
    simp only [run_bind', Bool.not_false, if_true, hy w (fun _ => rfl)]
    cases base with
    | none => rfl
    | some a => simp only [run_bind']; rfl
  · intro hlt
    simp only [Builtin.append_, List.getElem?_toArray, List.getElem?_cons_zero, List.getElem?_cons_succ]
    rw [run_bind', run_underlying hT hr]
    simp only [hdesc, run_bind', run_sizeOf hT hre, run_underlying hT hr2, run_pure', Bool.false_eq_true, if_false, hl]
    rw [if_neg (by omega)]
    have hmax : (IntKind.i64.max : Int) = 9223372036854775807 := by decide
    have c1 : ¬ ((((n + m : Nat) : Int) > IntKind.i64.max) ∧ (False ∨ ri.bytes = 0)) := by
      rintro ⟨h, _⟩
      rw [hmax] at h; omega
    have hroom : ∀ k w, (askRoom k).run E.P w = .ok () w := fun k w => by unfold askRoom; split <;> rfl
    have c2 : ¬ (Builtin.nextslicecap (n + m) cap * ri.bytes > 2 ^ 48) := by
      rw [g3]
      have := hb hlt
      have e : (2 : Nat) ^ 48 = 281474976710656 := by decide
      rw [e]; omega
    simp only [run_bind', g1]
    simp only [Bool.false_eq_true, c1, if_false, run_bind', g1, c2, choose, Sem.run, Question.forced]
    obtain ⟨r2', k1, _, _, _⟩ := run_typeInfo hT hre { heap := w.heap, tape := w.tape, drawn := w.drawn + 1, os := w.os, output := w.output } (P := E.P)
    have hsame : ∀ x, World.cell? { heap := w.heap, tape := w.tape, drawn := w.drawn + 1, os := w.os, output := w.output } x = w.cell? x := fun _ => rfl
    simp only [k1, hroom, ho _ hsame, Bool.not_false, if_true, hy _ hsame, run_zeroValue hT hre, newRow, newObj, run_bind', Sem.run, run_pure']
    refine ⟨{ heap := w.heap, tape := w.tape, drawn := w.drawn + 1, os := w.os, output := w.output }, (Question.appendCap (n + m) cap e).cut (w.tape w.drawn (Question.appendCap (n + m) cap e)), (Builtin.zeroCells re.zero.cells ((Question.appendCap (n + m) cap e).cut (w.tape w.drawn (Question.appendCap (n + m) cap e)) - (n + m))).toList, ?_, ?_, ⟨rfl, rfl, rfl, rfl, Nat.le_succ _⟩, ?_⟩
    · simp only [World.push]
      have : ∀ z : Array Value, old.toArray ++ new.toArray ++ z = (old ++ new ++ z.toList).toArray := fun z => by simp
      rw [this]
    · simp only [Question.cut]; omega
    · simp [Builtin.zeroCells]
theorem run_append (hT : TabOk E.P T) {t t2 : TypeId} {r re r2 : TyRow} (hr : T.lookup t = some r) {e : TypeId} (hdesc : r.desc = .slice e) (hre : T.lookup e = some re) (hr2 : T.lookup t2 = some r2) (hd2 : ∀ k, r2.desc ≠ .int k) {w : World} {ty : TypeId}
    {base : Option Addr} {n cap m : Nat} {y : Value} {old new : List Value} (hl : (Builtin.lenOf y).run E.P w = .ok m w) (hy : ∀ w' : World, (∀ x, w'.cell? x = w.cell? x) → (Builtin.firstCells re.size m y).run E.P w' = .ok (List.toArray new) w') (ho : ∀ w' : World, (∀ x, w'.cell? x = w.cell? x) → (Builtin.firstCells re.size n (.slice base n cap)).run E.P w' = .ok (List.toArray old) w')
    (hb : (2 * (n + m) + 192) * re.bytes ≤ 281474976710656) (hnm : n + m ≤ 9223372036854775807) :
    (n + m ≤ cap → ∃ s, (Builtin.append_ #[t, t2] ty #[.slice base n cap, y]).run E.P w = ((match base with | some a => storeCells (a.add (n * re.size)) new | none => pure () : Sem Unit) >>= fun _ => pure (.slice base s cap)).run E.P w ∧ s = n + m) ∧
    (cap < n + m → ∃ w1 nc rest, (Builtin.append_ #[t, t2] ty #[.slice base n cap, y]).run E.P w = .ok (.slice (some ⟨w.heap.size, 0, none⟩) (n + m) nc) (World.push w1 (.cells (List.toArray (old ++ new ++ rest)) e)) ∧ n + m ≤ nc ∧ (w1.heap = w.heap ∧ w1.os = w.os ∧ w1.tape = w.tape ∧ w1.output = w.output ∧ w.drawn ≤ w1.drawn) ∧ rest.length = (nc - (n + m)) * re.zero.cells.size) :=
  run_append' hT hr hdesc hre hr2 hd2 hl hy ho (fun h => Nat.le_trans (Nat.mul_le_mul_right _ (nextcap_le h)) hb) hnm
/-- A block of one's own, or what lies in it from a place on, under another name. -/
theorem SR.alias {ι : Nat → Option (Nat × Nat)} {imm : Nat → Prop} {st : St} {a : Act} {w : World} (h : SR E ι imm st a w) {b : Nat} {cs : List AV} (hb : st.H b = some (.cells cs)) {r z : Nat} (hi : ι b = some (r, z)) {d : Nat} (hd : st.U d = false) {o : Nat} {cs' : List AV}
    {c : Array Value} {e : TypeId} {f : Nat × Nat} (hc : w.heap[r]? = some (Obj.cells c e f)) (hle : z + o + cs'.length ≤ c.size) (hcs : CellsH ι imm w c cs' (z + o)) (v : AV) :
    ∃ ι', ι' d = some (r, z + o) ∧ Grows ι ι' imm imm w w ∧ SR E ι' imm ⟨st.S, (Delta.mk v [(d, .cells cs')] [(b, none)]).H st.H, (Delta.mk v [(d, .cells cs')] [(b, none)]).U st.U⟩ a w := by
  obtain ⟨c0, e0, f0, h1, h2, h3, h4, h5, h6⟩ := h.heap.cells hb hi
  rw [hc] at h1
  simp only [Option.some.injEq, Obj.cells.injEq] at h1
  obtain ⟨rfl, rfl, rfl⟩ := h1
  have hιd : ι d = none := by
    cases hi : ι d with
    | none => rfl
    | some x => rw [h.used d x hi] at hd; cases hd
  have hbd : b ≠ d := fun e => by rw [e, hιd] at hi; cases hi
  let ι' : Nat → Option (Nat × Nat) := fun x => if x = d then some (r, z + o) else ι x
  have hd' : ι' d = some (r, z + o) := by show (if d = d then _ else _) = _; rw [if_pos rfl]
  have hne : ∀ x, x ≠ d → ι' x = ι x := fun x hx => by show (if x = d then _ else _) = _; rw [if_neg hx]
  have hext : ∀ x y, ι x = some y → ι' x = some y := fun x y hx => by
    rw [hne x (fun e => by rw [e, hιd] at hx; cases hx)]; exact hx
  have g : Grows ι ι' imm imm w w := ⟨hext, .refl _ _, fun r c e f hr => ⟨c, f, hr, rfl⟩⟩
  have hH : ∀ x k, (Delta.mk v [(d, .cells cs')] [(b, none)]).H st.H x = some k → (x = d ∧ k = .cells cs') ∨ (x ≠ d ∧ x ≠ b ∧ st.H x = some k) := fun x k hk => by
    simp only [Delta.H, List.lookup] at hk
    by_cases hx : x = d
    · subst hx; simp only [beq_self_eq_true] at hk; exact .inl ⟨rfl, (Option.some.inj hk).symm⟩
    · have e1 : (x == d) = false := by simpa using hx
      simp only [e1] at hk
      by_cases hxb : x = b
      · subst hxb; simp only [beq_self_eq_true] at hk; cases hk
      · have e2 : (x == b) = false := by simpa using hxb
        simp only [e2] at hk
        exact .inr ⟨hx, hxb, hk⟩
  refine ⟨ι', hd', g, h.turn g rfl rfl rfl (Nat.le_refl _) (Nat.le_refl _) (fun _ _ _ => rfl) ⟨fun x k hk => ?_, fun x1 x2 k1 k2 r1 z1 z2 hk1 hk2 hi1 hi2 => ?_⟩ (fun x y hx => ?_) (fun _ hk => .inl hk) h.immlt⟩
  · rcases hH x k hk with ⟨rfl, rfl⟩ | ⟨n1, _, hk⟩
    · exact ⟨r, z + o, hd', h5, h6, c, e, f, hc, hle, h3, hcs.grows g⟩
    · obtain ⟨r', z', q1, q2, q3, q4⟩ := h.heap.blk x k hk
      exact ⟨r', z', hext x _ q1, q2, q3, q4.grows g rfl⟩
  · have key : ∀ x k r1 z1, (Delta.mk v [(d, .cells cs')] [(b, none)]).H st.H x = some k → ι' x = some (r1, z1) → (x = d ∧ r1 = r) ∨ (x ≠ b ∧ st.H x = some k ∧ ι x = some (r1, z1)) := fun x k r1 z1 hk hi => by
      rcases hH x k hk with ⟨rfl, rfl⟩ | ⟨n1, n2, hk⟩
      · rw [hd'] at hi
        simp only [Option.some.injEq, Prod.mk.injEq] at hi
        exact .inl ⟨rfl, hi.1.symm⟩
      · rw [hne x n1] at hi
        exact .inr ⟨n2, hk, hi⟩
    rcases key x1 k1 r1 z1 hk1 hi1 with ⟨p1, p2⟩ | ⟨p1, p2, p3⟩ <;> rcases key x2 k2 r1 z2 hk2 hi2 with ⟨q1, q2⟩ | ⟨q1, q2, q3⟩
    · rw [p1, q1]
    · subst p2; exact absurd (h.heap.inj x2 b k2 _ r1 z2 z q2 hb q3 hi) q1
    · subst q2; exact absurd (h.heap.inj x1 b k1 _ r1 z1 z p2 hb p3 hi) p1
    · exact h.heap.inj x1 x2 k1 k2 r1 z1 z2 p2 q2 p3 q3
  · simp only [Delta.U, List.lookup, Bool.or_eq_true]
    by_cases hx' : x = d
    · subst hx'; left; simp
    · right; rw [hne x hx'] at hx; exact h.used x y hx
/-- A block is forgotten. -/
theorem SR.kill {ι : Nat → Option (Nat × Nat)} {imm : Nat → Prop} {st : St} {a : Act} {w : World} (h : SR E ι imm st a w) {H : Nat → Option Blk} (hH : ∀ x k, H x = some k → st.H x = some k) : SR E ι imm ⟨st.S, H, st.U⟩ a w :=
  { h with heap := ⟨fun b k hb => h.heap.blk b k (hH b k hb), fun b b' k k' r z z' hb hb' => h.heap.inj b b' k k' r z z' (hH b k hb) (hH b' k' hb')⟩, defers := h.defers, size := h.size, slot := h.slot, used := h.used, grow := h.grow, ext := h.ext, immM := h.immM, immlt := h.immlt }
theorem CellsH.app {ι : Nat → Option (Nat × Nat)} {imm : Nat → Prop} {w : World} {c : Array Value} : ∀ {xs ys : List AV} {o : Nat}, CellsH ι imm w c xs o → CellsH ι imm w c ys (o + xs.length) → CellsH ι imm w c (xs ++ ys) o
  | [], ys, o, _, h => h
  | x :: xs, ys, o, h, h' => by
    simp only [CellsH, List.cons_append] at h ⊢
    exact ⟨h.1, CellsH.app h.2 (by rw [List.length_cons] at h'; rw [show o + 1 + xs.length = o + (xs.length + 1) by omega]; exact h')⟩
theorem CellsH.undefs {ι : Nat → Option (Nat × Nat)} {imm : Nat → Prop} {w : World} {c : Array Value} : ∀ {k : Nat} {o : Nat}, o + k ≤ c.size → CellsH ι imm w c (List.replicate k AV.undef) o
  | 0, _, _ => trivial
  | k + 1, o, h => by
    rw [List.replicate_succ]
    refine ⟨⟨c[o]'(by omega), by simp [show o < c.size by omega], trivial⟩, CellsH.undefs (by omega)⟩
theorem setRange_tail {O N : List AV} {p j : Nat} (hO : O.length = p) (hN : N.length = j) : setRange (O ++ List.replicate j AV.undef) p N = O ++ N := by
  subst hO hN
  simp only [setRange, List.take_left]
  rw [List.drop_of_length_le (by simp), List.append_nil]
/-- An append to a row of one's own: it goes on under a new name. -/
theorem does_append_own' (hT : TabOk E.P T) {o : Oper} {c : Call} {t t2 : TypeId} (ho : o.op = .call c) (hc : c.callee = .builtin .append) (hty : c.argTypes = #[t, t2]) {d : Nat} (hdst : o.dst = some d) (hd : d < E.n) {r re r2 : TyRow} (hr : T.lookup t = some r) {e : TypeId} (hdesc : r.desc = .slice e) (hre : T.lookup e = some re) (hr2 : T.lookup t2 = some r2) (hd2 : ∀ k, r2.desc ≠ .int k)
    {b k n : Nat} {tt : Bool} {cs : List AV} {y : AV} {H : Nat → Option Blk} {m : Nat} {hs2 : List (Nat × Blk)} {new : List AV} (hy : srcAV H re.size y = some (m, hs2, new)) (hln : new.length = m * re.size) (hkn : k + n * re.size ≤ cs.length) (hflat : new.all flatCell = true)
    (hb : ∀ cap, n ≤ cap → (tt = true → cap = n) → cap < n + m → Builtin.nextslicecap (n + m) cap * re.bytes ≤ 281474976710656) (hnm : n + m ≤ 9223372036854775807) (hzs : re.zero.cells.size = re.size) :
    Does E o [.sl b k n re.size tt, y] ((b, .cells cs) :: hs2) { v := .sl d 0 (n + m) re.size false, new := [(d, .cells ((cs.drop k).take (n * re.size) ++ new))], wr := [(b, none)] } := by
  intro ι imm st a w Q hs hv hh hf
  have hUd : st.U d = false := hf (d, _) (List.mem_cons_self ..)
  have hvs := hs.evls hv
  have hops : o.op.operands.toList = c.args.toList := by rw [ho]; simp [Op.operands, Call.operands, hc]
  rw [hops] at hvs
  obtain ⟨v1, us1, he, hv1, hvs⟩ := hvs
  obtain ⟨v2, us2, he2, hv2, hvs⟩ := hvs
  simp only [VHs] at hvs
  subst hvs
  subst he2
  have hargs : c.args.map a.eval = #[v1, v2] := by apply Array.ext'; simpa using he
  simp only [VH] at hv1
  obtain ⟨q, z, cap, hi, rfl, hncap, htt, cS, eS, fS, hS, hSz⟩ := hv1
  have hbk := hh _ (List.mem_cons_self ..)
  obtain ⟨cc, ee, f, h1, h2, h3, h4, h5, h6⟩ := hs.heap.cells hbk hi
  rw [h1] at hS
  simp only [Option.some.injEq, Obj.cells.injEq] at hS
  obtain ⟨rfl, rfl, rfl⟩ := hS
  obtain ⟨vsN, g1, g2, g3⟩ := run_src hs hy (fun x hx => hh x (List.mem_cons_of_mem _ hx)) hln hv2
  have hlN := g2.length
  have hO : CellsH ι imm w cc ((cs.drop k).take (n * re.size)) (z + k) := (h4.drop).take
  have hOl : ((cs.drop k).take (n * re.size)).length = n * re.size := by rw [List.length_take, List.length_drop]; omega
  obtain ⟨vsO, o1, o2⟩ := hO.vals
  have hlO := o1.length
  have hold : ∀ w' : World, (∀ x, w'.cell? x = w.cell? x) → (Builtin.firstCells re.size n (.slice (some ⟨q, z + k, none⟩) n cap)).run E.P w' = .ok (List.toArray vsO) w' := fun w' hw' => by
    have := run_loadCells (P := E.P) (w := w') (r := q) (o := z + k) vsO (fun i hi => by rw [hw', cell_of_heap h1, o2 i hi])
    rw [hlO, hOl] at this
    simpa [Builtin.firstCells] using this
  have hnew : ∀ w' : World, (∀ x, w'.cell? x = w.cell? x) → (Builtin.firstCells re.size m v2).run E.P w' = .ok (List.toArray vsN) w' := fun w' hw' => by
    have := g3 m (Nat.le_refl _) w' hw'
    rwa [List.take_of_length_le (by rw [hlN, hln]; exact Nat.le_refl _)] at this
  have hsing : ∀ v ∈ vsN, single v := VHs.singles _ _ g2 (flatCell_spec hflat)
  obtain ⟨inplace, grown⟩ := run_append' hT hr hdesc hre hr2 hd2 (ty := o.type) (t := t) g1 hnew hold (hb cap hncap htt) hnm
  have hexec : ∀ {u w'}, (Builtin.append_ #[t, t2] o.type #[.slice (some ⟨q, z + k, none⟩) n cap, v2]).run E.P w = .ok u w' → (execOp a.eval o).run E.P w = .ok (.value u) w' := fun {u w'} h => by
    simp only [execOp, ho, resolve, hc, run_bind', run_pure', invoke, builtin, hargs, hty, h]
  unfold Oper.wp
  have hdd : ∀ x, o.dst = some x → x < E.n := fun x hx => by rw [hdst] at hx; exact Option.some.inj hx ▸ hd
  by_cases hle : n + m ≤ cap
  · obtain ⟨s, hrun, rfl⟩ := inplace hle
    have hmul : (n + m) * re.size ≤ cap * re.size := Nat.mul_le_mul_right _ hle
    rw [Nat.add_mul] at hmul
    have hin : z + k + (((cs.drop k).take (n * re.size)) ++ List.replicate (m * re.size) AV.undef).length ≤ cc.size := by
      rw [List.length_append, hOl, List.length_replicate]; omega
    obtain ⟨ι', i1, i2, i3⟩ := hs.alias hbk hi hUd h1 hin (CellsH.app hO (CellsH.undefs (k := m * re.size) (by rw [hOl]; omega))) (.sl d 0 (n + m) re.size false)
    obtain ⟨w', h7, h8⟩ := run_storeCells (P := E.P) vsN (z + k + n * re.size) 0 h1 (by rw [hlN, hln]; omega) (fun o _ => h3 o) hsing
    simp only [add_none, run_bind', h7, run_pure'] at hrun
    rw [hexec hrun, Oper.upon_value]
    have hHd : (Delta.mk (.sl d 0 (n + m) re.size false) [(d, .cells ((cs.drop k).take (n * re.size) ++ List.replicate (m * re.size) AV.undef))] [(b, none)]).H st.H d = some (.cells ((cs.drop k).take (n * re.size) ++ List.replicate (m * re.size) AV.undef)) := by
      simp [Delta.H]
    have hset : setRange ((cs.drop k).take (n * re.size) ++ List.replicate (m * re.size) AV.undef) (n * re.size) new = (cs.drop k).take (n * re.size) ++ new := by
      exact setRange_tail hOl hln
    have g2' : VHs ι' imm w new vsN := VHs.grows i2 _ _ g2
    have hput := CellsH.put (k := n * re.size) (c' := putCells cc (z + k + n * re.size + 0) vsN) (CellsH.grows i2 (CellsH.app hO (CellsH.undefs (k := m * re.size) (by rw [hOl]; omega)))) g2' (by rw [List.length_append, hOl, List.length_replicate, hln]; exact Nat.le_refl _) (by rw [Nat.add_zero]) hin
    rw [hset] at hput
    have hsr := i3.write hHd i1 h1 h8 (putCells_size _ _ _) (by rw [List.length_append, hOl, hln]; rw [List.length_append, hOl, List.length_replicate] at hin; exact hin) hput (.sl d 0 (n + m) re.size false)
    refine ⟨ι', imm, ?_⟩
    have hfin := hsr.put o.dst hdd (v := .sl d 0 (n + m) re.size false) (u := .slice (some ⟨q, z + k, none⟩) (n + m) cap) ⟨q, z + k, cap, i1, by simp, hle, (fun h => (by cases h)), _, _, _, h8.row, by rw [putCells_size]; omega⟩
    have eH : (Delta.mk (.sl d 0 (n + m) re.size false) [] [(d, some (.cells ((cs.drop k).take (n * re.size) ++ new)))]).H ((Delta.mk (.sl d 0 (n + m) re.size false) [(d, .cells ((cs.drop k).take (n * re.size) ++ List.replicate (m * re.size) AV.undef))] [(b, none)]).H st.H) = (Delta.mk (.sl d 0 (n + m) re.size false) [(d, .cells ((cs.drop k).take (n * re.size) ++ new))] [(b, none)]).H st.H := by
      funext x
      simp only [Delta.H, List.lookup]
      by_cases hx : x = d
      · subst hx; simp
      · have : (x == d) = false := by simpa using hx
        simp only [this]
    have eU : (Delta.mk (.sl d 0 (n + m) re.size false) [] [(d, some (.cells ((cs.drop k).take (n * re.size) ++ new)))]).U ((Delta.mk (.sl d 0 (n + m) re.size false) [(d, .cells ((cs.drop k).take (n * re.size) ++ List.replicate (m * re.size) AV.undef))] [(b, none)]).U st.U) = (Delta.mk (.sl d 0 (n + m) re.size false) [(d, .cells ((cs.drop k).take (n * re.size) ++ new))] [(b, none)]).U st.U := by
      funext x
      simp only [Delta.U, List.lookup]
      by_cases hx : x = d
      · subst hx; simp
      · have : (x == d) = false := by simpa using hx
        simp [this]
    simp only [eH, eU] at hfin
    exact hfin
  · obtain ⟨w1, nc, rest, hrun, hnc, ⟨e1, e2, e3, e4, e5⟩, hrest⟩ := grown (by omega)
    rw [hexec hrun, Oper.upon_value]
    have gw : Grows ι ι imm imm w w1 := ⟨fun _ _ h => h, ⟨fun _ h => h, fun k _ => by rw [e1]⟩, fun r' c1 e1' f1 hr' => ⟨c1, f1, by rw [e1]; exact hr', rfl⟩⟩
    have hs1 : SR E ι imm ⟨st.S, st.H, st.U⟩ a w1 := hs.turn gw e2 e3 e4 e5 (by rw [e1]; exact Nat.le_refl _) (fun k _ _ => by rw [e1]) ⟨fun b' k' hb' => by
      obtain ⟨r', z', p1, p2, p3, p4⟩ := hs.heap.blk b' k' hb'
      exact ⟨r', z', p1, p2, p3, p4.grows gw (by rw [e1])⟩, hs.heap.inj⟩ hs.used (fun _ hk => .inl hk) (fun k hk => by rw [e1]; exact hs.immlt k hk)
    have happ : ∀ {xs ys : List AV} {us vs : List Value}, VHs ι imm w1 xs us → VHs ι imm w1 ys vs → VHs ι imm w1 (xs ++ ys) (us ++ vs) := by
      intro xs
      induction xs with
      | nil => intro ys us vs h h'; simp only [VHs] at h; subst h; exact h'
      | cons x xs ih => intro ys us vs h h'; obtain ⟨u, us', rfl, p1, p2⟩ := h; exact ⟨u, us' ++ vs, rfl, p1, ih p2 h'⟩
    have hNew : NewH ι imm w1 (Obj.cells (vsO ++ vsN ++ rest).toArray e) (.cells ((cs.drop k).take (n * re.size) ++ new)) := by
      refine ⟨_, _, rfl, ?_, CellsH.of_VHs (vs := vsO ++ vsN) (happ (VHs.grows gw _ _ o1) (VHs.grows gw _ _ g2)) fun i hi => ?_⟩
      · simp only [List.length_append, List.size_toArray, hlO, hlN]; omega
      · rw [Nat.zero_add, List.getElem?_toArray, List.getElem?_append_left hi]
    obtain ⟨ι', i1, i2, i3⟩ := hs1.new hUd hNew (.sl d 0 (n + m) re.size false)
    have hK := i3.kill (H := (Delta.mk (.sl d 0 (n + m) re.size false) [(d, .cells ((cs.drop k).take (n * re.size) ++ new))] [(b, none)]).H st.H) (fun x kk hx => by
      simp only [Delta.H, List.lookup] at hx ⊢
      by_cases hxd : x = d
      · subst hxd; simpa using hx
      · have c1 : (x == d) = false := by simpa using hxd
        simp only [c1] at hx ⊢
        by_cases hxb : x = b
        · subst hxb; simp at hx
        · have c2 : (x == b) = false := by simpa using hxb
          simpa only [c2] using hx)
    refine ⟨ι', imm, ?_⟩
    have hheap : (World.push w1 (Obj.cells (vsO ++ vsN ++ rest).toArray e)).heap[w1.heap.size]? = some (Obj.cells (vsO ++ vsN ++ rest).toArray e) := by
      show (w1.heap.push _)[_]? = _
      rw [Array.getElem?_push, if_pos rfl]
    have hfin := hK.put o.dst hdd (v := .sl d 0 (n + m) re.size false) (u := .slice (some ⟨w.heap.size, 0, none⟩) (n + m) nc) ⟨w1.heap.size, 0, nc, i1, by rw [e1], hnc, (fun h => (by cases h)), _, _, _, hheap, by
      simp only [List.size_toArray, List.length_append, hlO, hOl, hlN, hln, hrest, hzs]
      have : nc = n + m + (nc - (n + m)) := by omega
      rw [this, Nat.add_mul, Nat.add_mul]
      have : n + m + (nc - (n + m)) - (n + m) = nc - (n + m) := by omega
      rw [this]; omega⟩
    exact hfin
theorem does_append_own (hT : TabOk E.P T) {o : Oper} {c : Call} {t t2 : TypeId} (ho : o.op = .call c) (hc : c.callee = .builtin .append) (hty : c.argTypes = #[t, t2]) {d : Nat} (hdst : o.dst = some d) (hd : d < E.n) {r re r2 : TyRow} (hr : T.lookup t = some r) {e : TypeId} (hdesc : r.desc = .slice e) (hre : T.lookup e = some re) (hr2 : T.lookup t2 = some r2) (hd2 : ∀ k, r2.desc ≠ .int k)
    {b k n : Nat} {tt : Bool} {cs : List AV} {y : AV} {H : Nat → Option Blk} {m : Nat} {hs2 : List (Nat × Blk)} {new : List AV} (hy : srcAV H re.size y = some (m, hs2, new)) (hln : new.length = m * re.size) (hkn : k + n * re.size ≤ cs.length) (hflat : new.all flatCell = true)
    (hb : (2 * (n + m) + 192) * re.bytes ≤ 281474976710656) (hnm : n + m ≤ 9223372036854775807) (hzs : re.zero.cells.size = re.size) :
    Does E o [.sl b k n re.size tt, y] ((b, .cells cs) :: hs2) { v := .sl d 0 (n + m) re.size false, new := [(d, .cells ((cs.drop k).take (n * re.size) ++ new))], wr := [(b, none)] } :=
  does_append_own' hT ho hc hty hdst hd hr hdesc hre hr2 hd2 hy hln hkn hflat (fun _ _ _ h => Nat.le_trans (Nat.mul_le_mul_right _ (nextcap_le h)) hb) hnm hzs
end ops
end Go.Am
namespace Go.Am
section steps
variable {E : Env} {T : Tab} {cq : Oper → Cls} {n : Nat} {ops : Array Oper}
theorem Move.of_frozen {d : Option Nat} {op : Op} {ty : TypeId} {pos : String} {af : Array Edge} {g : Option (Nat × Bool)} {st : St} {vs : List AV} {v : PV} (hd : Does E ⟨d, op, ty, pos, af, g⟩ vs [] { v := .pv v }) (h2 : evls st.S op.operands.toList = some vs) (c : Cls) : Move E c ⟨d, op, ty, pos, af, g⟩ st vs [] { v := .pv v } :=
  { vals := h2, deps := fun _ h => (by cases h), fresh := fun _ h => (by cases h), does := hd, reach := rfl, inV := rfl, inN := fun _ h => (by cases h), inW := fun _ h => (by cases h), wr := fun _ h => (by cases h), pure := fun _ => ⟨rfl, rfl, rfl⟩, quiet := fun _ => rfl, foot := by cases c <;> rfl }
end steps
def pI (k : IntKind) (D : List Int) : List PV := D.map fun x => .lit (.int k x)
def sI (f : Option Bool) (k : IntKind) (D : List Int) : AV := .pv (.sl f D.length (pI k D))
theorem pI_pv (k : IntKind) (D : List Int) : (pI k D).map AV.pv = cI k D := by simp [pI, cI]
end Go.Am
namespace Go.Am
section steps
variable {E : Env} {T : Tab} {cq : Oper → Cls} {n : Nat} {ops : Array Oper}
end steps
end Go.Am
namespace Go.Am
section steps
variable {E : Env} {T : Tab} {cq : Oper → Cls} {n : Nat} {ops : Array Oper}
end steps
end Go.Am
namespace Go.Am
/-- What is not needed is forgotten, and blocks are named anew: τ says what a block was called. -/
structure WeakerR (st : St) (τ : Nat → Nat) (S : List (Nat × AV)) (H : List (Nat × Blk)) (U : List Nat) (I : List Nat) : Prop where
  eqS : ∀ x ∈ S, st.S x.1 = some (x.2.ren τ)
  eqH : ∀ x ∈ H, st.H (τ x.1) = some (x.2.ren τ)
  inS : (S.all fun x => x.2.within fun b => U.contains b) = true
  inH : (H.all fun x => U.contains x.1 && x.2.within fun b => U.contains b) = true
  inj : ∀ x ∈ H, ∀ y ∈ H, τ x.1 = τ y.1 → x.1 = y.1
  inI : (I.all fun b => U.contains b && τ b == b) = true
theorem At.weakenR {E : Env} {st : St} {a : Act} {w : World} {τ : Nat → Nat} {S : List (Nat × AV)} {H : List (Nat × Blk)} {U : List Nat} (h : At E st a w) (hw : WeakerR st τ S H U E.I) : At E (mkSt S H U) a w := by
  obtain ⟨ι, imm, h⟩ := h
  let κ : Nat → Option (Nat × Nat) := fun b => if U.contains b then ι (τ b) else none
  have hκ : ∀ b, (fun b => U.contains b) b = true → ι (τ b) = κ b := fun b hb => by show _ = (if U.contains b then _ else _); rw [if_pos hb]
  have hV : ∀ x v, x.within (fun b => U.contains b) = true → VH ι imm w (x.ren τ) v → VH κ imm w x v := fun x v hu hx => (VH.ren (ι := κ) (κ := ι) (σ := τ) hκ x v hu).1 hx
  have hB : ∀ k r z, k.within (fun b => U.contains b) = true → BlkH ι imm w r z (k.ren τ) → BlkH κ imm w r z k := fun k r z hu hx => (BlkH.ren (ι := κ) (κ := ι) (σ := τ) hκ (r := r) (z := z) hu).1 hx
  have hin : ∀ x ∈ H, U.contains x.1 = true ∧ x.2.within (fun b => U.contains b) = true := fun x hx => by
    have := List.all_eq_true.1 hw.inH x hx
    simpa only [Bool.and_eq_true] using this
  refine ⟨κ, imm, h.defers, h.size, fun t v hv => ?_, ⟨fun b k hb => ?_, fun b b' k k' r z z' hb hb' hi hi' => ?_⟩, fun b x hx => ?_, ⟨fun b x hx => ?_, h.grow.stays, h.grow.rows⟩, h.ext, h.immM, h.immlt⟩
  · have hm := lookup_mem (l := S) hv
    exact hV _ _ (List.all_eq_true.1 hw.inS _ hm) (h.slot _ _ (hw.eqS _ hm))
  · have hm := lookup_mem (l := H) hb
    obtain ⟨r, z, q1, q2, q3, q4⟩ := h.heap.blk _ _ (hw.eqH _ hm)
    exact ⟨r, z, (hκ b (hin _ hm).1).symm.trans q1, q2, q3, hB _ _ _ (hin _ hm).2 q4⟩
  · have hm := lookup_mem (l := H) hb
    have hm' := lookup_mem (l := H) hb'
    rw [← hκ b (hin _ hm).1] at hi
    rw [← hκ b' (hin _ hm').1] at hi'
    exact hw.inj _ hm _ hm' (h.heap.inj _ _ _ _ _ _ _ (hw.eqH _ hm) (hw.eqH _ hm') hi hi')
  · show U.contains b = true
    by_cases hb : U.contains b = true
    · exact hb
    · have : κ b = none := by show (if U.contains b then _ else _) = _; rw [if_neg hb]
      rw [this] at hx; cases hx
  · have hb : (U.contains b && τ b == b) = true := List.all_eq_true.1 hw.inI b (by have := E.dom b x hx; simpa using this)
    simp only [Bool.and_eq_true, beq_iff_eq] at hb
    rw [← hκ b hb.1, hb.2]; exact h.grow.ext b x hx
theorem Awp.weakenR {E : Env} {c : Code} {st : St} {Q : Exit → St → Prop} {S : List (Nat × AV)} {H : List (Nat × Blk)} {U : List Nat} (τ : Nat → Nat) (hw : WeakerR st τ S H U E.I) (h : Awp E c (mkSt S H U) Q) : Awp E c st Q :=
  fun a w hat => h a w (hat.weakenR hw)
end Go.Am
namespace Go.Am
section steps
variable {E : Env} {T : Tab} {cq : Oper → Cls} {n : Nat} {ops : Array Oper}
/-- The string that bytes are. -/
def strOf (D : List Int) : ByteArray := ⟨(D.map fun x => UInt8.ofNat x.toNat).toArray⟩
theorem run_bytesLoop {P : Program} : ∀ (D : List Int) (s : ByteArray) (w : World),
    (forIn (D.map fun x => Value.int .u8 x) s (fun c (r : ByteArray) => do
      let .int .u8 n := c | stuck "bytesToString: byte expected"
      pure (ForInStep.yield (r.push (UInt8.ofNat n.toNat)))) : Sem ByteArray).run P w = .ok (⟨s.data ++ (D.map fun x => UInt8.ofNat x.toNat).toArray⟩) w
  | [], s, w => by simp
  | x :: D, s, w => by
    rw [List.map_cons, List.forIn_cons, run_bind']
    simp only [run_pure']
    rw [run_bytesLoop D]
    simp [ByteArray.push]
theorem vhs_ints {ι : Nat → Option (Nat × Nat)} {imm : Nat → Prop} {w : World} {k : IntKind} : ∀ {D : List Int} {vs : List Value}, VHs ι imm w (cI k D) vs → vs = D.map fun x => Value.int k x
  | [], vs, h => h
  | x :: D, vs, h => by
    obtain ⟨v, us, rfl, h1, h2⟩ := h
    simp only [VH, PH] at h1
    rw [h1.1, vhs_ints (D := D) h2, List.map_cons]
theorem does_bytesToString (hT : TabOk E.P T) {o : Oper} {src dst : TypeId} {x : Operand} (ho : o.op = .convert src dst x) (hd : ∀ d, o.dst = some d → d < E.n) {rs rd re : TyRow} {e : TypeId} (h1 : T.lookup src = some rs) (h2 : T.lookup dst = some rd) (hs : rs.desc = .slice e) (he : T.lookup e = some re) (hre : re.desc = .int .u8) (hk : rd.desc = .string) {f : Option Bool} {D : List Int} :
    Does E o [sI f .u8 D] [] { v := .pv (.lit (.string (strOf D))) } := by
  refine Does.value hd fun ι imm st a w hsr hv _ => ?_
  rw [ho] at hv
  simp only [Op.operands, List.map_cons, List.map_nil] at hv
  have h := hv.one
  simp only [sI, VH, PH] at h
  obtain ⟨A, cap, q1, q2, _, _, q3, q4⟩ := h
  refine ⟨.string (strOf D), ?_, by simp [VH, PH, flatB]⟩
  simp only [execOp, ho, q1, convert, run_bind', run_underlying hT h1, run_underlying hT h2, hs, hk, run_underlying hT he, hre]
  cases A with
  | none =>
    obtain ⟨e1, _, _⟩ := q3 rfl
    have : D = [] := List.eq_nil_of_length_eq_zero e1
    subst this
    rfl
  | some ad =>
    have key : ∃ vs : List Value, (loadCells ad D.length).run E.P w = .ok vs.toArray w ∧ vs = D.map fun x => Value.int .u8 x := by
      by_cases hD : D = []
      · subst hD
        exact ⟨[], rfl, rfl⟩
      · obtain ⟨p1, p2, p3⟩ := q4 ad rfl (by simpa [pI] using hD)
        obtain ⟨vs, r1, r2⟩ := p3.vals ι
        rw [pI_pv] at r1
        have e := vhs_ints r1
        have hl : vs.length = D.length := by rw [e]; simp
        refine ⟨vs, ?_, e⟩
        rw [← hl]
        rw [addr_eta p1]
        exact run_loadCells vs r2
    obtain ⟨vs, k1, k2⟩ := key
    simp only [Conv.bytesToString, run_bind', k1, k2]
    have := run_bytesLoop (P := E.P) D ByteArray.empty w
    rw [List.forIn_toArray]
    erw [this]
    simp only [run_pure']
    have e : (⟨ByteArray.empty.data ++ (List.map (fun x => UInt8.ofNat x.toNat) D).toArray⟩ : ByteArray) = strOf D := by
      simp [strOf, ByteArray.empty, ByteArray.emptyWithCapacity]
      rfl
    rw [e]
end steps
end Go.Am
namespace Go.Am
/-- How a value of a type lies in cells. -/
structure Enc (α : Type) where
  sz : Nat
  enc : α → List PV
  len : ∀ x, (enc x).length = sz
/-- A slice: is it nil (if known), and its elements. -/
structure Sl (α : Type) where
  nil : Bool
  D : List α
  deriving Inhabited
def encL {α : Type} (e : Enc α) (D : List α) : List PV := D.flatMap e.enc
def encC {α : Type} (e : Enc α) (D : List α) : List AV := (encL e D).map .pv
def sS {α : Type} (f : Option Bool) (e : Enc α) (D : List α) : AV := .pv (.sl f D.length (encL e D))
def eI (k : IntKind) : Enc Int := ⟨1, fun x => [.lit (.int k x)], fun _ => rfl⟩
def eSl {α : Type} (e : Enc α) : Enc (Sl α) := ⟨1, fun x => [.sl (some x.nil) x.D.length (encL e x.D)], fun _ => rfl⟩
instance : Inhabited ByteArray := ⟨.empty⟩
section rows
variable {α : Type} {e : Enc α}
theorem getX {D : List α} {i : Nat} (h : i < D.length) : ∃ x, D[i]? = some x := ⟨D[i], by simp [h]⟩
theorem getE [Inhabited α] {D : List α} {i : Nat} (h : i < D.length) : D[i]? = some D[i]! := by simp [h]
theorem getlt {D : List α} {i : Nat} {x : α} (h : D[i]? = some x) {z : Int} {m : Nat} (hz : z = i) (hm : m = D.length := by rfl) : z < (m : Int) := by
  subst hz hm
  have : i < D.length := by
    rcases Nat.lt_or_ge i D.length with h' | h'
    · exact h'
    · rw [List.getElem?_eq_none h'] at h; cases h
  omega
theorem drop_end {D : List α} {i : Nat} (h : ¬ i < D.length) : D.drop i = [] := List.drop_of_length_le (by omega)
theorem encL_len : ∀ (D : List α), (encL e D).length = D.length * e.sz
  | [] => by simp [encL]
  | x :: D => by
    have := encL_len D
    simp only [encL, List.flatMap_cons, List.length_append, e.len, List.length_cons] at this ⊢
    rw [this, Nat.add_mul]; omega
theorem encC_len (D : List α) : (encC e D).length = D.length * e.sz := by simp [encC, encL_len]
theorem encL_append (D D' : List α) : encL e (D ++ D') = encL e D ++ encL e D' := by simp [encL]
theorem encC_append (D D' : List α) : encC e (D ++ D') = encC e D ++ encC e D' := by simp [encC, encL_append]
theorem encL_drop : ∀ (D : List α) (i : Nat), (encL e D).drop (i * e.sz) = encL e (D.drop i)
  | D, 0 => by simp
  | [], i + 1 => by simp [encL]
  | x :: D, i + 1 => by
    have h : encL e (x :: D) = e.enc x ++ encL e D := by simp [encL]
    have hl := e.len x
    rw [h, show (i + 1) * e.sz = (e.enc x).length + i * e.sz by rw [hl, Nat.add_mul]; omega, List.drop_length_add_append, encL_drop D i, List.drop_succ_cons]
theorem encL_take : ∀ (D : List α) (i : Nat), (encL e D).take (i * e.sz) = encL e (D.take i)
  | D, 0 => by simp [encL]
  | [], i + 1 => by simp [encL]
  | x :: D, i + 1 => by
    have h : encL e (x :: D) = e.enc x ++ encL e D := by simp [encL]
    have hl := e.len x
    rw [h, show (i + 1) * e.sz = (e.enc x).length + i * e.sz by rw [hl, Nat.add_mul]; omega, List.take_length_add_append, encL_take D i, List.take_succ_cons]
    simp [encL]
theorem drop_at {D : List α} {i : Nat} {x : α} (h : D[i]? = some x) : D.drop i = x :: D.drop (i + 1) := by
  have hi : i < D.length := by
    rcases Nat.lt_or_ge i D.length with h' | h'
    · exact h'
    · rw [List.getElem?_eq_none h'] at h; cases h
  rw [List.drop_eq_getElem_cons hi]
  rw [List.getElem?_eq_getElem hi] at h
  simp only [Option.some.injEq] at h
  rw [h]
theorem encL_at {D : List α} {i : Nat} {x : α} (h : D[i]? = some x) : ((encL e D).drop (i * e.sz)).take e.sz = e.enc x := by
  rw [encL_drop, drop_at h]
  have : encL e (x :: D.drop (i + 1)) = e.enc x ++ encL e (D.drop (i + 1)) := by simp [encL]
  rw [this, List.take_append_of_le_length (by rw [e.len]; omega), List.take_of_length_le (by rw [e.len]; omega)]
theorem pv_flat (ps : List PV) : (ps.map AV.pv).all flatCell = true := by
  rw [List.all_eq_true]
  intro x hx
  obtain ⟨p, _, rfl⟩ := List.mem_map.1 hx
  rfl
theorem encC_within (D : List α) (U : Nat → Bool) : AV.withinL U (encC e D) = true := within_pvs U _
theorem eI_L (k : IntKind) (D : List Int) : encL (eI k) D = pI k D := by
  simp only [encL, eI, pI]
  induction D with
  | nil => rfl
  | cons x D ih => simp [ih]
theorem sS_I (f : Option Bool) (k : IntKind) (D : List Int) : sS f (eI k) D = sI f k D := by simp only [sS, sI, eI_L]
end rows
/-- A slice that begins as nil and only grows: its row is block b. -/
def grow {α : Type} (b : Nat) (e : Enc α) : List α → AV
  | [] => .pv (.sl (some true) 0 [])
  | _ :: D => .sl b 0 (D.length + 1) e.sz false
def growH {α : Type} (b : Nat) (e : Enc α) : List α → List (Nat × Blk)
  | [] => []
  | x :: D => [(b, .cells (encC e (x :: D)))]
theorem of_true {α : Type} {c : Bool} {x y R : α} (h : c = true) (e : (bif c then x else y) = R) : x = R := by rw [h] at e; exact e
theorem of_false {α : Type} {c : Bool} {x y R : α} (h : c = false) (e : (bif c then x else y) = R) : y = R := by rw [h] at e; exact e
section steps
variable {E : Env} {T : Tab} {cq : Oper → Cls} {n : Nat} {ops : Array Oper}
/-- An operation without a guard. -/
theorem rvc_un {d : Option Nat} {op : Op} {ty : TypeId} {pos : String} {af : Array Edge} {rest : List Oper} {st : St} {K : St → Prop} (h : rexec E cq n ⟨d, op, ty, pos, af, none⟩ st fun st' => rvc E cq n ops rest st' K) : rvc E cq n ops (⟨d, op, ty, pos, af, none⟩ :: rest) st K := by
  simp only [rvc]; exact h
/-- The same, of an operation that only gives a value. -/
theorem rvP (C : Cx E T n) {d : Option Nat} {op : Op} {ty : TypeId} {pos : String} {af : Array Edge} {rest : List Oper} {st : St} {K : St → Prop} {xs : List Operand} {vs : List AV} {hs : List (Nat × Blk)} (v : AV) (h7 : rvc E cq n ops rest (st.after d { v := v }) K) (h1 : dstB n ⟨d, op, ty, pos, af, none⟩ = true := by exact rfl)
    (hx : op.operands.toList = xs := by exact rfl) (h2 : evls st.S xs = some vs := by exact rfl) (h4 : prim T ⟨d, op, ty, pos, af, none⟩ vs st.H = some (True, hs, { v := v }) := by exact rfl) (h8 : footB (clsOf cq ⟨d, op, ty, pos, af, none⟩) hs { v := v } = true := by exact rfl) :
    rvc E cq n ops (⟨d, op, ty, pos, af, none⟩ :: rest) st K :=
  rvc_un (rexec_prim C (δ := { v := v }) h1 hx h2 h4 trivial rfl h7 h8)
theorem rvO (C : Cx E T n) {d : Option Nat} {op : Op} {ty : TypeId} {pos : String} {af : Array Edge} {j : Nat} {want : Bool} {rest : List Oper} {st : St} {K : St → Prop} {t : Nat} {b : Bool} {xs : List Operand} {vs : List AV} {hs : List (Nat × Blk)} (v : AV) (h7 : rvc E cq n ops rest (st.after d { v := v }) K) (hj : (ops[j]?).bind (·.dst) = some t := by exact rfl) (ht : st.S t = some (.pv (.lit (.bool b))) := by exact rfl) (hb : b = want := by exact rfl)
    (h1 : dstB n ⟨d, op, ty, pos, af, some (j, want)⟩ = true := by exact rfl) (hx : op.operands.toList = xs := by exact rfl) (h2 : evls st.S xs = some vs := by exact rfl) (h4 : prim T ⟨d, op, ty, pos, af, some (j, want)⟩ vs st.H = some (True, hs, { v := v }) := by exact rfl) (h8 : footB (clsOf cq ⟨d, op, ty, pos, af, some (j, want)⟩) hs { v := v } = true := by exact rfl) :
    rvc E cq n ops (⟨d, op, ty, pos, af, some (j, want)⟩ :: rest) st K :=
  rvc_open hj ht hb (rexec_prim C (δ := { v := v }) h1 hx h2 h4 trivial rfl h7 h8)
theorem rvS {d : Option Nat} {op : Op} {ty : TypeId} {pos : String} {af : Array Edge} {j : Nat} {want : Bool} {rest : List Oper} {st : St} {K : St → Prop} {t : Nat} {b : Bool} (h : rvc E cq n ops rest (st.after d { v := .tup [] }) K) (hj : (ops[j]?).bind (·.dst) = some t := by exact rfl) (ht : st.S t = some (.pv (.lit (.bool b))) := by exact rfl) (hb : b = !want := by exact rfl) (hd : dstB n ⟨d, op, ty, pos, af, some (j, want)⟩ = true := by exact rfl) :
    rvc E cq n ops (⟨d, op, ty, pos, af, some (j, want)⟩ :: rest) st K := rvc_shut hj ht hb hd h
theorem Awp.consP (C : Cx E T n) {id : Nat} {b : Bool} {l : List Oper} {y : Code} {st : St} {Q : Exit → St → Prop} (h : rvc E (fun _ => .pure) n l.toArray l st fun st' => Awp E y st' Q) (hok : (!b || okDrawn l.toArray (clsOf (fun _ => .pure)) (befs l [])) = true := by kernel_rfl) : Awp E (.seq (.region id l.toArray b) y) st Q :=
  Awp.cons C _ hok h
theorem Awp.regionP (C : Cx E T n) {id : Nat} {b : Bool} {l : List Oper} {st : St} {Q : Exit → St → Prop} (h : rvc E (fun _ => .pure) n l.toArray l st fun st' => Q .normal st') (hok : (!b || okDrawn l.toArray (clsOf (fun _ => .pure)) (befs l [])) = true := by kernel_rfl) : Awp E (.region id l.toArray b) st Q :=
  Awp.region C _ hok h
theorem St.set_same {st : St} {t : Nat} {v : AV} (h : st.S t = some v) : st.set t v = st := by
  have : putO st.S (some t) v = st.S := by
    funext u
    show (if u = t then some v else st.S u) = _
    by_cases e : u = t
    · subst e; rw [if_pos rfl, h]
    · rw [if_neg e]
  show (⟨putO st.S (some t) v, st.H, st.U⟩ : St) = st
  rw [this]
/-- Two cases of a truth value. -/
theorem rvc_case {l : List Oper} {st : St} {K : St → Prop} (t : Nat) (b : Bool) (ht : st.S t = some (.pv (.lit (.bool b)))) (h1 : b = true → rvc E cq n ops l (st.set t (.pv (.lit (.bool true)))) K) (h2 : b = false → rvc E cq n ops l (st.set t (.pv (.lit (.bool false)))) K) : rvc E cq n ops l st K := by
  cases hb : b
  · have := h2 hb; rw [hb] at ht; rwa [St.set_same ht] at this
  · have := h1 hb; rw [hb] at ht; rwa [St.set_same ht] at this
/-- An element of a slice that does not change. -/
theorem rexec_idxS (C : Cx E T n) {d : Option Nat} {t : TypeId} {x y : Operand} {ty : TypeId} {pos : String} {af : Array Edge} {g : Option (Nat × Bool)} {st : St} {K : St → Prop} {α : Type} {e : Enc α} {D : List α} {f : Option Bool} {k : IntKind} {z : Int} {r re : TyRow} {te : TypeId} (h1 : dstB n ⟨d, .indexAddr t x y, ty, pos, af, g⟩ = true)
    (h2 : evls st.S [x, y] = some [sS f e D, .pv (.lit (.int k z))]) (hr : T.lookup t = some r) (hd : r.desc = .slice te) (hre : T.lookup te = some re) (hs : re.size = e.sz) (a : α) (hz : 0 ≤ z) (ha : D[z.toNat]? = some a)
    (h7 : K (st.after d { v := .rp (e.enc a) })) (h8 : footB (clsOf cq ⟨d, .indexAddr t x y, ty, pos, af, g⟩) [] { v := .rp (e.enc a) } = true := by rfl) : rexec E cq n ⟨d, .indexAddr t x y, ty, pos, af, g⟩ st K := by
  have hlt : z.toNat < D.length := by
    rcases Nat.lt_or_ge z.toNat D.length with h' | h'
    · exact h'
    · rw [List.getElem?_eq_none h'] at ha; cases ha
  refine rexec_prim C (p := 0 ≤ z ∧ z < (D.length : Int)) (hs := []) (δ := { v := .rp (e.enc a) }) h1 rfl h2 ?_ ⟨hz, by omega⟩ rfl h7 h8
  have := encL_at (e := e) ha
  simp only [prim, hr, elemAV, hd, hre, sS, hs, this]
/-- A call that makes one row. -/
structure OCalls (P : Program) (f : FuncId) (avs : List AV) (av : AV) (k : Blk) : Prop where
  fn : ∃ fn, P.funcs[f]? = some fn ∧ (fn.name == "runtime.NumGoroutine") = false ∧ fn.body.isNone = false
  args : AV.withinL (fun _ => false) avs = true
  res : av.within (fun b => b == 0) = true
  blk : k.within (fun _ => false) = true
  calls : ACalls P f [] avs [] av [(0, k)]
mutual
theorem AV.within_at {d : Nat} : ∀ (x : AV), x.within (fun b => b == 0) = true → (x.ren fun _ => d).within (fun b => b == d) = true
  | .undef, _ | .pv _, _ | .tsl _ _, _ | .rp _, _ => rfl
  | .ptr b o, _ | .sl b _ _ _ _, _ | .slc b _ _ _ _, _ | .mp b, _ => by simp [AV.ren, AV.within]
  | .agg cs, h => by simp only [AV.within] at h; simp only [AV.ren, AV.within, AV.withinL_at cs h]
  | .tup cs, h => by simp only [AV.within] at h; simp only [AV.ren, AV.within, AV.withinL_at cs h]
  | .fn f xs ys, h => by simp only [AV.within, Bool.and_eq_true] at h; simp only [AV.ren, AV.within, AV.withinL_at xs h.1, AV.withinL_at ys h.2, Bool.and_self]
theorem AV.withinL_at {d : Nat} : ∀ (xs : List AV), AV.withinL (fun b => b == 0) xs = true → AV.withinL (fun b => b == d) (AV.renL (fun _ => d) xs) = true
  | [], _ => rfl
  | x :: xs, h => by simp only [AV.withinL, Bool.and_eq_true] at h; simp only [AV.renL, AV.withinL, AV.within_at x h.1, AV.withinL_at xs h.2, Bool.and_self]
end
mutual
theorem AV.ren_congr {U : Nat → Bool} {σ τ : Nat → Nat} (e : ∀ b, U b = true → σ b = τ b) : ∀ (x : AV), x.within U = true → x.ren σ = x.ren τ
  | .undef, _ | .pv _, _ | .tsl _ _, _ | .rp _, _ => rfl
  | .ptr b o, h | .sl b _ _ _ _, h | .slc b _ _ _ _, h | .mp b, h => by simp only [AV.within] at h; simp only [AV.ren, e b h]
  | .agg cs, h => by simp only [AV.within] at h; simp only [AV.ren, AV.renL_congr e cs h]
  | .tup cs, h => by simp only [AV.within] at h; simp only [AV.ren, AV.renL_congr e cs h]
  | .fn f xs ys, h => by simp only [AV.within, Bool.and_eq_true] at h; simp only [AV.ren, AV.renL_congr e xs h.1, AV.renL_congr e ys h.2]
theorem AV.renL_congr {U : Nat → Bool} {σ τ : Nat → Nat} (e : ∀ b, U b = true → σ b = τ b) : ∀ (xs : List AV), AV.withinL U xs = true → AV.renL σ xs = AV.renL τ xs
  | [], _ => rfl
  | x :: xs, h => by simp only [AV.withinL, Bool.and_eq_true] at h; simp only [AV.renL, AV.ren_congr e x h.1, AV.renL_congr e xs h.2]
end
theorem Blk.ren_none {σ : Nat → Nat} : ∀ {k : Blk}, k.within (fun _ => false) = true → k.ren σ = k
  | .cells cs, h => by simp only [Blk.within] at h; simp only [Blk.ren, AV.renL_none cs h]
  | .map es, h => by
    simp only [Blk.within] at h
    simp only [Blk.ren]
    congr 1
    induction es with
    | nil => rfl
    | cons y ys ih =>
      simp only [List.all_cons, Bool.and_eq_true] at h
      rw [List.map_cons, ih h.2, AV.ren_none _ h.1.1, AV.ren_none _ h.1.2]
  | .mapx es q, h => by
    simp only [Blk.within, dropB] at h
    simp only [Blk.ren]
    congr 1
    induction es with
    | nil => rfl
    | cons y ys ih =>
      simp only [List.map_cons, List.all_cons, Bool.and_eq_true] at h
      rw [List.map_cons, ih h.2, AV.ren_none _ h.1.1, AV.ren_none _ h.1.2]
  | .iter _ _ _ _, h => by simp [Blk.within] at h
  | .siter _ _, _ => rfl
theorem rexec_callO {P : Program} (hP : E.P = P) (C : Cx E T n) {f : FuncId} {avs : List AV} {av : AV} {k : Blk} {d : Nat} {c : Call} {ty : TypeId} {pos : String} {af : Array Edge} {g : Option (Nat × Bool)} {st : St} {K : St → Prop} (h1 : dstB n ⟨some d, .call c, ty, pos, af, g⟩ = true) (hU : st.U d = false) (hc : c.callee = .value (.func f)) (hv : evls st.S c.args.toList = some avs)
    (F : OCalls P f avs av k) (h7 : K (st.after (some d) { v := av.ren fun _ => d, new := [(d, k)] })) (hcl : clsOf cq ⟨some d, .call c, ty, pos, af, g⟩ ≠ .pure := by decide) (hft : footB (clsOf cq ⟨some d, .call c, ty, pos, af, g⟩) [] { v := av.ren fun _ => d, new := [(d, k)] } = true := by rfl) : rexec E cq n ⟨some d, .call c, ty, pos, af, g⟩ st K := by
  subst hP
  obtain ⟨fn, q1, q2, q3⟩ := F.fn
  have hd : ∀ x, some d = some x → x < E.n := fun x e => by
    simp only [dstB, decide_eq_true_eq] at h1
    simp only [Option.some.injEq] at e
    subst e
    exact C.n ▸ h1
  have kn : ∀ b, Names.knows ⟨fun b => b, [(d, 0)]⟩ [] b = (b == 0) := fun b => by
    simp [Names.knows, inI, BEq.comm]
  have kn' : Names.knows ⟨fun b => b, [(d, 0)]⟩ [] = fun b => b == 0 := funext kn
  have ok : CallOk ⟨fun b => b, [(d, 0)]⟩ [] avs [] [(0, k)] av := by
    refine { args := F.args, ids := ?_, blks := ?_, nodup := by simp, inj := ?_, nodupL := by simp, nodupR := by simp, fresh := ?_, res := ?_, res' := ?_, kept := ?_, all := ?_, used := ?_ }
    · intro x hx; cases hx
    · intro x hx; cases hx
    · intro b c hb; cases hb
    · intro x _; rfl
    · rw [kn']; exact F.res
    · intro x hx
      simp only [List.mem_singleton] at hx
      subst hx
      rw [kn']
      exact ⟨rfl, Blk.within_mono (fun b hb => by cases hb) k F.blk⟩
    · intro x _ hx; cases hx
    · intro x hx
      simp only [List.mem_singleton] at hx
      subst hx; rfl
    · intro b hb; cases hb
  have hdo := does_call (E := E) (o := ⟨some d, .call c, ty, pos, af, g⟩) (c := c) rfl hc hd q1 q2 q3 F.calls ok (args := avs) (caps := []) (by rw [AV.renL_none avs F.args]; simp)
  have hτ : Names.τ ⟨fun b => b, [(d, 0)]⟩ [] 0 = d := by simp [Names.τ, inI]
  have hav : av.ren (Names.τ ⟨fun b => b, [(d, 0)]⟩ []) = av.ren fun _ => d := by
    refine AV.ren_congr (U := fun b => b == 0) (fun b hb => ?_) av F.res
    have : b = 0 := by simpa using hb
    subst this; exact hτ
  have hk : k.ren (Names.τ ⟨fun b => b, [(d, 0)]⟩ []) = k := Blk.ren_none F.blk
  have he : Names.delta ⟨fun b => b, [(d, 0)]⟩ [] [] [(0, k)] av = { v := av.ren fun _ => d, new := [(d, k)] } := by
    simp only [Names.delta, List.map_nil, List.map_cons, hav]
    have : (heapOf [(0, k)] 0).getD (.cells []) = k := rfl
    rw [this, hk]
  rw [he] at hdo
  have hops : (Op.operands (.call c)).toList = .func f :: c.args.toList := by simp [Op.operands, Call.operands, hc]
  refine ⟨h1, .fn f [] [] :: avs, [], _, { vals := ?_, deps := ?_, fresh := ?_, does := hdo, reach := ?_, inV := ?_, inN := ?_, inW := ?_, wr := ?_, pure := fun h => absurd h hcl, quiet := fun _ => rfl, foot := hft }, h7⟩
  · show evls st.S (Op.operands (.call c)).toList = _
    rw [hops]; simp only [evls, evl, hv]
  · intro x hx; cases hx
  · intro x hx; simp only [List.mem_singleton] at hx; subst hx; exact hU
  · rfl
  · refine AV.within_mono (U := fun b => b == d) (fun b hb => ?_) _ (AV.within_at _ F.res)
    have : b = d := by simpa using hb
    subst this; simp
  · intro x hx
    simp only [List.mem_singleton] at hx
    subst hx
    exact Blk.within_mono (fun b hb => by cases hb) k F.blk
  · intro x hx; cases hx
  · intro x hx; cases hx
/-- A loop over a count or a list: at its head one of a family of states, by how many rounds were made. -/
theorem Awp.forR {c : Code} {st : St} {Q : Exit → St → Prop} {σ : Type} (N : Nat) (S : Nat → σ → List (Nat × AV)) (H : Nat → σ → List (Nat × Blk)) (U : List Nat) (J : Nat → σ → Prop) (x0 : σ) (h0 : J 0 x0) (hw : ∃ τ, WeakerR st τ (S 0 x0) (H 0 x0) U E.I)
    (round : ∀ i x, i ≤ N → J i x → Awp E c (mkSt (S i x) (H i x) U) fun e st' => match e with | .normal => i < N ∧ ∃ y, J (i + 1) y ∧ ∃ τ, WeakerR st' τ (S (i + 1) y) (H (i + 1) y) U E.I | e => Q e st') : Awp E (.loop c) st Q := by
  intro a w hat
  obtain ⟨τ0, hw⟩ := hw
  refine wp_loop_ghost (fun m a w => ∃ i x, i ≤ N ∧ J i x ∧ m = N - i ∧ At E (mkSt (S i x) (H i x) U) a w) N ⟨0, x0, Nat.zero_le _, h0, rfl, hat.weakenR hw⟩ fun m a w ⟨i, x, hi, hJ, hm, hat⟩ => ?_
  refine wp_mono (round i x hi hJ a w hat) ?_
  rintro e a' w' ⟨st', h1, h2⟩
  cases e <;> simp only [Exit.then]
  case normal =>
    obtain ⟨h3, y, h4, τ, h5⟩ := h1
    exact ⟨N - (i + 1), by omega, i + 1, y, by omega, h4, rfl, h2.weakenR h5⟩
  all_goals exact ⟨st', h1, h2⟩
/-- A loop by a measure. -/
theorem Awp.forM {c : Code} {st : St} {Q : Exit → St → Prop} {σ : Type} (S : σ → List (Nat × AV)) (H : σ → List (Nat × Blk)) (U : List Nat) (J : Nat → σ → Prop) (m0 : Nat) (x0 : σ) (h0 : J m0 x0) (hw : ∃ τ, WeakerR st τ (S x0) (H x0) U E.I)
    (round : ∀ m x, J m x → Awp E c (mkSt (S x) (H x) U) fun e st' => match e with | .normal => ∃ m' y, m' < m ∧ J m' y ∧ ∃ τ, WeakerR st' τ (S y) (H y) U E.I | e => Q e st') : Awp E (.loop c) st Q := by
  intro a w hat
  obtain ⟨τ0, hw⟩ := hw
  refine wp_loop_ghost (fun m a w => ∃ x, J m x ∧ At E (mkSt (S x) (H x) U) a w) m0 ⟨x0, h0, hat.weakenR hw⟩ fun m a w ⟨x, hJ, hat⟩ => ?_
  refine wp_mono (round m x hJ a w hat) ?_
  rintro e a' w' ⟨st', h1, h2⟩
  cases e <;> simp only [Exit.then]
  case normal =>
    obtain ⟨m', y, h3, h4, τ, h5⟩ := h1
    exact ⟨m', h3, y, h4, h2.weakenR h5⟩
  all_goals exact ⟨st', h1, h2⟩
end steps
end Go.Am
namespace Go.Am
section ops
variable {E : Env} {T : Tab}
/-- An append of elements to nil: a new row. -/
theorem does_append_nil (hT : TabOk E.P T) {o : Oper} {c : Call} {t t2 : TypeId} (ho : o.op = .call c) (hc : c.callee = .builtin .append) (hty : c.argTypes = #[t, t2]) {d : Nat} (hdst : o.dst = some d) (hd : d < E.n) {r re r2 : TyRow} (hr : T.lookup t = some r) {e : TypeId} (hdesc : r.desc = .slice e) (hre : T.lookup e = some re) (hr2 : T.lookup t2 = some r2) (hd2 : ∀ k, r2.desc ≠ .int k)
    {f : Option Bool} {m : Nat} {ps : List PV} (hm : 0 < m) (hln : ps.length = m * re.size)
    (hb : (2 * m + 192) * re.bytes ≤ 281474976710656) (hnm : m ≤ 9223372036854775807) (hzs : re.zero.cells.size = re.size) :
    Does E o [.pv (.sl (some true) 0 []), .pv (.sl f m ps)] [] { v := .sl d 0 m re.size false, new := [(d, .cells (ps.map .pv))] } := by
  intro ι imm st a w Q hs hv _ hf
  have hUd : st.U d = false := hf (d, _) (List.mem_cons_self ..)
  have hvs := hs.evls hv
  have hops : o.op.operands.toList = c.args.toList := by rw [ho]; simp [Op.operands, Call.operands, hc]
  rw [hops] at hvs
  obtain ⟨v1, us1, he, hv1, hvs⟩ := hvs
  obtain ⟨v2, us2, he2, hv2, hvs⟩ := hvs
  simp only [VHs] at hvs
  subst hvs
  subst he2
  have hargs : c.args.map a.eval = #[v1, v2] := by apply Array.ext'; simpa using he
  simp only [VH, PH] at hv1
  obtain ⟨A, cap, rfl, _, hnil, _, hz0, _⟩ := hv1
  have hA : A = none := hnil trivial
  subst hA
  obtain ⟨_, rfl, _⟩ := hz0 rfl
  obtain ⟨vsN, g1, g2, g3⟩ := run_src (H := st.H) (y := .pv (.sl f m ps)) (sz := re.size) (m := m) (hd := []) (cs := ps.map .pv) hs rfl (fun x hx => by cases hx) (by simpa using hln) hv2
  have hlN := g2.length
  have hnew : ∀ w' : World, (∀ x, w'.cell? x = w.cell? x) → (Builtin.firstCells re.size m v2).run E.P w' = .ok (List.toArray vsN) w' := fun w' hw' => by
    have := g3 m (Nat.le_refl _) w' hw'
    rwa [List.take_of_length_le (by rw [hlN]; simp [hln])] at this
  have hold : ∀ w' : World, (∀ x, w'.cell? x = w.cell? x) → (Builtin.firstCells re.size 0 (.slice none 0 0)).run E.P w' = .ok (List.toArray []) w' := fun w' _ => by
    simp [Builtin.firstCells]
  obtain ⟨_, grown⟩ := run_append hT hr hdesc hre hr2 hd2 (ty := o.type) (t := t) (n := 0) (cap := 0) (base := none) g1 hnew hold (by simpa using hb) (by simpa using hnm)
  have hexec : ∀ {u w'}, (Builtin.append_ #[t, t2] o.type #[.slice none 0 0, v2]).run E.P w = .ok u w' → (execOp a.eval o).run E.P w = .ok (.value u) w' := fun {u w'} h => by
    simp only [execOp, ho, resolve, hc, run_bind', run_pure', invoke, builtin, hargs, hty, h]
  unfold Oper.wp
  have hdd : ∀ x, o.dst = some x → x < E.n := fun x hx => by rw [hdst] at hx; exact Option.some.inj hx ▸ hd
  obtain ⟨w1, nc, rest, hrun, hnc, ⟨e1, e2, e3, e4, e5⟩, hrest⟩ := grown (by omega)
  rw [hexec hrun, Oper.upon_value]
  have gw : Grows ι ι imm imm w w1 := ⟨fun _ _ h => h, ⟨fun _ h => h, fun k _ => by rw [e1]⟩, fun r' c1 e1' f1 hr' => ⟨c1, f1, by rw [e1]; exact hr', rfl⟩⟩
  have hs1 : SR E ι imm ⟨st.S, st.H, st.U⟩ a w1 := hs.turn gw e2 e3 e4 e5 (by rw [e1]; exact Nat.le_refl _) (fun k _ _ => by rw [e1]) ⟨fun b' k' hb' => by
    obtain ⟨r', z', p1, p2, p3, p4⟩ := hs.heap.blk b' k' hb'
    exact ⟨r', z', p1, p2, p3, p4.grows gw (by rw [e1])⟩, hs.heap.inj⟩ hs.used (fun _ hk => .inl hk) (fun k hk => by rw [e1]; exact hs.immlt k hk)
  have hNew : NewH ι imm w1 (Obj.cells ([] ++ vsN ++ rest).toArray e) (.cells (ps.map .pv)) := by
    refine ⟨_, _, rfl, ?_, CellsH.of_VHs (vs := vsN) (VHs.grows gw _ _ g2) fun i hi => ?_⟩
    · simp only [List.length_append, List.size_toArray, hlN, List.length_nil]; omega
    · rw [Nat.zero_add, List.getElem?_toArray, List.nil_append, List.getElem?_append_left hi]
  obtain ⟨ι', i1, i2, i3⟩ := hs1.new hUd hNew (.sl d 0 m re.size false)
  refine ⟨ι', imm, ?_⟩
  have hheap : (World.push w1 (Obj.cells ([] ++ vsN ++ rest).toArray e)).heap[w1.heap.size]? = some (Obj.cells ([] ++ vsN ++ rest).toArray e) := by
    show (w1.heap.push _)[_]? = _
    rw [Array.getElem?_push, if_pos rfl]
  have hln' : vsN.length = m * re.size := by rw [hlN]; simp [hln]
  have hfin := i3.put o.dst hdd (v := .sl d 0 m re.size false) (u := .slice (some ⟨w.heap.size, 0, none⟩) (0 + m) nc) ⟨w1.heap.size, 0, nc, i1, by rw [e1]; simp, by omega, (fun h => (by cases h)), _, _, _, hheap, by
    simp only [List.size_toArray, List.length_append, List.length_nil, hln', hrest, hzs]
    have : nc = 0 + m + (nc - (0 + m)) := by omega
    rw [this, Nat.add_mul, Nat.add_mul]
    have : 0 + m + (nc - (0 + m)) - (0 + m) = nc - (0 + m) := by omega
    rw [this]; omega⟩
  exact hfin
end ops
section steps
variable {E : Env} {T : Tab} {cq : Oper → Cls} {n : Nat} {ops : Array Oper}
theorem rexec_appendN (C : Cx E T n) {d : Nat} {c : Call} {t t2 : TypeId} {ty : TypeId} {pos : String} {af : Array Edge} {g : Option (Nat × Bool)} {st : St} {K : St → Prop} (hc : c.callee = .builtin .append) (hty : c.argTypes = #[t, t2]) (h1 : dstB n ⟨some d, .call c, ty, pos, af, g⟩ = true) (hU : st.U d = false)
    {r re r2 : TyRow} (hr : T.lookup t = some r) {e : TypeId} (hdesc : r.desc = .slice e) (hre : T.lookup e = some re) (hr2 : T.lookup t2 = some r2) (hd2 : ∀ k, r2.desc ≠ .int k) (hzs : re.zero.cells.size = re.size)
    {α : Type} {en : Enc α} {f : Option Bool} {D : List α} (hs : re.size = en.sz) (hv : evls st.S c.args.toList = some [.pv (.sl (some true) 0 []), sS f en D]) (hm : 0 < D.length)
    (hbig : (2 * D.length + 192) * re.bytes ≤ 281474976710656) (hpos : 0 < re.bytes) {nn : Nat} (hnn : nn = D.length)
    (h7 : K (st.after (some d) { v := .sl d 0 nn re.size false, new := [(d, .cells (encC en D))] })) (hcl : clsOf cq ⟨some d, .call c, ty, pos, af, g⟩ ≠ .pure ∧ clsOf cq ⟨some d, .call c, ty, pos, af, g⟩ ≠ .quiet ∧ footB (clsOf cq ⟨some d, .call c, ty, pos, af, g⟩) [] { v := .sl d 0 nn re.size false, new := [(d, .cells (encC en D))] } = true := by exact ⟨by decide, by decide, rfl⟩) :
    rexec E cq n ⟨some d, .call c, ty, pos, af, g⟩ st K := by
  subst hnn
  have hd : d < E.n := by
    simp only [dstB, decide_eq_true_eq] at h1
    exact C.n ▸ h1
  have hdo := does_append_nil C.tab (o := ⟨some d, .call c, ty, pos, af, g⟩) rfl hc hty rfl hd hr hdesc hre hr2 hd2 (f := f) (ps := encL en D) hm (by rw [encL_len, hs]) hbig (by
    have : 2 * D.length + 192 ≤ (2 * D.length + 192) * re.bytes := Nat.le_mul_of_pos_right _ hpos
    omega) hzs
  have hops : (Op.operands (.call c)).toList = c.args.toList := by simp [Op.operands, Call.operands, hc]
  refine ⟨h1, _, _, _, { vals := ?_, deps := ?_, fresh := ?_, does := hdo, reach := rfl, inV := ?_, inN := ?_, inW := ?_, wr := ?_, pure := fun h => ?_, quiet := fun h => ?_, foot := hcl.2.2 }, h7⟩
  · show evls st.S (Op.operands (.call c)).toList = _
    rw [hops]; exact hv
  · intro x hx; cases hx
  · intro x hx; simp only [List.mem_singleton] at hx; subst hx; exact hU
  · simp [AV.within]
  · intro x hx; simp only [List.mem_singleton] at hx; subst hx; exact within_pvs _ _
  · intro x hx; cases hx
  · intro x hx; cases hx
  · exact absurd h hcl.1
  · rfl
theorem rexec_append (C : Cx E T n) {d : Nat} {c : Call} {t t2 : TypeId} {ty : TypeId} {pos : String} {af : Array Edge} {g : Option (Nat × Bool)} {st : St} {K : St → Prop} (hc : c.callee = .builtin .append) (hty : c.argTypes = #[t, t2]) (h1 : dstB n ⟨some d, .call c, ty, pos, af, g⟩ = true) (hU : st.U d = false)
    {r re r2 : TyRow} (hr : T.lookup t = some r) {e : TypeId} (hdesc : r.desc = .slice e) (hre : T.lookup e = some re) (hr2 : T.lookup t2 = some r2) (hd2 : ∀ k, r2.desc ≠ .int k) (hzs : re.zero.cells.size = re.size)
    {b l : Nat} {tt : Bool} {α : Type} {en : Enc α} {f : Option Bool} {D0 D : List α} (hs : re.size = en.sz) (hv : evls st.S c.args.toList = some [.sl b 0 l en.sz tt, sS f en D]) (hb : st.H b = some (.cells (encC en D0))) (hl : l = D0.length)
    (hbig : (2 * (D0.length + D.length) + 192) * re.bytes ≤ 281474976710656) (hpos : 0 < re.bytes) {nn : Nat} (hnn : nn = D0.length + D.length)
    (h7 : K (st.after (some d) { v := .sl d 0 nn en.sz false, new := [(d, .cells (encC en (D0 ++ D)))], wr := [(b, none)] })) (hcl : clsOf cq ⟨some d, .call c, ty, pos, af, g⟩ ≠ .pure ∧ clsOf cq ⟨some d, .call c, ty, pos, af, g⟩ ≠ .quiet ∧ footB (clsOf cq ⟨some d, .call c, ty, pos, af, g⟩) [(b, .cells (encC en D0))] { v := .sl d 0 nn en.sz false, new := [(d, .cells (encC en (D0 ++ D)))], wr := [(b, none)] } = true := by exact ⟨by decide, by decide, rfl⟩) :
    rexec E cq n ⟨some d, .call c, ty, pos, af, g⟩ st K := by
  subst hl hnn
  have hnm : D0.length + D.length ≤ 9223372036854775807 := by
    have : 2 * (D0.length + D.length) + 192 ≤ (2 * (D0.length + D.length) + 192) * re.bytes := Nat.le_mul_of_pos_right _ hpos
    omega
  rw [← hs] at hv
  have hd : d < E.n := by
    simp only [dstB, decide_eq_true_eq] at h1
    exact C.n ▸ h1
  have hlen := encC_len (e := en) D0
  have hdo := does_append_own C.tab (o := ⟨some d, .call c, ty, pos, af, g⟩) rfl hc hty rfl hd hr hdesc hre hr2 hd2 (b := b) (k := 0) (n := D0.length) (tt := tt) (cs := encC en D0) (y := sS f en D) (H := st.H) (m := D.length) (hs2 := []) (new := encC en D) rfl (by rw [encC_len, hs]) (by rw [hlen, hs]; omega) (pv_flat _) hbig hnm hzs
  have hcat : ((encC en D0).drop 0).take (D0.length * re.size) ++ encC en D = encC en (D0 ++ D) := by
    rw [List.drop_zero, hs, ← hlen, List.take_length, encC_append]
  rw [hcat, hs] at hdo
  rw [hs] at hv
  have hops : (Op.operands (.call c)).toList = c.args.toList := by simp [Op.operands, Call.operands, hc]
  refine ⟨h1, _, _, _, { vals := ?_, deps := ?_, fresh := ?_, does := hdo, reach := ?_, inV := ?_, inN := ?_, inW := ?_, wr := ?_, pure := fun h => ?_, quiet := fun h => ?_, foot := hcl.2.2 }, h7⟩
  · show evls st.S (Op.operands (.call c)).toList = _
    rw [hops]; exact hv
  · intro x hx; simp only [List.mem_singleton] at hx; subst hx; exact hb
  · intro x hx; simp only [List.mem_singleton] at hx; subst hx; exact hU
  · exact reach_ptr fun U => .inl rfl
  · simp [AV.within]
  · intro x hx; simp only [List.mem_singleton] at hx; subst hx; exact within_pvs _ _
  · intro x hx k' hk
    simp only [List.mem_singleton] at hx
    subst hx
    cases hk
  · intro x hx
    simp only [List.mem_singleton] at hx
    subst hx
    simp [refs, sS, AV.withinL, AV.within]
  · exact absurd h hcl.1
  · exact absurd h hcl.2.1
theorem rexec_eqNil (C : Cx E T n) {d : Option Nat} {t t' : TypeId} {x y : Operand} {ty : TypeId} {pos : String} {af : Array Edge} {g : Option (Nat × Bool)} {st : St} {K : St → Prop} {f : Bool} {m : Nat} {ps : List PV} {r : TyRow} {e : TypeId} (h1 : dstB n ⟨d, .binOp .eql t x y t', ty, pos, af, g⟩ = true)
    (h2 : evls st.S [x, y] = some [.pv (.sl (some f) m ps), .pv (.sl (some true) 0 [])]) (hr : T.lookup t = some r) (hd : r.desc = .slice e) (h7 : K (st.after d { v := .pv (.lit (.bool f)) })) (h8 : footB (clsOf cq ⟨d, .binOp .eql t x y t', ty, pos, af, g⟩) [] { v := .pv (.lit (.bool f)) } = true := by rfl) : rexec E cq n ⟨d, .binOp .eql t x y t', ty, pos, af, g⟩ st K := by
  refine rexec_prim C (p := True) (hs := []) (δ := { v := .pv (.lit (.bool f)) }) h1 rfl h2 ?_ trivial rfl h7 h8
  cases f <;> simp [prim, primBin, hr, hd, binAV, eqAgg, eqNil, nilS, opB]
def Frz0 (b : Nat) (ps : List PV) (x y : AV) : Prop := x = y ∨ ∃ m s tt, x = .sl b 0 m s tt ∧ y = .pv (.sl (some false) m ps)
def FrzL (b : Nat) (ps : List PV) : List AV → List AV → Prop
  | [], [] => True
  | x :: xs, y :: ys => Frz0 b ps x y ∧ FrzL b ps xs ys
  | _, _ => False
def Frz (b : Nat) (ps : List PV) (x y : AV) : Prop := Frz0 b ps x y ∨ ∃ cs cs', x = .agg cs ∧ y = .agg cs' ∧ FrzL b ps cs cs'
def FrzS (st : St) (b : Nat) (ps : List PV) : List (Nat × AV) → Prop
  | [] => True
  | x :: xs => (∃ u, st.S x.1 = some u ∧ Frz b ps u x.2) ∧ FrzS st b ps xs
def FrzH (st : St) (b : Nat) (ps : List PV) : List (Nat × Blk) → Prop
  | [] => True
  | x :: xs => (x.1 ≠ b ∧ ((st.H x.1 = some x.2) ∨ ∃ cs cs', st.H x.1 = some (.cells cs) ∧ x.2 = .cells cs' ∧ FrzL b ps cs cs')) ∧ FrzH st b ps xs
theorem FrzS.mem {st : St} {b : Nat} {ps : List PV} : ∀ {l : List (Nat × AV)}, FrzS st b ps l → ∀ x ∈ l, ∃ u, st.S x.1 = some u ∧ Frz b ps u x.2
  | [], _, x, hx => by cases hx
  | y :: ys, h, x, hx => by
    cases hx with
    | head => exact h.1
    | tail _ hm => exact FrzS.mem h.2 x hm
theorem FrzH.mem {st : St} {b : Nat} {ps : List PV} : ∀ {l : List (Nat × Blk)}, FrzH st b ps l → ∀ x ∈ l, x.1 ≠ b ∧ ((st.H x.1 = some x.2) ∨ ∃ cs cs', st.H x.1 = some (.cells cs) ∧ x.2 = .cells cs' ∧ FrzL b ps cs cs')
  | [], _, x, hx => by cases hx
  | y :: ys, h, x, hx => by
    cases hx with
    | head => exact h.1
    | tail _ hm => exact FrzH.mem h.2 x hm
theorem FrzL.length {b : Nat} {ps : List PV} : ∀ {xs ys : List AV}, FrzL b ps xs ys → ys.length = xs.length
  | [], [], _ => rfl
  | x :: xs, y :: ys, h => by simp [FrzL.length h.2]
  | [], _ :: _, h => h.elim
  | _ :: _, [], h => h.elim
theorem FrzL.vhs {b : Nat} {ps : List PV} {ι : Nat → Option (Nat × Nat)} {imm' : Nat → Prop} {w : World} (h0 : ∀ x y v, Frz0 b ps x y → VH ι imm' w x v → VH ι imm' w y v) : ∀ {xs ys : List AV} {vs : List Value}, FrzL b ps xs ys → VHs ι imm' w xs vs → VHs ι imm' w ys vs
  | [], [], _, _, h => h
  | x :: xs, y :: ys, vs, h, hv => by
    obtain ⟨v, us, rfl, q1, q2⟩ := hv
    exact ⟨v, us, rfl, h0 _ _ _ h.1 q1, FrzL.vhs h0 h.2 q2⟩
  | [], _ :: _, _, h, _ => h.elim
  | _ :: _, [], _, h, _ => h.elim
theorem FrzL.cells {b : Nat} {ps : List PV} {ι : Nat → Option (Nat × Nat)} {imm' : Nat → Prop} {w : World} {c : Array Value} (h0 : ∀ x y v, Frz0 b ps x y → VH ι imm' w x v → VH ι imm' w y v) : ∀ {xs ys : List AV} {o : Nat}, FrzL b ps xs ys → CellsH ι imm' w c xs o → CellsH ι imm' w c ys o
  | [], [], _, _, h => h
  | x :: xs, y :: ys, o, h, hv => by
    obtain ⟨⟨v, q1, q2⟩, q3⟩ := hv
    exact ⟨⟨v, q1, h0 _ _ _ h.1 q2⟩, FrzL.cells h0 h.2 q3⟩
  | [], _ :: _, _, h, _ => h.elim
  | _ :: _, [], _, h, _ => h.elim
theorem At.freezeW {st : St} {a : Act} {w : World} (h : At E st a w) (b : Nat) (ps : List PV) (hb : st.H b = some (.cells (ps.map .pv))) (S' : List (Nat × AV)) (H' : List (Nat × Blk)) (hS : FrzS st b ps S') (hH : FrzH st b ps H') : At E ⟨fun t => S'.lookup t, fun x => H'.lookup x, st.U⟩ a w := by
  obtain ⟨ι, imm, h⟩ := h
  obtain ⟨r, z, q1, q2, q3, c, e, f, q4, q5, q6, q7⟩ := h.heap.blk b _ hb
  have hlt : r < w.heap.size := by
    rcases Nat.lt_or_ge r w.heap.size with h' | h'
    · exact h'
    · rw [Array.getElem?_eq_none h'] at q4; cases q4
  let imm' : Nat → Prop := fun k => imm k ∨ k = r
  have g : Grows ι ι imm imm' w w := ⟨fun _ _ h => h, ⟨fun _ hk => .inl hk, fun _ _ => rfl⟩, fun r c e f hr => ⟨c, f, hr, rfl⟩⟩
  have h0 : ∀ x y v, Frz0 b ps x y → VH ι imm' w x v → VH ι imm' w y v := fun x y v hxy hv => by
    rcases hxy with rfl | ⟨m, s, tt, rfl, rfl⟩
    · exact hv
    · simp only [VH] at hv
      obtain ⟨r', z', cap, i1, rfl, i3, _⟩ := hv
      rw [q1] at i1
      simp only [Option.some.injEq, Prod.mk.injEq] at i1
      obtain ⟨rfl, rfl⟩ := i1
      simp only [VH, PH]
      refine ⟨_, cap, rfl, i3, fun h => (by simp at h), fun _ h => (by simp at h), fun h => (by simp at h), fun A hA _ => ?_⟩
      simp only [Option.some.injEq] at hA
      subst hA
      exact ⟨rfl, .inr rfl, PHs.of_cells (i := imm) (ι := ι) (w := w) ⟨fun _ hk => .inl hk, fun _ _ => rfl⟩ (fun o => cell_of_heap q4 o) q7⟩
  have hHm : ∀ x k, H'.lookup x = some k → x ≠ b ∧ ∃ k0, st.H x = some k0 ∧ (k0 = k ∨ ∃ cs cs', k0 = .cells cs ∧ k = .cells cs' ∧ FrzL b ps cs cs') := fun x k hk => by
    obtain ⟨n1, n2⟩ := hH.mem _ (lookup_mem (l := H') hk)
    refine ⟨n1, ?_⟩
    rcases n2 with n2 | ⟨cs, cs', p1, p2, p3⟩
    · exact ⟨k, n2, .inl rfl⟩
    · exact ⟨_, p1, .inr ⟨cs, cs', rfl, p2, p3⟩⟩
  refine ⟨ι, imm', h.defers, h.size, fun t v hv => ?_, ⟨fun x k hx => ?_, fun x x' k k' r z z' hx hx' => ?_⟩, fun x y hx => h.used x y hx, h.grow.trans g, h.ext, fun k hk => ?_, fun k hk => ?_⟩
  · obtain ⟨u, hu, hf⟩ := hS.mem _ (lookup_mem (l := S') hv)
    have hu' := VH.grows g u _ (h.slot t u hu)
    rcases hf with hf | ⟨cs, cs', rfl, e2, hf⟩
    · exact h0 _ _ _ hf hu'
    · simp only at e2
      subst e2
      simp only [VH] at hu' ⊢
      obtain ⟨vs, p1, p2⟩ := hu'
      exact ⟨vs, p1, FrzL.vhs h0 hf p2⟩
  · obtain ⟨hne, k0, hx0, hk⟩ := hHm x k hx
    obtain ⟨r', z', p1, p2, p3, p4⟩ := h.heap.blk x k0 hx0
    refine ⟨r', z', p1, fun hi => hi.elim p2 fun e => ?_, p3, ?_⟩
    · subst e
      exact hne (h.heap.inj x b k0 _ r' z' z hx0 hb p1 q1)
    · have p4' := BlkH.grows g rfl p4
      rcases hk with rfl | ⟨cs, cs', rfl, rfl, hf⟩
      · exact p4'
      · obtain ⟨c1, e1, f1, s1, s2, s3, s4⟩ := p4'
        exact ⟨c1, e1, f1, s1, by rw [hf.length]; exact s2, s3, FrzL.cells h0 hf s4⟩
  · obtain ⟨_, k0, hx0, _⟩ := hHm x k hx
    obtain ⟨_, k1, hx1, _⟩ := hHm x' k' hx'
    exact h.heap.inj x x' k0 k1 r z z' hx0 hx1
  · rcases hk with hk | rfl
    · exact h.immM k hk
    · exact .inr q3
  · rcases hk with hk | rfl
    · exact h.immlt k hk
    · exact hlt
/-- A row of one's own does not change from here on. -/
theorem Awp.freezeW {c : Code} {st : St} {Q : Exit → St → Prop} (b : Nat) (ps : List PV) (hb : st.H b = some (.cells (ps.map .pv))) (S' : List (Nat × AV)) (H' : List (Nat × Blk)) (hS : FrzS st b ps S') (hH : FrzH st b ps H') (h : Awp E c ⟨fun t => S'.lookup t, fun x => H'.lookup x, st.U⟩ Q) : Awp E c st Q :=
  fun a w hat => h a w (hat.freezeW b ps hb S' H' hS hH)
end steps
end Go.Am
namespace Go.Am
section steps
variable {E : Env} {T : Tab} {cq : Oper → Cls} {n : Nat} {ops : Array Oper}
/-- An operation whose outcome is told in other words. -/
theorem rexec_primv (C : Cx E T n) {d : Option Nat} {op : Op} {ty : TypeId} {pos : String} {af : Array Edge} {g : Option (Nat × Bool)} {st : St} {K : St → Prop} {xs : List Operand} {vs : List AV} {p : Prop} {hs : List (Nat × Blk)} {δ : Delta} (δ' : Delta) (h1 : dstB n ⟨d, op, ty, pos, af, g⟩ = true)
    (hx : op.operands.toList = xs) (h2 : evls st.S xs = some vs) (h4 : prim T ⟨d, op, ty, pos, af, g⟩ vs st.H = some (p, hs, δ)) (h5 : p) (hv : δ = δ') (h6 : freshB st.U δ' = true) (h7 : K (st.after d δ')) (h8 : footB (clsOf cq ⟨d, op, ty, pos, af, g⟩) hs δ' = true := by rfl) :
    rexec E cq n ⟨d, op, ty, pos, af, g⟩ st K := by
  subst hv
  exact rexec_prim C h1 hx h2 h4 h5 h6 h7 h8
/-- A literal row that will not change. -/
theorem rexec_buildSliceF (C : Cx E T n) {d : Option Nat} {t : TypeId} {l : Nat} {parts : Array (Nat × Operand)} {ty : TypeId} {pos : String} {af : Array Edge} {g : Option (Nat × Bool)} {st : St} {K : St → Prop} {r re : TyRow} {te : TypeId} {us : List AV} {α : Type} (e : Enc α) (D : List α) (h1 : dstB n ⟨d, .buildSlice t l parts, ty, pos, af, g⟩ = true)
    (h2 : evls st.S (parts.toList.map (·.2)) = some us) (hr : T.lookup t = some r) (hdesc : r.desc = .slice te) (hre : T.lookup te = some re) (hl : l = D.length) (hs : re.size = e.sz) (hbig : l * re.size ≤ 16777216) (hz : fillAV (fun i => some (i * re.size, re.size)) (zeroAV re.zero.cells (l * re.size)) (parts.toList.zipWith (fun p u => (p.1, u)) us) = some (encC e D))
    (h7 : K (st.after d { v := sS (some false) e D })) : rexec E cq n ⟨d, .buildSlice t l parts, ty, pos, af, g⟩ st K := by
  have hd : ∀ x, d = some x → x < E.n := fun x e => by
    simp only [dstB, e, decide_eq_true_eq] at h1
    exact C.n ▸ h1
  have hlen : (encL e D).length = l * re.size := by rw [encL_len, hl, hs]
  have hm := makes_buildSlice C.tab (E := E) (o := ⟨d, .buildSlice t l parts, ty, pos, af, g⟩) (n := l) (parts := parts) rfl hr hdesc hre hbig hz (by rw [encC_len, hl, hs])
  have hD : sS (some false) e D = .pv (.sl (some false) l (encL e D)) := by rw [hl]; rfl
  rw [hD] at h7
  refine ⟨h1, _, _, _, Move.of_frozen (hm.frozen hd) ?_ _, h7⟩
  simpa [Op.operands] using h2
theorem encC_dropAt {α : Type} {e : Enc α} {D : List α} {i off : Nat} {a : α} (ha : D[i]? = some a) (ho : off ≤ e.sz) : (encC e D).drop (i * e.sz + off) = ((e.enc a).map .pv).drop off ++ encC e (D.drop (i + 1)) := by
  have h1 : (encC e D).drop (i * e.sz) = (e.enc a).map .pv ++ encC e (D.drop (i + 1)) := by
    simp only [encC, ← List.map_drop]
    rw [encL_drop, drop_at ha]
    simp [encL]
  rw [← List.drop_drop, h1, List.drop_append_of_le_length (by simp [e.len, ho])]
/-- An element, or a part of one, out of a row of one's own. -/
theorem rexec_loadE (C : Cx E T n) {d : Option Nat} {t : TypeId} {x : Operand} {ty : TypeId} {pos : String} {af : Array Edge} {g : Option (Nat × Bool)} {st : St} {K : St → Prop} {b k : Nat} {r : TyRow} {α : Type} {e : Enc α} {D : List α} (i off : Nat) (a : α) (v : AV) (h1 : dstB n ⟨d, .load t x, ty, pos, af, g⟩ = true)
    (h2 : evl st.S x = some (.ptr b k)) (h3 : st.H b = some (.cells (encC e D))) (hr : T.lookup t = some r) (ha : D[i]? = some a) (hk : k = i * e.sz + off) (ho : off + r.size ≤ e.sz) (hz : 0 < r.size) (hv : readAV r (((e.enc a).map .pv).drop off) = some v)
    (h7 : K (st.after d { v := v })) (h8 : footB (clsOf cq ⟨d, .load t x, ty, pos, af, g⟩) [(b, .cells (encC e D))] { v := v } = true := by rfl) : rexec E cq n ⟨d, .load t x, ty, pos, af, g⟩ st K := by
  subst hk
  refine rexec_prim C (p := True) (hs := [(b, .cells (encC e D))]) (δ := { v := v }) h1 rfl (vs := [.ptr b (i * e.sz + off)]) (by show evls st.S [x] = _; simp only [evls, h2]) ?_ trivial rfl h7 h8
  have hl : (((e.enc a).map AV.pv).drop off).length = e.sz - off := by simp [e.len]
  have : readAV r ((encC e D).drop (i * e.sz + off)) = some v := by
    rw [encC_dropAt ha (by omega), ← hv]
    unfold readAV
    split
    · rw [if_pos (by rw [List.length_append, hl]; omega), if_pos (by rw [hl]; omega), List.take_append_of_le_length (by rw [hl]; omega)]
    · cases hq : ((e.enc a).map AV.pv).drop off with
      | nil => rw [hq] at hl; simp at hl; omega
      | cons y ys => rfl
  simp only [prim, primLoad, hr, h3, this]
theorem setRange_mid {xs ys zs new : List AV} {o : Nat} (h : o + new.length ≤ ys.length) : setRange (xs ++ ys ++ zs) (xs.length + o) new = xs ++ setRange ys o new ++ zs := by
  simp only [setRange]
  rw [List.append_assoc xs ys zs, List.take_length_add_append, List.take_append_of_le_length (by omega), show xs.length + o + new.length = xs.length + (o + new.length) by omega, List.drop_length_add_append, List.drop_append_of_le_length (by omega)]
  simp
/-- A store into an element of a row of one's own. -/
theorem rexec_storeE (C : Cx E T n) {t : TypeId} {x y : Operand} {ty : TypeId} {pos : String} {af : Array Edge} {g : Option (Nat × Bool)} {st : St} {K : St → Prop} {b k : Nat} {r : TyRow} {u : AV} {xs : List AV} {α : Type} {e : Enc α} {D : List α} (i off : Nat) (a a' : α) (h1 : dstB n ⟨none, .store t x y, ty, pos, af, g⟩ = true)
    (h2 : evls st.S [x, y] = some [.ptr b k, u]) (h3 : st.H b = some (.cells (encC e D))) (hr : T.lookup t = some r) (ha : D[i]? = some a) (hk : k = i * e.sz + off) (hu : cellsOf u = some xs) (hxs : xs.length = r.size) (hfl : xs.all flatCell = true) (ho : off + xs.length ≤ e.sz) (hset : setRange ((e.enc a).map .pv) off xs = (e.enc a').map .pv)
    (h7 : K (st.after none { v := .undef, wr := [(b, some (.cells (encC e (D.set i a'))))] })) (h8 : footB (clsOf cq ⟨none, .store t x y, ty, pos, af, g⟩) [(b, .cells (encC e D))] { v := .undef, wr := [(b, some (.cells (encC e (D.set i a'))))] } = true := by rfl) : rexec E cq n ⟨none, .store t x y, ty, pos, af, g⟩ st K := by
  subst hk
  have hi : i < D.length := by
    rcases Nat.lt_or_ge i D.length with h' | h'
    · exact h'
    · rw [List.getElem?_eq_none h'] at ha; cases ha
  have hle : i * e.sz + e.sz ≤ (encC e D).length := by
    rw [encC_len]
    have : (i + 1) * e.sz ≤ D.length * e.sz := Nat.mul_le_mul_right _ hi
    rw [Nat.add_mul] at this
    omega
  have hcut : setRange (encC e D) (i * e.sz + off) xs = encC e (D.set i a') := by
    have e1 : encC e D = encC e (D.take i) ++ (e.enc a).map .pv ++ encC e (D.drop (i + 1)) := by
      have : (e.enc a).map AV.pv = encC e [a] := by simp [encC, encL]
      rw [this, ← encC_append, ← encC_append]
      congr 1
      rw [List.append_assoc, List.singleton_append, ← drop_at ha, List.take_append_drop]
    have l1 : (encC e (D.take i)).length = i * e.sz := by rw [encC_len, List.length_take, Nat.min_eq_left (by omega)]
    rw [e1, ← l1, setRange_mid (by simp [e.len]; omega), hset]
    have : (e.enc a').map AV.pv = encC e [a'] := by simp [encC, encL]
    rw [this, ← encC_append, ← encC_append, List.set_eq_take_append_cons_drop, if_pos hi]
    simp
  refine rexec_primv C (p := True) (hs := [(b, .cells (encC e D))]) (δ := { v := .undef, wr := [(b, some (.cells (setRange (encC e D) (i * e.sz + off) xs)))] }) _ h1 rfl h2 ?_ trivial (by rw [hcut]) rfl h7 h8
  simp only [prim, primStore, hr, h3, hu]
  rw [if_pos ⟨hxs, by omega, hfl⟩]
/-- A slice that does not change, cut. -/
theorem rexec_sliceS (C : Cx E T n) {d : Option Nat} {t : TypeId} {x : Operand} {lo hi : Option Operand} {ty : TypeId} {pos : String} {af : Array Edge} {g : Option (Nat × Bool)} {st : St} {K : St → Prop} {r re : TyRow} {te : TypeId} {α : Type} {e : Enc α} {D : List α} {f : Option Bool} (l h : Nat) {vs : List AV} {li hi' : Option Int} {v1 v2 : List AV} (h1 : dstB n ⟨d, .slice t x lo hi none, ty, pos, af, g⟩ = true)
    (h2 : evls st.S (Op.operands (.slice t x lo hi none)).toList = some (sS f e D :: vs)) (hr : T.lookup t = some r) (hdesc : r.desc = .slice te) (hre : T.lookup te = some re) (hs : re.size = e.sz) (hlo : optI vs lo = some (li, v1)) (hhi : optI v1 hi = some (hi', v2)) (hl0 : li.getD 0 = (l : Int)) (hh0 : hi'.getD (D.length : Int) = (h : Int)) (hlh : l ≤ h) (hhn : h ≤ D.length) (D' : List α) (hD : (D.drop l).take (h - l) = D')
    (h7 : K (st.after d { v := sS f e D' })) (h8 : footB (clsOf cq ⟨d, .slice t x lo hi none, ty, pos, af, g⟩) [] { v := sS f e D' } = true := by rfl) : rexec E cq n ⟨d, .slice t x lo hi none, ty, pos, af, g⟩ st K := by
  subst hD
  have key : sS f e ((D.drop l).take (h - l)) = .pv (.sl f (h - l) (((encL e D).drop (l * e.sz)).take ((h - l) * e.sz))) := by
    rw [encL_drop, encL_take]
    simp only [sS, List.length_take, List.length_drop]
    rw [Nat.min_eq_left (by omega)]
  rw [key] at h7 h8
  have hmx : optI v2 none = some (none, v2) := by cases v2 <;> rfl
  cases hi' with
  | some hv =>
    simp only [Option.getD_some] at hh0
    subst hh0
    refine rexec_prim C (p := 0 ≤ li.getD 0 ∧ li.getD 0 ≤ (h : Int) ∧ (h : Int) ≤ (D.length : Int)) (hs := []) (δ := { v := .pv (.sl f (h - l) (((encL e D).drop (l * e.sz)).take ((h - l) * e.sz))) }) h1 rfl h2 ?_ (by rw [hl0]; omega) rfl h7 h8
    simp only [prim, primSlice, hr, hlo, hhi, hmx, sliceAV, hdesc, hre, sS, cutOf, hs, hl0, Int.toNat_natCast]
  | none =>
    simp only [Option.getD_none] at hh0
    have hh1 : h = D.length := by omega
    subst hh1
    refine rexec_prim C (p := 0 ≤ li.getD 0 ∧ li.getD 0 ≤ (D.length : Int)) (hs := []) (δ := { v := .pv (.sl f (D.length - l) (((encL e D).drop (l * e.sz)).take ((D.length - l) * e.sz))) }) h1 rfl h2 ?_ (by rw [hl0]; omega) rfl h7 h8
    simp only [prim, primSlice, hr, hlo, hhi, hmx, sliceAV, hdesc, hre, sS, cutOf, hs, hl0, Int.toNat_natCast]
end steps
end Go.Am
namespace Go.Am
section grows
variable {α : Type} {e : Enc α} {l : List α} {b : Nat} {τ : Nat → Nat} {U : List Nat}
theorem grow_cons (h : l ≠ []) : grow b e l = .sl b 0 l.length e.sz false := by
  cases l with
  | nil => exact absurd rfl h
  | cons x l => rfl
theorem grow_ren : (grow b e l).ren τ = grow (τ b) e l := by cases l <;> rfl
theorem grow_within {U : Nat → Bool} (h : U b = true) : (grow b e l).within U = true := by
  cases l
  · rfl
  · exact h
theorem growH_cons (h : l ≠ []) : growH b e l = [(b, .cells (encC e l))] := by
  cases l with
  | nil => exact absurd rfl h
  | cons x l => rfl
theorem growH_nil (h : l = []) : growH b e l = [] := by subst h; rfl
theorem ne_isEmpty (h : l ≠ []) : l.isEmpty = false := by cases l <;> simp_all
theorem app_ne {x : α} : l ++ [x] ≠ [] := by simp
/-- Blocks as told, named anew, and within. -/
def okH (f : Nat → Option Blk) (τ : Nat → Nat) (U Ks : List Nat) (H : List (Nat × Blk)) : Prop :=
  ∀ x ∈ H, f (τ x.1) = some (x.2.ren τ) ∧ Ks.contains x.1 = true ∧ U.contains x.1 = true ∧ x.2.within (fun b => U.contains b) = true
def okS (f : Nat → Option AV) (τ : Nat → Nat) (U : List Nat) : List (Nat × AV) → Prop
  | [] => True
  | x :: xs => (f x.1 = some (x.2.ren τ) ∧ x.2.within (fun b => U.contains b) = true) ∧ okS f τ U xs
variable {f : Nat → Option Blk} {Ks : List Nat} {H : List (Nat × Blk)}
theorem okH_nil : okH f τ U Ks [] := fun x hx => by cases hx
theorem okH_cons {c : Nat} {k : Blk} (h1 : f (τ c) = some (k.ren τ)) (h2 : Ks.contains c = true) (h3 : U.contains c = true) (h4 : k.within (fun b => U.contains b) = true) (h : okH f τ U Ks H) : okH f τ U Ks ((c, k) :: H) := fun x hx => by
  cases hx with
  | head => exact ⟨h1, h2, h3, h4⟩
  | tail _ hm => exact h x hm
theorem encC_ren (D : List α) : AV.renL τ (encC e D) = encC e D := AV.renL_none _ (encC_within D _)
theorem okH_grow (h1 : l ≠ [] → f (τ b) = some (.cells (encC e l))) (h2 : Ks.contains b = true) (h3 : U.contains b = true) (h : okH f τ U Ks H) : okH f τ U Ks (growH b e l ++ H) := fun x hx => by
  rcases List.mem_append.1 hx with hx | hx
  · cases l with
    | nil => cases hx
    | cons y ys =>
      simp only [growH, List.mem_singleton] at hx
      subst hx
      refine ⟨?_, h2, h3, ?_⟩
      · rw [h1 (by simp)]; simp only [Blk.ren, encC_ren]
      · exact encC_within _ _
  · exact h x hx
theorem okH_list {c : Nat} (h1 : f (τ c) = some (.cells (encC e l))) (h2 : Ks.contains c = true) (h3 : U.contains c = true) (h : okH f τ U Ks H) : okH f τ U Ks ((c, .cells (encC e l)) :: H) :=
  okH_cons (by rw [h1]; simp only [Blk.ren, encC_ren]) h2 h3 (encC_within _ _) h
theorem okS_mem {f : Nat → Option AV} : ∀ {S : List (Nat × AV)}, okS f τ U S → ∀ x ∈ S, f x.1 = some (x.2.ren τ) ∧ x.2.within (fun b => U.contains b) = true
  | [], _, x, hx => by cases hx
  | y :: ys, h, x, hx => by
    cases hx with
    | head => exact h.1
    | tail _ hm => exact okS_mem h.2 x hm
end grows
theorem WeakerR.ofL {E : Env} {st : St} {τ : Nat → Nat} {S : List (Nat × AV)} {H : List (Nat × Blk)} {U Ks : List Nat} (hI : E.I = []) (h1 : okS st.S τ U S) (h2 : okH st.H τ U Ks H) (h5 : (Ks.all fun x => Ks.all fun y => !(τ x == τ y) || x == y) = true) : WeakerR st τ S H U E.I :=
  ⟨fun x hx => (okS_mem h1 x hx).1, fun x hx => (h2 x hx).1, List.all_eq_true.2 fun x hx => (okS_mem h1 x hx).2, List.all_eq_true.2 fun x hx => by rw [Bool.and_eq_true]; exact ⟨(h2 x hx).2.2.1, (h2 x hx).2.2.2⟩, fun x hx y hy e => by
    have := List.all_eq_true.1 (List.all_eq_true.1 h5 x.1 (by simpa using (h2 x hx).2.1)) y.1 (by simpa using (h2 y hy).2.1)
    simpa [e] using this, by rw [hI]; rfl⟩
/-- A state in other words. -/
theorem Awp.wordsR {E : Env} {c : Code} {st : St} {Q : Exit → St → Prop} (S : List (Nat × AV)) (H : List (Nat × Blk)) (U : List Nat) (hw : WeakerR st (fun b => b) S H U E.I) (h : Awp E c (mkSt S H U) Q) : Awp E c st Q := Awp.weakenR _ hw h
section steps
end steps
section steps
variable {E : Env} {T : Tab} {cq : Oper → Cls} {n : Nat} {ops : Array Oper}
/-- An append to a slice that is nil as yet. -/
theorem rexec_appendG (C : Cx E T n) {d : Nat} {c : Call} {t t2 : TypeId} {ty : TypeId} {pos : String} {af : Array Edge} {g : Option (Nat × Bool)} {st : St} {K : St → Prop} (hc : c.callee = .builtin .append) (hty : c.argTypes = #[t, t2]) (h1 : dstB n ⟨some d, .call c, ty, pos, af, g⟩ = true) (hU : st.U d = false)
    {r re r2 : TyRow} (hr : T.lookup t = some r) {e : TypeId} (hdesc : r.desc = .slice e) (hre : T.lookup e = some re) (hr2 : T.lookup t2 = some r2) (hd2 : ∀ k, r2.desc ≠ .int k) (hzs : re.zero.cells.size = re.size)
    {α : Type} {en : Enc α} {f : Option Bool} {fl : Bool} {D l : List α} (hs : re.size = en.sz) (hv : evls st.S c.args.toList = some [sS (some fl) en l, sS f en D]) (hl : l = []) (hfl : fl = true) (hm : 0 < D.length)
    (hbig : (2 * D.length + 192) * re.bytes ≤ 281474976710656) (hpos : 0 < re.bytes) {nn : Nat} (hnn : nn = (l ++ D).length)
    (h7 : K (st.after (some d) { v := .sl d 0 nn en.sz false, new := [(d, .cells (encC en (l ++ D)))] })) (hcl : clsOf cq ⟨some d, .call c, ty, pos, af, g⟩ ≠ .pure ∧ clsOf cq ⟨some d, .call c, ty, pos, af, g⟩ ≠ .quiet ∧ footB (clsOf cq ⟨some d, .call c, ty, pos, af, g⟩) [] { v := .sl d 0 nn en.sz false, new := [(d, .cells (encC en (l ++ D)))] } = true := by exact ⟨by decide, by decide, rfl⟩) :
    rexec E cq n ⟨some d, .call c, ty, pos, af, g⟩ st K := by
  subst hl hfl hnn
  refine rexec_appendN C hc hty h1 hU hr hdesc hre hr2 hd2 hzs hs hv hm hbig hpos (nn := D.length) rfl ?_ hcl
  rw [hs]; exact h7
end steps
end Go.Am
namespace Go.Am
section words
variable {α : Type} {e : Enc α} {l : List α} {b : Nat} {τ : Nat → Nat}
theorem grow_to {o : Option AV} {b' m s : Nat} (h : o = some (.sl b' 0 m s false)) (hb : τ b = b') (hl : l ≠ []) (hm : m = l.length) (hs : s = e.sz) : o = some ((grow b e l).ren τ) := by
  rw [h, grow_ren, grow_cons hl, hb, hm, hs]
theorem grow_to_nil {o : Option AV} {f : Option Bool} (h : o = some (sS f e l)) (hl : l = []) (hf : f = some true ∨ f = some l.isEmpty) : o = some ((grow b e l).ren τ) := by
  subst hl
  rw [h]
  rcases hf with rfl | rfl <;> rfl
theorem grow_at_nil {o : Option AV} (h : o = some (grow b e l)) (hl : l = []) : o = some ((sS (some l.isEmpty) e l).ren τ) := by
  subst hl; rw [h]; rfl
theorem grow_at_cons {o : Option AV} (h : o = some (grow b e l)) (hl : l ≠ []) {b' : Nat} (hb : τ b' = b) {m s : Nat} (hm : m = l.length) (hs : s = e.sz) : o = some ((AV.sl b' 0 m s false).ren τ) := by
  rw [h, grow_cons hl]; simp only [AV.ren, hb, hm, hs]
theorem look_nil (hl : l = []) {c : Nat} {H : List (Nat × Blk)} {o : Option Blk} (h : H.lookup c = o) : (growH b e l ++ H).lookup c = o := by
  rw [growH_nil hl]; exact h
theorem look_cons (hl : l ≠ []) {c : Nat} {H : List (Nat × Blk)} {o : Option Blk} (h : ((b, .cells (encC e l)) :: H).lookup c = o) : (growH b e l ++ H).lookup c = o := by
  rw [growH_cons hl]; exact h
end words
theorem eq_of_bne_false {α : Type} [BEq α] [LawfulBEq α] {a b : α} (h : (a != b) = false) : a = b := by simpa using h
theorem not_false_of {b : Bool} (h : (!b) = false) : b = true := by simpa using h
theorem wrapI (n : Int) : -9223372036854775808 ≤ n ∧ n ≤ 9223372036854775807 → IntKind.i64.wrap n = n := fun h => by rw [IntKind.wrap_i64]; omega
end Go.Am
namespace Go.Am
section steps
variable {E : Env} {T : Tab} {cq : Oper → Cls} {n : Nat} {ops : Array Oper}
end steps
end Go.Am
namespace Go.Am
end Go.Am
namespace Go.Am
theorem OCalls.of_body {P : Program} {T : Tab} (hT : TabOk P T) {f : FuncId} {fn : Func} {body : Code} (hf : P.funcs[f]? = some fn) (hb : fn.body = some body) (hn : (fn.name == "runtime.NumGoroutine") = false) {avs : List AV} {av : AV} {k : Blk} (hl : decide (avs.length ≤ fn.ntmps) = true) (ha : AV.withinL (fun _ => false) avs = true) (hr : av.within (fun b => b == 0) = true) (hk : k.within (fun _ => false) = true) (hm : P.follows .mixedOrders = true)
    (h : ∀ E : Env, E.P = P → Cx E T fn.ntmps → E.I = [] → Awp E body (entry avs [] []) fun e st => (e = .ret ∨ e = .normal) ∧ resAV T st fn.results.toList = some av ∧ st.H 0 = some k) : OCalls P f avs av k where
  fn := ⟨fn, hf, hn, by simp [hb]⟩
  args := ha
  res := hr
  blk := hk
  calls := ACalls.of_body hT hf hb (by simpa using hl) fun E hP hE hI => (h E hP ⟨hP ▸ hT, hE, hP ▸ hm⟩ hI).mono fun e st ⟨h1, h2, h3⟩ => ⟨h1, h2, fun x hx => by
    simp only [List.mem_singleton] at hx
    subst hx; exact h3⟩
end Go.Am
namespace Go.Am
section steps
variable {E : Env} {T : Tab} {cq : Oper → Cls} {n : Nat} {ops : Array Oper}
theorem rexec_convS (C : Cx E T n) {d : Option Nat} {src dst : TypeId} {x : Operand} {ty : TypeId} {pos : String} {af : Array Edge} {g : Option (Nat × Bool)} {st : St} {K : St → Prop} {f : Option Bool} {D : List Int} {rs rd re : TyRow} {e : TypeId} (h1 : dstB n ⟨d, .convert src dst x, ty, pos, af, g⟩ = true)
    (h2 : evls st.S [x] = some [sS f (eI .u8) D]) (hs : T.lookup src = some rs) (hd : T.lookup dst = some rd) (hsd : rs.desc = .slice e) (he : T.lookup e = some re) (hre : re.desc = .int .u8) (hk : rd.desc = .string) (h7 : K (st.after d { v := .pv (.lit (.string (strOf D))) })) : rexec E cq n ⟨d, .convert src dst x, ty, pos, af, g⟩ st K := by
  rw [sS_I] at h2
  have hd' : ∀ x, d = some x → x < E.n := fun x e => by
    simp only [dstB, e, decide_eq_true_eq] at h1
    exact C.n ▸ h1
  exact ⟨h1, _, _, _, Move.of_frozen (does_bytesToString C.tab (o := ⟨d, .convert src dst x, ty, pos, af, g⟩) rfl hd' hs hd hsd he hre hk) h2 _, h7⟩
end steps
end Go.Am
namespace Go.Am
open Go.ChangeShapes Go.WideShapes Go.ChangeAt Go.RowKit
/-- A law's walk, out of its contract. -/
theorem PCalls.row {P : Program} {f : FuncId} {avs : List AV} (h : PCalls P f avs (.pv (.lit (.bool true)))) {W : World} {vs : List Value} (hv : VHs (fun _ => none) (fun k => k < W.heap.size) W avs vs) :
    Calls P f (List.toArray vs) W fun e W' => e = .returned (.bool true) ∧ Below W.heap.size W W' := by
  refine (h.calls (fun _ => none) (fun k => k < W.heap.size) W (fun _ => True) vs ⟨fun b k hb => (by cases hb), fun b b' k k' r z z' hb => (by cases hb)⟩ hv (fun k hk => hk) (fun b x hx => (by cases hx))).mono ?_
  rintro e W' ⟨v, ι', imm', rfl, h1, _, h2, _⟩
  simp only [VH, PH] at h1
  obtain ⟨rfl, _⟩ := h1
  exact ⟨rfl, h2.os, h2.tape, h2.output, h2.size, fun k hk => h2.block k hk fun ⟨b, k', z, hb, _⟩ => (by cases hb)⟩
section
variable {H : Type} {enc : TypeId × Value → H} {P : Program} {w : World} {base : Nat} {spare : Nat → Bool} {held : Bool}
theorem spot_of_cell {w : World} {a : Addr} {v : Value} (h : w.cell? a = some v) : a.spot = none ∧ a.block < w.heap.size := by
  unfold World.cell? at h
  split at h
  · rename_i c e f hc
    split at h
    · cases h
    · rename_i hs
      refine ⟨by simpa using hs, ?_⟩
      rcases Nat.lt_or_ge a.block w.heap.size with h' | h'
      · exact h'
      · rw [Array.getElem?_eq_none h'] at hc; cases hc
  · cases h
end
end Go.Am
namespace Go.Am
open Go.ChangeShapes Go.WideShapes Go.ChangeAt Go.RowKit
/-- What cells of a struct's fields hold. -/
def FlatS (F : TypeId → List PV → Prop) : List Field → List PV → Prop
  | [], ps => ps = []
  | f :: fs, ps => ∃ a b, ps = a ++ b ∧ F f.type a ∧ FlatS F fs b
/-- What cells of a type hold. -/
def Flat (P : Program) : Nat → TypeId → List PV → Prop
  | 0, _, _ => False
  | m + 1, t, ps => match P.underlying t with
    | some .bool => ∃ b, ps = [.lit (.bool b)]
    | some (.int k) => ∃ n, ps = [.lit (.int k n)] ∧ (Lit.int k n).wf = true
    | some .string => ∃ s, ps = [.lit (.string s)] ∧ s.size ≤ maxLen
    | some (.slice e) => ∃ (b : Bool) (D : List (List PV)), ps = [.sl (some b) D.length D.flatten] ∧ D.length ≤ maxLen ∧ (b = true → D = []) ∧ ∀ x ∈ D, Flat P m e x
    | some (.struct fs) => FlatS (Flat P m) fs.toList ps
    | _ => False
def okFs (P : Program) (F : TypeId → Bool) (n : Nat) : List Field → Nat → Bool
  | [], o => o == n
  | f :: fs, o => f.offset == o && F f.type && okFs P F n fs (o + P.cellsOf f.type)
def okTy (P : Program) : Nat → TypeId → Bool
  | 0, _ => false
  | m + 1, t => match P.underlying t with
    | some .bool | some (.int _) | some .string => true
    | some (.slice e) => okTy P m e && decide (0 < P.cellsOf e)
    | some (.struct fs) => okFs P (okTy P m) (P.cellsOf t) fs.toList 0
    | _ => false
theorem exists_list {α : Type} {p : Nat → α → Prop} : ∀ (n : Nat), (∀ i, i < n → ∃ x, p i x) → ∃ D : List α, D.length = n ∧ ∀ i x, D[i]? = some x → p i x
  | 0, _ => ⟨[], rfl, fun i x h => by simp at h⟩
  | n + 1, h => by
    obtain ⟨D, h1, h2⟩ := exists_list n fun i hi => h i (by omega)
    obtain ⟨x, hx⟩ := h n (by omega)
    refine ⟨D ++ [x], by simp [h1], fun i y hy => ?_⟩
    rcases Nat.lt_or_ge i D.length with hi | hi
    · rw [List.getElem?_append_left hi] at hy; exact h2 i y hy
    · rw [List.getElem?_append_right hi] at hy
      have : i = D.length := by
        rcases Nat.lt_or_ge (i - D.length) 1 with h' | h'
        · omega
        · rw [List.getElem?_eq_none (by simpa using h')] at hy; cases hy
      subst this
      simp at hy
      subst hy
      rw [h1]; exact hx
theorem PHs_append {imm : Nat → Prop} {w : World} : ∀ {ps qs : List PV} {b o : Nat}, PHs imm w ps b o → PHs imm w qs b (o + ps.length) → PHs imm w (ps ++ qs) b o
  | [], _, _, _, _, h => h
  | p :: ps, qs, b, o, h, h' => ⟨h.1, PHs_append h.2 (by rw [List.length_cons] at h'; rw [show o + 1 + ps.length = o + (ps.length + 1) by omega]; exact h')⟩
theorem PHs_of {imm : Nat → Prop} {w : World} {ι : Nat → Option (Nat × Nat)} {b : Nat} : ∀ {ps : List PV} {cs : List Value} {o : Nat}, VHs ι imm w (ps.map .pv) cs → (∀ i, i < cs.length → w.cell? ⟨b, o + i, none⟩ = cs[i]?) → PHs imm w ps b o
  | [], _, _, _, _ => trivial
  | p :: ps, cs, o, h, hc => by
    obtain ⟨v, us, rfl, h1, h2⟩ := h
    refine ⟨⟨v, by simpa using hc 0 (by simp), h1⟩, PHs_of h2 fun i hi => ?_⟩
    have := hc (i + 1) (by simpa using hi)
    rw [show o + 1 + i = o + (i + 1) by omega, this]; simp
theorem PHs_flatten {imm : Nat → Prop} {w : World} {b n : Nat} : ∀ {D : List (List PV)} {o : Nat}, (∀ i x, D[i]? = some x → x.length = n ∧ PHs imm w x b (o + i * n)) → PHs imm w D.flatten b o
  | [], _, _ => trivial
  | x :: D, o, h => by
    obtain ⟨h1, h2⟩ := h 0 x rfl
    rw [List.flatten_cons]
    refine PHs_append (by simpa using h2) (PHs_flatten (n := n) fun i y hy => ?_)
    obtain ⟨h3, h4⟩ := h (i + 1) y (by simpa using hy)
    exact ⟨h3, by rw [h1, show o + n + i * n = o + (i + 1) * n by rw [Nat.add_mul]; omega]; exact h4⟩
section
variable {H : Type} {enc : TypeId × Value → H} {P : Program} {w : World} {base : Nat} {held : Bool}
theorem open_fields {F : TypeId → List PV → Prop} {G : TypeId → Bool} {ι : Nat → Option (Nat × Nat)} {imm : Nat → Prop} {cs : List Value} {n : Nat} (hF : ∀ t cs x, G t = true → DataW.trod enc P w base (fun _ => true) held n t cs = some x → ∃ ps : List PV, VHs ι imm w (ps.map .pv) cs ∧ F t ps) {xs : List (DataW H × List MemPlace)} : ∀ (fs : List Field) (j o : Nat), okFs P G cs.length fs o = true → (∀ (i : Nat) (f : Field), fs[i]? = some f → DataW.trod enc P w base (fun _ => true) held n f.type ((cs.drop f.offset).take (P.cellsOf f.type)) = xs[j + i]?) → xs.length = j + fs.length → o ≤ cs.length →
    ∃ ps : List PV, VHs ι imm w (ps.map .pv) (cs.drop o) ∧ FlatS F fs ps
  | [], j, o, hok, _, _, _ => by
    have : o = cs.length := by simpa [okFs] using hok
    subst this
    exact ⟨[], by simp [VHs], rfl⟩
  | f :: fs, j, o, hok, hx, hl, ho => by
    simp only [okFs, Bool.and_eq_true, beq_iff_eq] at hok
    obtain ⟨⟨h1, h2⟩, h3⟩ := hok
    have hf := hx 0 f rfl
    have : ∃ y, xs[j + 0]? = some y := ⟨xs[j]'(by simp only [List.length_cons] at hl; omega), by simp only [List.length_cons] at hl; rw [Nat.add_zero, List.getElem?_eq_getElem (by omega)]⟩
    obtain ⟨y, hy⟩ := this
    rw [hy, h1] at hf
    obtain ⟨a, ha, hFa⟩ := hF _ _ _ h2 hf
    have hlen : o + P.cellsOf f.type ≤ cs.length := by
      have key : ∀ (fs : List Field) (o : Nat), okFs P G cs.length fs o = true → o ≤ cs.length := by
        intro fs
        induction fs with
        | nil => intro o h; have : o = cs.length := by simpa [okFs] using h
                 omega
        | cons g gs ih => intro o h; simp only [okFs, Bool.and_eq_true] at h; have := ih _ h.2; omega
      exact key _ _ h3
    obtain ⟨b, hb, hFb⟩ := open_fields hF fs (j + 1) (o + P.cellsOf f.type) h3 (fun i g hg => by
      have := hx (i + 1) g (by simpa using hg)
      rw [show j + 1 + i = j + (i + 1) by omega]; exact this) (by simp only [List.length_cons] at hl; omega) hlen
    refine ⟨a ++ b, ?_, a, b, rfl, hFa, hFb⟩
    have : cs.drop o = (cs.drop o).take (P.cellsOf f.type) ++ cs.drop (o + P.cellsOf f.type) := by
      rw [← List.drop_drop, List.take_append_drop]
    rw [this, List.map_append]
    exact VHs.append ha hb
theorem open_flat {ι : Nat → Option (Nat × Nat)} : ∀ (m fuel : Nat) (t : TypeId) (cs : List Value) (x : DataW H × List MemPlace), okTy P m t = true → DataW.trod enc P w base (fun _ => true) held fuel t cs = some x →
    ∃ ps : List PV, VHs ι (fun k => k < w.heap.size) w (ps.map .pv) cs ∧ Flat P m t ps
  | 0, _, _, _, _, hok, _ => by simp [okTy] at hok
  | m + 1, fuel, t, cs, x, hok, h => by
    simp only [okTy] at hok
    split at hok
    · rename_i ht
      obtain ⟨b, rfl, _⟩ := DataW.trod_bool ht h
      exact ⟨[.lit (.bool b)], ⟨_, [], rfl, ⟨rfl, rfl⟩, rfl⟩, by simp only [Flat, ht]; exact ⟨b, rfl⟩⟩
    · rename_i k ht
      obtain ⟨n, rfl, _, hw⟩ := DataW.trod_int ht h
      exact ⟨[.lit (.int k n)], ⟨_, [], rfl, ⟨rfl, rfl⟩, rfl⟩, by simp only [Flat, ht]; exact ⟨n, rfl, hw⟩⟩
    · rename_i ht
      obtain ⟨s, rfl, _, hs⟩ := DataW.trod_string ht h
      exact ⟨[.lit (.string s)], ⟨_, [], rfl, ⟨rfl, rfl⟩, rfl⟩, by simp only [Flat, ht]; exact ⟨s, rfl, hs⟩⟩
    · rename_i e ht
      simp only [Bool.and_eq_true, decide_eq_true_eq] at hok
      rcases DataW.trod_slice ht h with ⟨rfl, _⟩ | ⟨a, len, cap, elems, rest, n, _, rfl, _, hb, hl, hm, hlen, hel, _, _⟩
      · refine ⟨[.sl (some true) 0 []], ⟨_, [], rfl, ?_, rfl⟩, by simp only [Flat, ht]; exact ⟨true, [], rfl, Nat.zero_le _, fun _ => rfl, fun x hx => by cases hx⟩⟩
        exact ⟨none, 0, rfl, Nat.le_refl _, fun _ => rfl, fun h => by simp at h, fun _ => ⟨rfl, rfl, rfl⟩, fun a ha => by cases ha⟩
      · have hspot : 0 < len → a.spot = none ∧ a.block < w.heap.size := fun hi => by
          have h1 := hel 0 hi
          have : ∃ y, elems[0]? = some y := ⟨elems[0], by rw [List.getElem?_eq_getElem (by omega)]⟩
          obtain ⟨y, hy⟩ := this
          rw [hy, Option.bind_eq_some_iff] at h1
          obtain ⟨ds, d1, _⟩ := h1
          obtain ⟨_, d3, d4⟩ := World.cells?_some d1
          have h0 := d4 0 hok.2
          have hds : ∃ v, ds[0]? = some v := ⟨ds[0], by rw [List.getElem?_eq_getElem (by omega)]⟩
          obtain ⟨v0, hv0⟩ := hds
          rw [hv0] at h0
          simpa [Addr.add] using spot_of_cell h0
        have each : ∀ i, i < len → ∃ ps : List PV, Flat P m e ps ∧ ps.length = P.cellsOf e ∧ a.spot = none ∧ a.block < w.heap.size ∧ PHs (fun k => k < w.heap.size) w ps a.block (a.off + i * P.cellsOf e) := fun i hi => by
          have h1 := hel i hi
          have : ∃ y, elems[i]? = some y := ⟨elems[i], by rw [List.getElem?_eq_getElem (by omega)]⟩
          obtain ⟨y, hy⟩ := this
          rw [hy, Option.bind_eq_some_iff] at h1
          obtain ⟨ds, d1, d2⟩ := h1
          obtain ⟨_, d3, d4⟩ := World.cells?_some d1
          obtain ⟨ps, p1, p2⟩ := open_flat (ι := ι) m n e ds y hok.1 d2
          have hpl := p1.length
          rw [List.length_map] at hpl
          obtain ⟨hsp, s2⟩ := hspot (by omega)
          refine ⟨ps, p2, by omega, hsp, s2, PHs_of p1 fun j hj => ?_⟩
          have := d4 j (by omega)
          rw [← this, addr_eta hsp, add_none, add_none]
        obtain ⟨D, hD, hp⟩ := exists_list len each
        refine ⟨[.sl (some false) D.length D.flatten], ⟨_, [], rfl, ?_, rfl⟩, ?_⟩
        · refine ⟨some a, cap, by rw [hD], by omega, fun h => by simp at h, fun _ h => by simp at h, fun h => by simp at h, fun a' ha' hne => ?_⟩
          simp only [Option.some.injEq] at ha'
          subst ha'
          have hpos : ∃ x, D[0]? = some x := by
            cases D with
            | nil => simp at hne
            | cons x D => exact ⟨x, rfl⟩
          obtain ⟨x0, hx0⟩ := hpos
          obtain ⟨_, _, e3, e4, _⟩ := hp 0 x0 hx0
          exact ⟨e3, e4, PHs_flatten fun i y hy => ⟨(hp i y hy).2.1, (hp i y hy).2.2.2.2⟩⟩
        · simp only [Flat, ht]
          refine ⟨false, D, rfl, by omega, fun h => (by cases h), fun y hy => ?_⟩
          obtain ⟨i, hi, rfl⟩ := List.getElem_of_mem hy
          exact (hp i _ (List.getElem?_eq_getElem hi)).1
    · rename_i fs ht
      obtain ⟨xs, n, _, _, hl, hxl, hx⟩ := DataW.trod_struct ht h
      obtain ⟨ps, h1, h2⟩ := open_fields (F := Flat P m) (G := okTy P m) (ι := ι) (imm := fun k => k < w.heap.size) (cs := cs) (n := n) (fun t' cs' x' ho ht' => open_flat (ι := ι) m n t' cs' x' ho ht') (xs := xs) fs.toList 0 0 (by rw [hl]; exact hok) (fun i f hf => by rw [Nat.zero_add]; exact hx i f (by simpa using hf)) (by simp [hxl]) (Nat.zero_le _)
      exact ⟨ps, by simpa using h1, by simp only [Flat, ht]; exact h2⟩
    · cases hok
/-- One cell that is handed in. -/
theorem open_cell {t : TypeId} {v : Value} {d : DataW H} {ps : List MemPlace} (m : Nat) (hok : okTy P m t = true) (hv : v.cells = #[v]) (hd : DataW.Trod enc P w base (fun _ => true) held t v d ps) : ∃ q : PV, Flat P m t [q] ∧ VH (fun _ => none) (fun k => k < w.heap.size) w (.pv q) v := by
  obtain ⟨fuel, hf⟩ := hd
  obtain ⟨qs, h1, h2⟩ := open_flat (ι := fun _ => none) m fuel t _ _ hok hf
  rw [hv] at h1
  cases qs with
  | nil => simp [VHs] at h1
  | cons q qs =>
    obtain ⟨v', us, he, h3, h4⟩ := h1
    simp only [List.cons.injEq] at he
    obtain ⟨rfl, rfl⟩ := he
    cases qs with
    | nil => exact ⟨q, h2, h3⟩
    | cons a b => simp [VHs] at h4
end
end Go.Am
namespace Go.Am
theorem enc_list {α : Type} {e : Enc α} {W : α → Prop} : ∀ (D : List (List PV)), (∀ y ∈ D, ∃ x, y = e.enc x ∧ W x) → ∃ D' : List α, D'.length = D.length ∧ D.flatten = encL e D' ∧ ∀ x ∈ D', W x
  | [], _ => ⟨[], rfl, rfl, fun x hx => by cases hx⟩
  | y :: D, h => by
    obtain ⟨x, rfl, hx⟩ := h y (List.mem_cons_self ..)
    obtain ⟨D', h1, h2, h3⟩ := enc_list D fun z hz => h z (List.mem_cons_of_mem _ hz)
    refine ⟨x :: D', by simp [h1], by rw [List.flatten_cons, h2]; simp [encL], fun z hz => ?_⟩
    cases hz with
    | head => exact hx
    | tail _ hm => exact h3 z hm
end Go.Am
namespace Go.Am
section lists
variable {α : Type}
/-- A row told by a function. -/
def tbF (g : Nat → α) : Nat → Nat → List α
  | 0, _ => []
  | n + 1, j => g j :: tbF g n (j + 1)
theorem tbF_len (g : Nat → α) : ∀ (n j : Nat), (tbF g n j).length = n
  | 0, _ => rfl
  | n + 1, j => by rw [tbF, List.length_cons, tbF_len g n]
theorem tbF_get (g : Nat → α) : ∀ (n j i : Nat), i < n → (tbF g n j)[i]? = some (g (j + i))
  | 0, _, _, h => by omega
  | n + 1, j, 0, _ => rfl
  | n + 1, j, i + 1, h => by
    rw [tbF, List.getElem?_cons_succ, tbF_get g n (j + 1) i (by omega)]
    rw [show j + 1 + i = j + (i + 1) by omega]
theorem tbF_congr {g h : Nat → α} : ∀ (n j : Nat), (∀ t, j ≤ t → t < j + n → g t = h t) → tbF g n j = tbF h n j
  | 0, _, _ => rfl
  | n + 1, j, e => by
    rw [tbF, tbF, e j (Nat.le_refl _) (by omega), tbF_congr n (j + 1) fun t h1 h2 => e t (by omega) (by omega)]
/-- A function told by a row. -/
def ofL [Inhabited α] : List α → Nat → α
  | [], _ => default
  | x :: _, 0 => x
  | _ :: l, i + 1 => ofL l i
def updA (f : Nat → α) (i : Nat) (v : α) : Nat → α := fun t => bif t == i then v else f t
theorem tbF_set (g : Nat → α) (v : α) : ∀ (n j i : Nat), (tbF g n j).set i v = tbF (updA g (j + i) v) n j
  | 0, _, _ => rfl
  | n + 1, j, 0 => by
    rw [tbF, tbF, List.set_cons_zero]
    have : updA g (j + 0) v j = v := by simp [updA]
    rw [this, tbF_congr n (j + 1) (h := updA g (j + 0) v) fun t h1 _ => by
      have : (t == j) = false := by rw [beq_eq_false_iff_ne]; omega
      simp [updA, this]]
  | n + 1, j, i + 1 => by
    rw [tbF, tbF, List.set_cons_succ, tbF_set g v n (j + 1) i, show j + 1 + i = j + (i + 1) by omega]
    have : updA g (j + (i + 1)) v j = g j := by
      have : (j == j + (i + 1)) = false := by rw [beq_eq_false_iff_ne]; omega
      simp [updA, this]
    rw [this]
end lists
section steps
variable {E : Env} {T : Tab} {cq : Oper → Cls} {n : Nat} {ops : Array Oper}
theorem at_mid {α : Type} {pre post : List α} {g : Nat → α} {m i k : Nat} (hk : k = pre.length + i * 1) (hi : i < m) : (pre ++ (tbF g m 0 ++ post))[k]? = some (g i) := by
  subst hk
  rw [List.getElem?_append_right (by omega), show pre.length + i * 1 - pre.length = i by omega, List.getElem?_append_left (by rw [tbF_len]; omega), tbF_get g m 0 i hi, Nat.zero_add]
theorem set_mid' {α : Type} {pre post : List α} {g : Nat → α} {m i k : Nat} {v : α} (hk : k = pre.length + i * 1) (hi : i < m) : (pre ++ (tbF g m 0 ++ post)).set k v = pre ++ (tbF (updA g i v) m 0 ++ post) := by
  subst hk
  rw [List.set_append_right _ _ (by omega), show pre.length + i * 1 - pre.length = i by omega, List.set_append_left _ _ (by rw [tbF_len]; omega), tbF_set, Nat.zero_add]
/-- A part of an array of one's own is read. -/
theorem rexec_loadA (C : Cx E T n) {d : Option Nat} {t : TypeId} {x : Operand} {ty : TypeId} {pos : String} {af : Array Edge} {gd : Option (Nat × Bool)} {st : St} {K : St → Prop} {b k : Nat} {cs : List AV} {r : TyRow} (pre post : List AV) (g : Nat → AV) (m i : Nat) (v : AV) (h1 : dstB n ⟨d, .load t x, ty, pos, af, gd⟩ = true)
    (h2 : evl st.S x = some (.ptr b k)) (h3 : st.H b = some (.cells cs)) (hr : T.lookup t = some r) (hra : isAggD r.desc = false) (hc : cs = pre ++ (tbF g m 0 ++ post)) (hk : k = pre.length + i * 1) (hi : i < m) (hv : g i = v) (h7 : K (st.after d { v := v })) (h8 : footB (clsOf cq ⟨d, .load t x, ty, pos, af, gd⟩) [(b, .cells cs)] { v := v } = true := by rfl) :
    rexec E cq n ⟨d, .load t x, ty, pos, af, gd⟩ st K :=
  rexec_load C h1 h2 h3 hr hra (by rw [hc, at_mid hk hi, hv]) h7 h8
theorem updA_map {α β : Type} (h : α → β) (F : Nat → α) (i : Nat) (a : α) : updA (fun j => h (F j)) i (h a) = fun j => h (updA F i a j) := by
  funext t
  simp only [updA]
  cases t == i <;> rfl
/-- A part of an array of one's own is written. -/
theorem rexec_storeA (C : Cx E T n) {t : TypeId} {x y : Operand} {ty : TypeId} {pos : String} {af : Array Edge} {gd : Option (Nat × Bool)} {st : St} {K : St → Prop} {b k : Nat} {cs : List AV} {r : TyRow} {α : Type} (pre post : List AV) (h : α → PV) (F : Nat → α) (m i : Nat) (a : α) (cs' : List AV) (h2 : evls st.S [x, y] = some [.ptr b k, .pv (h a)]) (h3 : st.H b = some (.cells cs)) (hr : T.lookup t = some r) (hrs : r.size = 1) (hc : cs = pre ++ (tbF (fun j => .pv (h (F j))) m 0 ++ post)) (hk : k = pre.length + i * 1) (hi : i < m) (hv : pre ++ (tbF (fun j => .pv (h (updA F i a j))) m 0 ++ post) = cs')
    (h7 : K (st.after none { v := .undef, wr := [(b, some (.cells cs'))] })) (h8 : footB (clsOf cq ⟨none, .store t x y, ty, pos, af, gd⟩) [(b, .cells cs)] { v := .undef, wr := [(b, some (.cells cs'))] } = true := by rfl) :
    rexec E cq n ⟨none, .store t x y, ty, pos, af, gd⟩ st K := by
  have hset : setRange cs k [.pv (h a)] = cs' := by
    rw [setRange_one (by rw [hc, hk]; simp [tbF_len]; omega), hc, set_mid' hk hi, updA_map (fun z => AV.pv (h z)) F i a, hv]
  refine rexec_prim C (p := True) (hs := [(b, .cells cs)]) (δ := { v := .undef, wr := [(b, some (.cells cs'))] }) rfl rfl h2 ?_ trivial rfl h7 h8
  have hlen : cs.length = pre.length + (m + post.length) := by rw [hc]; simp [tbF_len]
  simp only [prim, primStore, hr, h3, cellsOf, List.length_singleton, hrs]
  rw [if_pos ⟨trivial, by omega, by simp [flatCell]⟩, hset]
end steps
end Go.Am
namespace Go.Am
section ops
variable {E : Env} {T : Tab}
theorem does_sliceC_hi (hT : TabOk E.P T) {o : Oper} {t : TypeId} {x y : Operand} (ho : o.op = .slice t x none (some y) none) (hd : ∀ d, o.dst = some d → d < E.n) {r re : TyRow} (hr : T.lookup t = some r) {e : TypeId} (hdesc : r.desc = .slice e) (hre : T.lookup e = some re) {b n c : Nat} {k : IntKind} {h : Nat} (hh : h ≤ c) :
    Does E o [.slc b 0 n re.size c, .pv (.lit (.int k (h : Int)))] [] { v := .slc b 0 h re.size c } := by
  refine Does.value hd fun ι imm st a w hsr hv _ => ?_
  rw [ho] at hv
  have hv' : VHs ι imm w [.slc b 0 n re.size c, .pv (.lit (.int k (h : Int)))] [a.eval x, a.eval y] := by simpa [Op.operands] using hv
  obtain ⟨v1, us, he, h1, h2⟩ := hv'
  obtain ⟨v2, us2, he2, h3, h4⟩ := h2
  simp only [VHs] at h4
  subst h4 he2
  simp only [List.cons.injEq, and_true] at he
  obtain ⟨rfl, rfl⟩ := he
  simp only [VH] at h1
  obtain ⟨q, z, i1, i2, i3, cc, ee, ff, g1, g2⟩ := h1
  simp only [VH, PH] at h3
  have hrun := run_sliceBounds (P := E.P) (w := w) (isSlice := true) (len := n) (cap := c) (lo := none) (hi := some (.int k (h : Int))) (mx := none) (l := 0) (h := h) (m := c) (.inl ⟨rfl, rfl⟩) (.inr ⟨k, rfl⟩) (.inl ⟨rfl, rfl⟩) (by omega) (by omega) (by omega) (Int.le_refl _)
  refine ⟨.slice (some ⟨q, z + 0, none⟩) h c, ?_, ⟨q, z, i1, rfl, hh, cc, ee, ff, g1, g2⟩⟩
  simp only [execOp, ho, i2, h3.1, Option.map_none, Option.map_some, Instr.sliceAt, Instr.slice, run_bind', run_pure', run_underlying hT hr, hdesc, hrun, run_sizeOf hT hre]
  simp
  intro _
  rw [add_none]
  rfl
theorem does_lenC (hT : TabOk E.P T) {o : Oper} {c : Call} {t : TypeId} (ho : o.op = .call c) (hc : c.callee = .builtin .len) (hty : c.argTypes = #[t]) (hd : ∀ d, o.dst = some d → d < E.n) {r : TyRow} (hr : T.lookup t = some r) {e : TypeId} (hdesc : r.desc = .slice e) {b n s k : Nat} :
    Does E o [.slc b 0 n s k] [] { v := .pv (.lit (.int .i64 n)) } := by
  refine Does.value hd fun ι imm st a w hsr hv _ => ?_
  have hops : o.op.operands.toList = c.args.toList := by rw [ho]; simp [Op.operands, Call.operands, hc]
  rw [hops] at hv
  obtain ⟨v1, us, he, h1, h2⟩ := hv
  simp only [VHs] at h2
  subst h2
  have hargs : c.args.map a.eval = #[v1] := by apply Array.ext'; simpa using he
  simp only [VH] at h1
  obtain ⟨q, z, i1, rfl, i3, _⟩ := h1
  refine ⟨.int .i64 n, ?_, rfl, rfl⟩
  simp only [execOp, ho, resolve, hc, run_bind', run_pure', invoke, builtin, hargs, hty]
  simp [Builtin.len_, run_underlying hT hr, hdesc, goInt]
end ops
section steps
variable {E : Env} {T : Tab} {cq : Oper → Cls} {n : Nat} {ops : Array Oper}
/-- An operation that looks at no block and gives a value that leads to blocks of its operands alone. -/
theorem rexec_value (C : Cx E T n) {d : Option Nat} {op : Op} {ty : TypeId} {pos : String} {af : Array Edge} {g : Option (Nat × Bool)} {st : St} {K : St → Prop} {xs : List Operand} {vs : List AV} {v : AV} (h1 : dstB n ⟨d, op, ty, pos, af, g⟩ = true)
    (hx : op.operands.toList = xs) (h2 : evls st.S xs = some vs) (hdo : (∀ x, d = some x → x < E.n) → Does E ⟨d, op, ty, pos, af, g⟩ vs [] { v := v }) (hw : ∀ U, AV.withinL U vs = true → v.within U = true) (h7 : K (st.after d { v := v })) : rexec E cq n ⟨d, op, ty, pos, af, g⟩ st K := by
  subst hx
  have hd : ∀ x, d = some x → x < E.n := fun x e => by
    simp only [dstB, e, decide_eq_true_eq] at h1
    exact C.n ▸ h1
  refine ⟨h1, vs, [], { v := v }, { vals := h2, deps := fun _ h => (by cases h), fresh := fun _ h => (by cases h), does := hdo hd, reach := rfl, inV := ?_, inN := fun _ h => (by cases h), inW := fun _ h => (by cases h), wr := fun _ h => (by cases h), pure := fun _ => ⟨rfl, rfl, rfl⟩, quiet := fun _ => rfl, foot := by cases clsOf cq ⟨d, op, ty, pos, af, g⟩ <;> rfl }, h7⟩
  refine hw _ ?_
  have := within_self vs []
  refine AV.withinL_mono (U := fun b => refs vs [] b) (fun b hb => ?_) vs this
  simp [hb]
/-- The capacity of a slice over the whole of an own row is looked at; what lies behind its elements is anything. -/
theorem At.openCap {st : St} {a : Act} {w : World} (h : At E st a w) {t b m s : Nat} {tt : Bool} {cs : List AV} (ht : st.S t = some (.sl b 0 m s tt)) (hb : st.H b = some (.cells cs)) (hl : cs.length = m * s) : ∃ c, m ≤ c ∧ At E (st.set t (.slc b 0 m s c)) a w ∧ At E ⟨(st.set t (.slc b 0 m s c)).S, fun x => if x = b then some (.cells (cs ++ List.replicate ((c - m) * s) .undef)) else st.H x, st.U⟩ a w := by
  obtain ⟨ι, imm, h⟩ := h
  have h0 := h.slot t _ ht
  simp only [VH] at h0
  obtain ⟨r, z, c, i1, i2, i3, _, i5⟩ := h0
  have hslot : ∀ x v, (st.set t (.slc b 0 m s c)).S x = some v → VH ι imm w v (a.tmps.getD x undef) := fun x v hv => by
    have hv' : (if x = t then some (AV.slc b 0 m s c) else st.S x) = some v := hv
    by_cases e : x = t
    · rw [if_pos e] at hv'
      obtain rfl := Option.some.inj hv'
      subst e
      simp only [VH]
      exact ⟨r, z, i1, i2, i3, i5⟩
    · rw [if_neg e] at hv'
      exact h.slot x v hv'
  have hset : SR E ι imm (st.set t (.slc b 0 m s c)) a w := { h with slot := hslot }
  refine ⟨c, i3, ⟨ι, imm, hset⟩, ι, imm, { hset with heap := ⟨fun x k hx => ?_, fun x x' k k' r1 z1 z2 hx hx' => ?_⟩ }⟩
  · by_cases e : x = b
    · subst e
      simp only [if_true] at hx
      obtain rfl := Option.some.inj hx
      obtain ⟨r', z', p1, p2, p3, c1, e1, f1, q1, q2, q3, q4⟩ := h.heap.blk x _ hb
      rw [i1] at p1
      simp only [Option.some.injEq, Prod.mk.injEq] at p1
      obtain ⟨rfl, rfl⟩ := p1
      obtain ⟨c2, e2, f2, s1, s2⟩ := i5
      rw [q1] at s1
      simp only [Option.some.injEq, Obj.cells.injEq] at s1
      obtain ⟨rfl, rfl, rfl⟩ := s1
      have hms : m * s + (c - m) * s = c * s := by rw [← Nat.add_mul]; congr 1; omega
      refine ⟨r, z, i1, p2, p3, c1, e1, f1, q1, ?_, q3, CellsH.app q4 (CellsH.undefs ?_)⟩
      · rw [List.length_append, List.length_replicate, hl]; omega
      · rw [hl]; omega
    · simp only [if_neg e] at hx
      exact h.heap.blk x k hx
  · have key : ∀ y k, (if y = b then some (Blk.cells (cs ++ List.replicate ((c - m) * s) .undef)) else st.H y) = some k → ∃ k', st.H y = some k' := fun y k hy => by
      by_cases e : y = b
      · subst e; exact ⟨_, hb⟩
      · rw [if_neg e] at hy; exact ⟨k, hy⟩
    obtain ⟨k1, hk1⟩ := key x k hx
    obtain ⟨k2, hk2⟩ := key x' k' hx'
    exact h.heap.inj x x' k1 k2 r1 z1 z2 hk1 hk2
theorem At.dropCap {st : St} {a : Act} {w : World} (h : At E st a w) {t b o m s k : Nat} (ht : st.S t = some (.slc b o m s k)) : At E (st.set t (.sl b o m s false)) a w := by
  obtain ⟨ι, imm, h⟩ := h
  refine ⟨ι, imm, { h with slot := fun x v hv => ?_ }⟩
  have hv' : (if x = t then some (AV.sl b o m s false) else st.S x) = some v := hv
  by_cases e : x = t
  · rw [if_pos e] at hv'
    obtain rfl := Option.some.inj hv'
    subst e
    have := h.slot x _ ht
    simp only [VH] at this ⊢
    obtain ⟨r, z, i1, i2, i3, i5⟩ := this
    exact ⟨r, z, k, i1, i2, i3, fun h => (by cases h), i5⟩
  · rw [if_neg e] at hv'
    exact h.slot x v hv'
theorem Awp.dropCap {c : Code} {st : St} {Q : Exit → St → Prop} (t b o m s k : Nat) (ht : st.S t = some (.slc b o m s k)) (h : Awp E c (st.set t (.sl b o m s false)) Q) : Awp E c st Q := fun a w hat => h a w (hat.dropCap ht)
end steps
end Go.Am
namespace Go.Am
section steps
variable {E : Env} {T : Tab} {cq : Oper → Cls} {n : Nat} {ops : Array Oper}
end steps
section ops
variable {E : Env} {T : Tab}
theorem does_min {o : Oper} {c : Call} (ho : o.op = .call c) (hc : c.callee = .builtin .min) (hd : ∀ d, o.dst = some d → d < E.n) {k k2 : IntKind} {x y : Int} : Does E o [.pv (.lit (.int k x)), .pv (.lit (.int k2 y))] [] { v := .pv (.lit (.int k (bif decide (y < x) then y else x))) } := by
  refine Does.value hd fun ι imm st a w hsr hv _ => ?_
  have hops : o.op.operands.toList = c.args.toList := by rw [ho]; simp [Op.operands, Call.operands, hc]
  rw [hops] at hv
  obtain ⟨v1, us, he, h1, v2, us2, he2, h2, h3⟩ := hv
  subst he2
  simp only [VHs] at h3
  subst h3
  have hargs : c.args.map a.eval = #[v1, v2] := by apply Array.ext'; simpa using he
  simp only [VH, PH] at h1 h2
  obtain ⟨rfl, f1⟩ := h1
  obtain ⟨rfl, f2⟩ := h2
  refine ⟨.int k (bif decide (y < x) then y else x), ?_, rfl, rfl⟩
  simp only [execOp, ho, resolve, hc, run_bind', run_pure', invoke, builtin, hargs]
  by_cases h : y < x
  · simp [Builtin.min_, Builtin.min2, h]
  · simp [Builtin.min_, Builtin.min2, h]
end ops
section steps
variable {E : Env} {T : Tab} {cq : Oper → Cls} {n : Nat} {ops : Array Oper}
theorem rexec_min (C : Cx E T n) {d : Option Nat} {c : Call} {ty : TypeId} {pos : String} {af : Array Edge} {g : Option (Nat × Bool)} {st : St} {K : St → Prop} {k k2 : IntKind} {x y : Int} (hc : c.callee = .builtin .min) (h1 : dstB n ⟨d, .call c, ty, pos, af, g⟩ = true) (h2 : evls st.S c.args.toList = some [.pv (.lit (.int k x)), .pv (.lit (.int k2 y))]) (h7 : K (st.after d { v := .pv (.lit (.int k (bif decide (y < x) then y else x))) })) : rexec E cq n ⟨d, .call c, ty, pos, af, g⟩ st K :=
  rexec_value C h1 (xs := c.args.toList) (by simp [Op.operands, Call.operands, hc]) h2 (fun hd => does_min rfl hc hd) (fun _ _ => rfl) h7
end steps
end Go.Am
namespace Go.Am
section lists
variable {α : Type} {e : Enc α}
theorem encC_dropN (D : List α) (i : Nat) : (encC e D).drop (i * e.sz) = encC e (D.drop i) := by simp only [encC, ← List.map_drop, encL_drop]
theorem encC_takeN (D : List α) (i : Nat) : (encC e D).take (i * e.sz) = encC e (D.take i) := by simp only [encC, ← List.map_take, encL_take]
theorem encC_takeAll (D : List α) {k : Nat} (h : D.length * e.sz ≤ k) : (encC e D).take k = encC e D := List.take_of_length_le (by rw [encC_len]; exact h)
end lists
section steps
variable {E : Env} {T : Tab} {cq : Oper → Cls} {n : Nat} {ops : Array Oper}
/-- The capacity of a slice over an own row is looked at. -/
theorem Awp.capOf {c : Code} {st : St} {Q : Exit → St → Prop} (t b m s : Nat) (tt : Bool) (cs : List AV) (ht : st.S t = some (.sl b 0 m s tt)) (hb : st.H b = some (.cells cs)) (hl : cs.length = m * s) (h : ∀ k, m ≤ k → Awp E c (st.set t (.slc b 0 m s k)) Q) : Awp E c st Q := fun a w hat => by
  obtain ⟨k, h1, h2, _⟩ := hat.openCap ht hb hl
  exact h k h1 a w h2
theorem CellsH.left {ι : Nat → Option (Nat × Nat)} {imm : Nat → Prop} {w : World} {c : Array Value} : ∀ {xs ys : List AV} {o : Nat}, CellsH ι imm w c (xs ++ ys) o → CellsH ι imm w c xs o
  | [], _, _, _ => trivial
  | _ :: _, _, _, h => ⟨h.1, CellsH.left h.2⟩
theorem WeakerR.ofLI {E : Env} {st : St} {τ : Nat → Nat} {S : List (Nat × AV)} {H : List (Nat × Blk)} {U Ks I : List Nat} (hI : E.I = I) (h1 : okS st.S τ U S) (h2 : okH st.H τ U Ks H) (h5 : (Ks.all fun x => Ks.all fun y => !(τ x == τ y) || x == y) = true) (h6 : (I.all fun b => U.contains b && τ b == b) = true) : WeakerR st τ S H U E.I :=
  ⟨fun x hx => (okS_mem h1 x hx).1, fun x hx => (h2 x hx).1, List.all_eq_true.2 fun x hx => (okS_mem h1 x hx).2, List.all_eq_true.2 fun x hx => by rw [Bool.and_eq_true]; exact ⟨(h2 x hx).2.2.1, (h2 x hx).2.2.2⟩, fun x hx y hy e => by
    have := List.all_eq_true.1 (List.all_eq_true.1 h5 x.1 (by simpa using (h2 x hx).2.1)) y.1 (by simpa using (h2 y hy).2.1)
    simpa [e] using this, by rw [hI]; exact h6⟩
/-- A call that takes a row (block 0) and gives one (block 1). -/
structure TCalls (P : Program) (f : FuncId) (avs : List AV) (k : Blk) (av : AV) (k' : Blk) : Prop where
  fn : ∃ fn, P.funcs[f]? = some fn ∧ (fn.name == "runtime.NumGoroutine") = false ∧ fn.body.isNone = false
  args : AV.withinL (fun b => b == 0) avs = true
  res : av.within (fun b => b == 1) = true
  blk : k.within (fun _ => false) = true
  blk' : k'.within (fun _ => false) = true
  calls : ACalls P f [0] avs [(0, k)] av [(1, k')]
theorem TCalls.of_body {P : Program} {T : Tab} (hT : TabOk P T) {f : FuncId} {fn : Func} {body : Code} (hf : P.funcs[f]? = some fn) (hb : fn.body = some body) (hn : (fn.name == "runtime.NumGoroutine") = false) {avs : List AV} {k k' : Blk} {av : AV} (hl : decide (avs.length ≤ fn.ntmps) = true) (ha : AV.withinL (fun b => b == 0) avs = true) (hr : av.within (fun b => b == 1) = true) (hk : k.within (fun _ => false) = true) (hk' : k'.within (fun _ => false) = true) (hm : P.follows .mixedOrders = true)
    (h : ∀ E : Env, E.P = P → Cx E T fn.ntmps → E.I = [0] → Awp E body (entry avs [(0, k)] [0]) fun e st => (e = .ret ∨ e = .normal) ∧ resAV T st fn.results.toList = some av ∧ st.H 1 = some k') : TCalls P f avs k av k' where
  fn := ⟨fn, hf, hn, by simp [hb]⟩
  args := ha
  res := hr
  blk := hk
  blk' := hk'
  calls := ACalls.of_body hT hf hb (by simpa using hl) fun E hP hE hI => (h E hP ⟨hP ▸ hT, hE, hP ▸ hm⟩ hI).mono fun e st ⟨h1, h2, h3⟩ => ⟨h1, h2, fun x hx => by
    simp only [List.mem_singleton] at hx
    subst hx; exact h3⟩
theorem h_slc {U : Nat → Bool} {b n n' s c : Nat} {p : PV} (h : AV.withinL U [.slc b 0 n s c, .pv p] = true) : (AV.slc b 0 n' s c).within U = true := by
  simpa [AV.withinL, AV.within] using h
theorem rexec_sliceHiC (C : Cx E T n) {d : Option Nat} {t : TypeId} {x y : Operand} {ty : TypeId} {pos : String} {af : Array Edge} {g : Option (Nat × Bool)} {st : St} {K : St → Prop} {b m s c : Nat} {kk : IntKind} {r re : TyRow} {te : TypeId} (h : Nat) (h1 : dstB n ⟨d, .slice t x none (some y) none, ty, pos, af, g⟩ = true)
    (h2 : evls st.S [x, y] = some [.slc b 0 m s c, .pv (.lit (.int kk (h : Int)))]) (hr : T.lookup t = some r) (hdesc : r.desc = .slice te) (hre : T.lookup te = some re) (hs : re.size = s) (hh : h ≤ c) (h7 : K (st.after d { v := .slc b 0 h s c })) : rexec E cq n ⟨d, .slice t x none (some y) none, ty, pos, af, g⟩ st K := by
  subst hs
  exact rexec_value C h1 rfl h2 (fun hd => does_sliceC_hi C.tab rfl hd hr hdesc hre hh) (fun _ h => h_slc h) h7
theorem rexec_lenC (C : Cx E T n) {d : Option Nat} {c : Call} {t : TypeId} {ty : TypeId} {pos : String} {af : Array Edge} {g : Option (Nat × Bool)} {st : St} {K : St → Prop} {b m s k : Nat} {r : TyRow} {te : TypeId} (hc : c.callee = .builtin .len) (hty : c.argTypes = #[t]) (h1 : dstB n ⟨d, .call c, ty, pos, af, g⟩ = true)
    (h2 : evls st.S (Op.operands (.call c)).toList = some [.slc b 0 m s k]) (hr : T.lookup t = some r) (hdesc : r.desc = .slice te) (h7 : K (st.after d { v := .pv (.lit (.int .i64 m)) })) : rexec E cq n ⟨d, .call c, ty, pos, af, g⟩ st K :=
  rexec_value C h1 rfl h2 (fun hd => does_lenC C.tab rfl hc hty hd hr hdesc) (fun _ _ => rfl) h7
theorem sl_to {o : Option AV} {τ : Nat → Nat} {b b' m m' s : Nat} {t : Bool} (h : o = some (.sl b' 0 m s t)) (hb : τ b = b') (hm : m' = m) : o = some ((AV.sl b 0 m' s t).ren τ) := by
  subst hm; rw [h]; simp only [AV.ren, hb]
/-- A call that takes a row (block 0) and gives what does not change. -/
structure XCalls (P : Program) (f : FuncId) (avs : List AV) (k : Blk) (av : AV) : Prop where
  fn : ∃ fn, P.funcs[f]? = some fn ∧ (fn.name == "runtime.NumGoroutine") = false ∧ fn.body.isNone = false
  args : AV.withinL (fun b => b == 0) avs = true
  res : av.within (fun _ => false) = true
  blk : k.within (fun _ => false) = true
  calls : ACalls P f [0] avs [(0, k)] av []
theorem XCalls.of_body {P : Program} {T : Tab} (hT : TabOk P T) {f : FuncId} {fn : Func} {body : Code} (hf : P.funcs[f]? = some fn) (hb : fn.body = some body) (hn : (fn.name == "runtime.NumGoroutine") = false) {avs : List AV} {k : Blk} {av : AV} (hl : decide (avs.length ≤ fn.ntmps) = true) (ha : AV.withinL (fun b => b == 0) avs = true) (hr : av.within (fun _ => false) = true) (hk : k.within (fun _ => false) = true) (hm : P.follows .mixedOrders = true)
    (h : ∀ E : Env, E.P = P → Cx E T fn.ntmps → E.I = [0] → Awp E body (entry avs [(0, k)] [0]) fun e st => (e = .ret ∨ e = .normal) ∧ resAV T st fn.results.toList = some av) : XCalls P f avs k av where
  fn := ⟨fn, hf, hn, by simp [hb]⟩
  args := ha
  res := hr
  blk := hk
  calls := ACalls.of_body hT hf hb (by simpa using hl) fun E hP hE hI => (h E hP ⟨hP ▸ hT, hE, hP ▸ hm⟩ hI).mono fun e st ⟨h1, h2⟩ => ⟨h1, h2, fun x hx => by cases hx⟩
theorem rexec_callX {P : Program} (hP : E.P = P) (C : Cx E T n) {f : FuncId} {avs args : List AV} {av : AV} {k : Blk} {d : Option Nat} {b : Nat} {c : Call} {ty : TypeId} {pos : String} {af : Array Edge} {g : Option (Nat × Bool)} {st : St} {K : St → Prop} (h1 : dstB n ⟨d, .call c, ty, pos, af, g⟩ = true) (hc : c.callee = .value (.func f)) (hv : evls st.S c.args.toList = some args)
    (F : XCalls P f avs k av) (ha : AV.renL (fun _ => b) avs = args) (hb : st.H b = some k) (h7 : K (st.after d { v := av, wr := [(b, none)] })) (hreach : reachB (.fn f [] [] :: args) [] [(b, k)] = true := by rfl) (hbr : refs (.fn f [] [] :: args) [(b, k)] b = true := by rfl) (hp : clsOf cq ⟨d, .call c, ty, pos, af, g⟩ ≠ .pure := by decide) (hq : clsOf cq ⟨d, .call c, ty, pos, af, g⟩ ≠ .quiet := by decide) (hft : footB (clsOf cq ⟨d, .call c, ty, pos, af, g⟩) [(b, k)] { v := av, wr := [(b, none)] } = true := by rfl) : rexec E cq n ⟨d, .call c, ty, pos, af, g⟩ st K := by
  subst hP
  obtain ⟨fn, q1, q2, q3⟩ := F.fn
  have hd : ∀ x, d = some x → x < E.n := fun x e => by
    simp only [dstB, e, decide_eq_true_eq] at h1
    exact C.n ▸ h1
  have hin : inI [0] = fun b => b == 0 := funext fun b => by cases b <;> rfl
  have ok : CallOk ⟨fun _ => b, []⟩ [0] avs [(0, k)] [] av := by
    refine { args := by rw [hin]; exact F.args, ids := ?_, blks := ?_, nodup := by simp, inj := ?_, nodupL := by simp, nodupR := by simp, fresh := ?_, res := ?_, res' := ?_, kept := ?_, all := ?_, used := ?_ }
    · intro x hx; simp only [List.mem_singleton] at hx; subst hx; rfl
    · intro x hx; simp only [List.mem_singleton] at hx; subst hx; exact Blk.within_mono (fun b hb => by cases hb) k F.blk
    · intro x y hx hy _; simp [inI] at hx hy; omega
    · intro x hx; cases hx
    · exact AV.within_mono (fun x hx => by cases hx) av F.res
    · intro x hx; cases hx
    · intro x hx; cases hx
    · intro x hx; cases hx
    · intro x hx
      have : x = 0 := by simpa [inI] using hx
      subst this; exact .inr rfl
  have hdo := does_call (E := E) (o := ⟨d, .call c, ty, pos, af, g⟩) (c := c) rfl hc hd q1 q2 q3 F.calls ok (args := args) (caps := []) (by simpa using ha)
  have he : Names.delta ⟨fun _ => b, []⟩ [0] [(0, k)] [] av = { v := av, wr := [(b, none)] } := by
    simp only [Names.delta, List.map_nil, List.map_cons, AV.ren_none av F.res]
    rfl
  have hH : ([(0, k)] : List (Nat × Blk)).map (fun x => ((fun _ => b) x.1, x.2.ren (fun _ => b))) = [(b, k)] := by
    simp only [List.map_cons, List.map_nil, Blk.ren_none F.blk]
  rw [he] at hdo
  have hdo' : Does E ⟨d, .call c, ty, pos, af, g⟩ (.fn f [] [] :: args) [(b, k)] { v := av, wr := [(b, none)] } := by
    rw [← hH]; exact hdo
  have hops : (Op.operands (.call c)).toList = .func f :: c.args.toList := by simp [Op.operands, Call.operands, hc]
  refine ⟨h1, .fn f [] [] :: args, [(b, k)], _, { vals := ?_, deps := ?_, fresh := fun _ h => (by cases h), does := hdo', reach := hreach, inV := ?_, inN := fun _ h => (by cases h), inW := ?_, wr := ?_, pure := fun h => ?_, quiet := fun h => ?_, foot := hft }, h7⟩
  · show evls st.S (Op.operands (.call c)).toList = _
    rw [hops]; simp only [evls, evl, hv]
  · intro x hx; simp only [List.mem_singleton] at hx; subst hx; exact hb
  · exact AV.within_mono (fun x hx => by cases hx) av F.res
  · intro x hx q hq
    simp only [List.mem_singleton] at hx
    subst hx; cases hq
  · intro x hx
    simp only [List.mem_singleton] at hx
    subst hx
    rw [hbr]; simp
  · exact absurd h hp
  · exact absurd h hq
end steps
end Go.Am
namespace Go.Am
theorem withinL0 {xs : List AV} (h : AV.withinL (fun _ => false) xs = true) : AV.withinL (fun b => b == 0) xs = true := AV.withinL_mono (fun _ hb => by cases hb) xs h
section steps
variable {E : Env} {T : Tab} {cq : Oper → Cls} {n : Nat} {ops : Array Oper}
/-- A call that takes a row (block 0), changes it in place, and gives what does not change. -/
structure MCalls (P : Program) (f : FuncId) (avs : List AV) (k : Blk) (av : AV) (k' : Blk) : Prop where
  fn : ∃ fn, P.funcs[f]? = some fn ∧ (fn.name == "runtime.NumGoroutine") = false ∧ fn.body.isNone = false
  args : AV.withinL (fun b => b == 0) avs = true
  res : av.within (fun _ => false) = true
  blk : k.within (fun _ => false) = true
  blk' : k'.within (fun _ => false) = true
  calls : ACalls P f [0] avs [(0, k)] av [(0, k')]
theorem MCalls.of_body {P : Program} {T : Tab} (hT : TabOk P T) {f : FuncId} {fn : Func} {body : Code} (hf : P.funcs[f]? = some fn) (hb : fn.body = some body) (hn : (fn.name == "runtime.NumGoroutine") = false) {avs : List AV} {k k' : Blk} {av : AV} (hl : decide (avs.length ≤ fn.ntmps) = true) (ha : AV.withinL (fun b => b == 0) avs = true) (hr : av.within (fun _ => false) = true) (hk : k.within (fun _ => false) = true) (hk' : k'.within (fun _ => false) = true) (hm : P.follows .mixedOrders = true)
    (h : ∀ E : Env, E.P = P → Cx E T fn.ntmps → E.I = [0] → Awp E body (entry avs [(0, k)] [0]) fun e st => (e = .ret ∨ e = .normal) ∧ resAV T st fn.results.toList = some av ∧ st.H 0 = some k') : MCalls P f avs k av k' where
  fn := ⟨fn, hf, hn, by simp [hb]⟩
  args := ha
  res := hr
  blk := hk
  blk' := hk'
  calls := ACalls.of_body hT hf hb (by simpa using hl) fun E hP hE hI => (h E hP ⟨hP ▸ hT, hE, hP ▸ hm⟩ hI).mono fun e st ⟨h1, h2, h3⟩ => ⟨h1, h2, fun x hx => by simp only [List.mem_singleton] at hx; subst hx; exact h3⟩
theorem rexec_callM {P : Program} (hP : E.P = P) (C : Cx E T n) {f : FuncId} {avs args : List AV} {av : AV} {k k' : Blk} {d : Option Nat} {b : Nat} {c : Call} {ty : TypeId} {pos : String} {af : Array Edge} {g : Option (Nat × Bool)} {st : St} {K : St → Prop} (h1 : dstB n ⟨d, .call c, ty, pos, af, g⟩ = true) (hc : c.callee = .value (.func f)) (hv : evls st.S c.args.toList = some args)
    (F : MCalls P f avs k av k') (ha : AV.renL (fun _ => b) avs = args) (hb : st.H b = some k) (h7 : K (st.after d { v := av, wr := [(b, some k')] })) (hreach : reachB (.fn f [] [] :: args) [] [(b, k)] = true := by rfl) (hbr : refs (.fn f [] [] :: args) [(b, k)] b = true := by rfl) (hp : clsOf cq ⟨d, .call c, ty, pos, af, g⟩ ≠ .pure := by decide) (hq : clsOf cq ⟨d, .call c, ty, pos, af, g⟩ ≠ .quiet := by decide) (hft : footB (clsOf cq ⟨d, .call c, ty, pos, af, g⟩) [(b, k)] { v := av, wr := [(b, some k')] } = true := by rfl) : rexec E cq n ⟨d, .call c, ty, pos, af, g⟩ st K := by
  subst hP
  obtain ⟨fn, q1, q2, q3⟩ := F.fn
  have hd : ∀ x, d = some x → x < E.n := fun x e => by
    simp only [dstB, e, decide_eq_true_eq] at h1
    exact C.n ▸ h1
  have hin : inI [0] = fun b => b == 0 := funext fun b => by cases b <;> rfl
  have hk0 : Names.knows ⟨fun _ => b, []⟩ [0] 0 = true := by simp [Names.knows, inI]
  have ok : CallOk ⟨fun _ => b, []⟩ [0] avs [(0, k)] [(0, k')] av := by
    refine { args := by rw [hin]; exact F.args, ids := ?_, blks := ?_, nodup := by simp, inj := ?_, nodupL := by simp, nodupR := by simp, fresh := ?_, res := ?_, res' := ?_, kept := ?_, all := ?_, used := ?_ }
    · intro x hx; simp only [List.mem_singleton] at hx; subst hx; rfl
    · intro x hx; simp only [List.mem_singleton] at hx; subst hx; exact Blk.within_mono (fun b hb => by cases hb) k F.blk
    · intro x y hx hy _; simp [inI] at hx hy; omega
    · intro x hx; cases hx
    · exact AV.within_mono (fun x hx => by cases hx) av F.res
    · intro x hx
      simp only [List.mem_singleton] at hx
      subst hx
      exact ⟨hk0, Blk.within_mono (fun b hb => by cases hb) k' F.blk'⟩
    · intro x hx _; simp only [List.mem_singleton] at hx; subst hx; exact ⟨k, List.mem_singleton.2 rfl⟩
    · intro x hx; cases hx
    · intro x hx
      have : x = 0 := by simpa [inI] using hx
      subst this; exact .inr rfl
  have hdo := does_call (E := E) (o := ⟨d, .call c, ty, pos, af, g⟩) (c := c) rfl hc hd q1 q2 q3 F.calls ok (args := args) (caps := []) (by simpa using ha)
  have he : Names.delta ⟨fun _ => b, []⟩ [0] [(0, k)] [(0, k')] av = { v := av, wr := [(b, some k')] } := by
    have e2 : heapOf [(0, k')] 0 = some k' := rfl
    simp only [Names.delta, List.map_nil, List.map_cons, AV.ren_none av F.res, e2, Option.map_some, Blk.ren_none F.blk']
  have hH : ([(0, k)] : List (Nat × Blk)).map (fun x => ((fun _ => b) x.1, x.2.ren (fun _ => b))) = [(b, k)] := by
    simp only [List.map_cons, List.map_nil, Blk.ren_none F.blk]
  rw [he] at hdo
  have hdo' : Does E ⟨d, .call c, ty, pos, af, g⟩ (.fn f [] [] :: args) [(b, k)] { v := av, wr := [(b, some k')] } := by
    rw [← hH]; exact hdo
  have hops : (Op.operands (.call c)).toList = .func f :: c.args.toList := by simp [Op.operands, Call.operands, hc]
  refine ⟨h1, .fn f [] [] :: args, [(b, k)], _, { vals := ?_, deps := ?_, fresh := fun _ h => (by cases h), does := hdo', reach := hreach, inV := ?_, inN := fun _ h => (by cases h), inW := ?_, wr := ?_, pure := fun h => ?_, quiet := fun h => ?_, foot := hft }, h7⟩
  · show evls st.S (Op.operands (.call c)).toList = _
    rw [hops]; simp only [evls, evl, hv]
  · intro x hx; simp only [List.mem_singleton] at hx; subst hx; exact hb
  · exact AV.within_mono (fun x hx => by cases hx) av F.res
  · intro x hx q hq
    simp only [List.mem_singleton] at hx
    subst hx
    obtain rfl := Option.some.inj hq
    exact Blk.within_mono (fun b hb => by cases hb) k' F.blk'
  · intro x hx
    simp only [List.mem_singleton] at hx
    subst hx
    rw [hbr]; simp
  · exact absurd h hp
  · exact absurd h hq
end steps
end Go.Am
namespace Go.Am
/-- Is a pointer nil? -/
def nilP : AV → Option Bool
  | .pv (.lit (.pointer none)) => some true
  | .ptr _ _ => some false
  | .rp _ => some false
  | _ => none
theorem nilP_holds {ι : Nat → Option (Nat × Nat)} {imm : Nat → Prop} {w : World} {x : AV} {f : Bool} (h : nilP x = some f) {v : Value} (hv : VH ι imm w x v) : ∃ A, v = .pointer A ∧ A.isNone = f := by
  unfold nilP at h
  split at h
  · simp only [Option.some.injEq] at h
    subst h
    simp only [VH, PH] at hv
    exact ⟨none, hv.1, rfl⟩
  · simp only [Option.some.injEq] at h
    subst h
    simp only [VH] at hv
    obtain ⟨r, z, _, e⟩ := hv
    exact ⟨_, e, rfl⟩
  · simp only [Option.some.injEq] at h
    subst h
    simp only [VH] at hv
    obtain ⟨a, e, _⟩ := hv
    exact ⟨_, e, rfl⟩
  · cases h
section ops
variable {E : Env} {T : Tab}
theorem does_eqPtr (hT : TabOk E.P T) {o : Oper} {op : BinOp} {t yt : TypeId} {x y : Operand} (ho : o.op = .binOp op t x y yt) (hd : ∀ d, o.dst = some d → d < E.n) {r : TyRow} (hr : T.lookup t = some r) {et : TypeId} (hdesc : r.desc = .pointer et) {u v z : AV} {f g : Bool} (hf : nilP u = some f) (hg : nilP v = some g) (hfg : (f || g) = true) (h : opB op (f && g) = some z) : Does E o [u, v] [] { v := z } := by
  refine Does.value hd fun ι imm st a w hs hv _ => ?_
  rw [ho] at hv
  simp only [Op.operands, List.map_cons, List.map_nil] at hv
  obtain ⟨h1, h2⟩ := hv.two
  have hu := run_underlying hT hr w (P := E.P)
  obtain ⟨dep, hdp⟩ : ∃ d, Op.maxDepth = d + 1 := ⟨_, rfl⟩
  have fin : ∀ {b : Bool}, (Op.equal t (a.eval x) (a.eval y)).run E.P w = .ok b w → (eqGuard op t x y (a.eval x) (a.eval y)).run E.P w = .ok () w → (∀ op', (op' = .eql ∨ op' = .neq) → binOp op' t (a.eval x) (a.eval y) = (match op' with | .eql => (do let q ← Op.equal t (a.eval x) (a.eval y); pure (.bool q)) | _ => (do let q ← Op.equal t (a.eval x) (a.eval y); pure (.bool !q)))) →
      opB op b = some z → ∃ q, (execOp a.eval o).run E.P w = .ok (.value q) w ∧ VH ι imm w z q := by
    intro b hb hg hbin hz
    by_cases e1 : op = .eql
    · subst e1
      simp only [opB, Option.some.injEq] at hz; subst hz
      refine ⟨.bool b, ?_, by simp [VH, PH, flatB]⟩
      simp only [execOp, ho, run_bind', hg, hbin .eql (.inl rfl), hb, run_pure']
    · by_cases e2 : op = .neq
      · subst e2
        simp only [opB, Option.some.injEq] at hz; subst hz
        refine ⟨.bool !b, ?_, by simp [VH, PH, flatB]⟩
        simp only [execOp, ho, run_bind', hg, hbin .neq (.inr rfl), hb, run_pure']
      · exfalso; cases op <;> simp_all [opB]
  obtain ⟨A, e1, e2⟩ := nilP_holds hf h1
  obtain ⟨B, e3, e4⟩ := nilP_holds hg h2
  refine fin (b := f && g) ?_ (by rw [e1]; exact eqGuard_run w (by simp) (by simp)) (fun op' ho' => by rw [e1, e3]; rcases ho' with rfl | rfl <;> rfl) h
  unfold Op.equal
  rw [hdp, e1, e3]
  cases A <;> cases B <;> simp only [Option.isNone_none, Option.isNone_some] at e2 e4 <;> subst e2 <;> subst e4 <;> first | (cases hfg; done) | skip
  all_goals simp only [Op.equalIn, run_bind', hu, hdesc, run_pure']; rfl
end ops
section steps
variable {E : Env} {T : Tab} {cq : Oper → Cls} {n : Nat} {ops : Array Oper}
theorem rexec_eqPtr (C : Cx E T n) {d : Option Nat} {op : BinOp} {t t' : TypeId} {x y : Operand} {ty : TypeId} {pos : String} {af : Array Edge} {g : Option (Nat × Bool)} {st : St} {K : St → Prop}
    {r : TyRow} {et : TypeId} {u v : AV} (p q : Bool) {z : AV} (h1 : dstB n ⟨d, .binOp op t x y t', ty, pos, af, g⟩ = true) (h2 : evls st.S [x, y] = some [u, v]) (hr : T.lookup t = some r) (hd : r.desc = .pointer et) (hp : nilP u = some p) (hq : nilP v = some q) (hpq : (p || q) = true) (hz : opB op (p && q) = some z) (hw : z.within (fun _ => false) = true) (h7 : K (st.after d { v := z })) :
    rexec E cq n ⟨d, .binOp op t x y t', ty, pos, af, g⟩ st K := by
  have hd' : ∀ x, d = some x → x < E.n := fun x e => by
    simp only [dstB, e, decide_eq_true_eq] at h1
    exact C.n ▸ h1
  refine ⟨h1, _, _, _, { vals := h2, deps := fun _ h => (by cases h), fresh := fun _ h => (by cases h), does := does_eqPtr C.tab (o := ⟨d, .binOp op t x y t', ty, pos, af, g⟩) rfl hd' hr hd hp hq hpq hz, reach := rfl, inV := AV.within_mono (fun b hb => by cases hb) _ hw, inN := fun _ h => (by cases h), inW := fun _ h => (by cases h), wr := fun _ h => (by cases h), pure := fun _ => ⟨rfl, rfl, rfl⟩, quiet := fun _ => rfl, foot := by cases (clsOf cq ⟨d, .binOp op t x y t', ty, pos, af, g⟩) <;> rfl }, h7⟩
end steps
end Go.Am
namespace Go.Am
section steps
variable {E : Env} {T : Tab} {cq : Oper → Cls} {n : Nat} {ops : Array Oper}
end steps
end Go.Am
namespace Go.Am
theorem VHs.lone {ι κ : Nat → Option (Nat × Nat)} {imm : Nat → Prop} {w : World} : ∀ {xs : List AV} {vs : List Value}, AV.withinL (fun _ => false) xs = true → VHs ι imm w xs vs → VHs κ imm w xs vs
  | [], _, _, h => h
  | x :: xs, vs, hu, h => by
    simp only [AV.withinL, Bool.and_eq_true] at hu
    simp only [VHs] at h ⊢
    obtain ⟨v, us, rfl, h1, h2⟩ := h
    refine ⟨v, us, rfl, ?_, VHs.lone hu.2 h2⟩
    have := (VH.ren (ι := ι) (κ := κ) (σ := fun b => b) (U := fun _ => false) (fun b hb => by cases hb) x v hu.1).2 h1
    rwa [AV.ren_id] at this
end Go.Am
namespace Go.Am
end Go.Am
namespace Go.Am
mutual
def depthA : AV → Nat
  | .agg cs => depthL cs + 1
  | _ => 0
def depthL : List AV → Nat
  | [] => 0
  | x :: xs => depthA x + depthL xs
end
/-- Keys as values told whole. -/
structure KEnc (κ : Type) where
  enc : κ → AV
  eq : κ → κ → Bool
  rig : ∀ a, rigid (enc a) = true
  dep : ∀ a, depthA (enc a) ≤ 10000
  spec : ∀ a b, eq a b = true ↔ enc a = enc b
section plain
variable {κ β : Type} (KE : KEnc κ)
def mGet (k : κ) : List (κ × β) → Option β
  | [] => none
  | e :: D => if KE.eq k e.1 then some e.2 else mGet k D
def mSet (k : κ) (x : β) : List (κ × β) → List (κ × β)
  | [] => [(k, x)]
  | e :: D => if KE.eq k e.1 then (e.1, x) :: D else e :: mSet k x D
def mDel (k : κ) : List (κ × β) → List (κ × β)
  | [] => []
  | e :: D => if KE.eq k e.1 then D else e :: mDel k D
/-- Each key stands once. -/
def mOnce (D : List (κ × β)) : Prop := (D.map fun e => KE.enc e.1).Nodup
variable {KE}
theorem mOnce.perm {D D' : List (κ × β)} (h : mOnce KE D) (hp : D.Perm D') : mOnce KE D' := (hp.map _).nodup_iff.1 h
theorem mOnce.tail {e : κ × β} {D : List (κ × β)} (h : mOnce KE (e :: D)) : mOnce KE D := by
  unfold mOnce at h ⊢
  rw [List.map_cons, List.nodup_cons] at h
  exact h.2
theorem mOnce.two {e f : κ × β} {D : List (κ × β)} (h : mOnce KE (e :: f :: D)) {k : κ} (h1 : KE.eq k e.1 = true) (h2 : KE.eq k f.1 = true) : False := by
  unfold mOnce at h
  rw [List.map_cons, List.nodup_cons] at h
  refine h.1 ?_
  rw [List.map_cons, ← (KE.spec _ _).1 h1, ← (KE.spec _ _).1 h2]
  exact List.mem_cons_self ..
theorem mGet_perm {k : κ} {D D' : List (κ × β)} (hp : D.Perm D') : mOnce KE D → mGet KE k D = mGet KE k D' := by
  induction hp with
  | nil => intro _; rfl
  | cons e _ ih => intro h; simp only [mGet, ih h.tail]
  | swap a b D =>
    intro h
    simp only [mGet]
    cases h1 : KE.eq k a.1 <;> cases h2 : KE.eq k b.1 <;> simp
    exact (h.two h2 h1).elim
  | trans p _ ih1 ih2 => intro h; exact (ih1 h).trans (ih2 (h.perm p))
theorem mSet_perm {k : κ} {x : β} {D D' : List (κ × β)} (hp : D.Perm D') : mOnce KE D → (mSet KE k x D).Perm (mSet KE k x D') := by
  induction hp with
  | nil => intro _; exact .refl _
  | cons e p ih =>
    intro h
    simp only [mSet]
    cases KE.eq k e.1
    · exact (ih h.tail).cons _
    · exact p.cons _
  | swap a b D =>
    intro h
    simp only [mSet]
    cases h1 : KE.eq k a.1 <;> cases h2 : KE.eq k b.1 <;> simp
    · exact .swap _ _ _
    · exact .swap _ _ _
    · exact .swap _ _ _
    · exact (h.two h2 h1).elim
  | trans p _ ih1 ih2 => intro h; exact (ih1 h).trans (ih2 (h.perm p))
theorem mDel_perm {k : κ} {D D' : List (κ × β)} (hp : D.Perm D') : mOnce KE D → (mDel KE k D).Perm (mDel KE k D') := by
  induction hp with
  | nil => intro _; exact .refl _
  | cons e p ih =>
    intro h
    simp only [mDel]
    cases KE.eq k e.1
    · exact (ih h.tail).cons _
    · exact p
  | swap a b D =>
    intro h
    simp only [mDel]
    cases h1 : KE.eq k a.1 <;> cases h2 : KE.eq k b.1 <;> simp
    · exact .swap _ _ _
    · exact (h.two h2 h1).elim
  | trans p _ ih1 ih2 => intro h; exact (ih1 h).trans (ih2 (h.perm p))
theorem mSet_mem {k : κ} {x : β} : ∀ {D : List (κ × β)} {v : AV}, v ∈ (mSet KE k x D).map (fun e => KE.enc e.1) → v = KE.enc k ∨ v ∈ D.map (fun e => KE.enc e.1)
  | [], v, h => by simp only [mSet, List.map_cons, List.map_nil, List.mem_singleton] at h; exact .inl h
  | e :: D, v, h => by
    unfold mSet at h
    split at h
    · exact .inr (by simpa using h)
    · rw [List.map_cons, List.mem_cons] at h
      rcases h with h | h
      · exact .inr (by rw [List.map_cons, h]; exact List.mem_cons_self ..)
      · rcases mSet_mem h with h | h
        · exact .inl h
        · exact .inr (by rw [List.map_cons]; exact List.mem_cons_of_mem _ h)
theorem mSet_once {k : κ} {x : β} : ∀ {D : List (κ × β)}, mOnce KE D → mOnce KE (mSet KE k x D)
  | [], _ => by simp [mOnce, mSet]
  | e :: D, h => by
    unfold mSet
    split
    · unfold mOnce at h ⊢; exact h
    · rename_i hk
      have ih := mSet_once (k := k) (x := x) h.tail
      unfold mOnce at h ih ⊢
      rw [List.map_cons, List.nodup_cons] at h ⊢
      refine ⟨fun hm => ?_, ih⟩
      rcases mSet_mem hm with q | q
      · exact hk ((KE.spec _ _).2 q.symm)
      · exact h.1 q
theorem mDel_sub {k : κ} : ∀ (D : List (κ × β)), (mDel KE k D).Sublist D
  | [] => .refl _
  | e :: D => by
    unfold mDel
    split
    · exact .cons _ (.refl _)
    · exact (mDel_sub D).cons_cons _
theorem mDel_once {k : κ} {D : List (κ × β)} (h : mOnce KE D) : mOnce KE (mDel KE k D) := List.Sublist.nodup ((mDel_sub D).map _) h
end plain
/-- A map as a block. -/
def mapE {κ β : Type} (KE : KEnc κ) (ve : β → AV) (D : List (κ × β)) : Blk := .map (D.map fun e => (KE.enc e.1, ve e.2))
theorem map_perm {α β : Type} {f : α → β} {l l' : List β} (hp : l.Perm l') : ∀ {D : List α}, D.map f = l → ∃ D', D.Perm D' ∧ D'.map f = l' := by
  induction hp with
  | nil => intro D h; exact ⟨D, .refl _, h⟩
  | cons x _ ih =>
    intro D h
    cases D with
    | nil => cases h
    | cons d D =>
      rw [List.map_cons] at h
      injection h with h1 h2
      obtain ⟨D', q1, q2⟩ := ih h2
      exact ⟨d :: D', q1.cons _, by rw [List.map_cons, h1, q2]⟩
  | swap x y l =>
    intro D h
    match D, h with
    | a :: b :: D, h =>
      rw [List.map_cons, List.map_cons] at h
      injection h with h1 h2
      injection h2 with h2 h3
      exact ⟨b :: a :: D, .swap _ _ _, by rw [List.map_cons, List.map_cons, h1, h2, h3]⟩
  | trans _ _ ih1 ih2 =>
    intro D h
    obtain ⟨D1, q1, q2⟩ := ih1 h
    obtain ⟨D2, q3, q4⟩ := ih2 q2
    exact ⟨D2, q1.trans q3, q4⟩
theorem EntsH.perm {ι : Nat → Option (Nat × Nat)} {imm : Nat → Prop} {w : World} {l l' : List MapEntry} (hp : l.Perm l') : ∀ {es : List (AV × AV)}, EntsH ι imm w es l → ∃ es', es.Perm es' ∧ EntsH ι imm w es' l' := by
  induction hp with
  | nil => intro es h; exact ⟨es, .refl _, h⟩
  | cons x _ ih =>
    intro es h
    cases es with
    | nil => cases h
    | cons e es =>
      obtain ⟨e0, us, h1, h2, h3, h4⟩ := h
      injection h1 with h1 h1'
      subst h1; subst h1'
      obtain ⟨es', q1, q2⟩ := ih h4
      exact ⟨e :: es', q1.cons _, ⟨_, _, rfl, h2, h3, q2⟩⟩
  | swap x y l =>
    intro es h
    match es, h with
    | a :: b :: es, h =>
      obtain ⟨e0, us, h1, h2, h3, h4⟩ := h
      obtain ⟨e1, us1, h5, h6, h7, h8⟩ := h4
      subst h5
      injection h1 with h1 h1'
      injection h1' with h1' h1''
      subst h1; subst h1'; subst h1''
      exact ⟨b :: a :: es, .swap _ _ _, ⟨_, _, rfl, h6, h7, _, _, rfl, h2, h3, h8⟩⟩
    | [a], h => obtain ⟨e0, us, h1, h2, h3, h4⟩ := h; simp only [EntsH] at h4; subst h4; cases h1
    | [], h => cases h
  | trans _ _ ih1 ih2 =>
    intro es h
    obtain ⟨e1, q1, q2⟩ := ih1 h
    obtain ⟨e2, q3, q4⟩ := ih2 q2
    exact ⟨e2, q1.trans q3, q4⟩
theorem EntsH.perm' {ι : Nat → Option (Nat × Nat)} {imm : Nat → Prop} {w : World} {es es' : List (AV × AV)} (hp : es.Perm es') : ∀ {l : List MapEntry}, EntsH ι imm w es l → ∃ l', l.Perm l' ∧ EntsH ι imm w es' l' := by
  induction hp with
  | nil => intro l h; exact ⟨l, .refl _, h⟩
  | cons x _ ih =>
    intro l h
    obtain ⟨e0, us, rfl, h2, h3, h4⟩ := h
    obtain ⟨l', q1, q2⟩ := ih h4
    exact ⟨e0 :: l', q1.cons _, ⟨_, _, rfl, h2, h3, q2⟩⟩
  | swap x y l =>
    intro l h
    obtain ⟨e0, us, rfl, h2, h3, e1, us1, rfl, h6, h7, h8⟩ := h
    exact ⟨e1 :: e0 :: us1, .swap _ _ _, ⟨_, _, rfl, h6, h7, _, _, rfl, h2, h3, h8⟩⟩
  | trans _ _ ih1 ih2 =>
    intro l h
    obtain ⟨e1, q1, q2⟩ := ih1 h
    obtain ⟨e2, q3, q4⟩ := ih2 q2
    exact ⟨e2, q1.trans q3, q4⟩
mutual
theorem rigid_eq {ι κ : Nat → Option (Nat × Nat)} {i j : Nat → Prop} {w w' : World} : ∀ (x : AV), rigid x = true → ∀ u v, VH ι i w x u → VH κ j w' x v → u = v
  | .agg cs, h, u, v, h1, h2 => by
    simp only [rigid] at h
    simp only [VH] at h1 h2
    obtain ⟨us, rfl, h1⟩ := h1
    obtain ⟨vs, rfl, h2⟩ := h2
    rw [rigidL_eq cs h us vs h1 h2]
  | .pv (.lit x), h, u, v, h1, h2 => by
    simp only [VH, PH] at h1 h2
    rw [h1.1, h2.1]
  | .pv (.sl _ _ _), h, _, _, _, _ | .undef, h, _, _, _, _ | .tup _, h, _, _, _, _ | .ptr _ _, h, _, _, _, _ | .sl _ _ _ _ _, h, _, _, _, _ | .slc _ _ _ _ _, h, _, _, _, _ | .tsl _ _, h, _, _, _, _ | .rp _, h, _, _, _, _ | .mp _, h, _, _, _, _ | .fn _ _ _, h, _, _, _, _ => by simp [rigid, rigidP] at h
theorem rigidL_eq {ι κ : Nat → Option (Nat × Nat)} {i j : Nat → Prop} {w w' : World} : ∀ (xs : List AV), rigidL xs = true → ∀ us vs, VHs ι i w xs us → VHs κ j w' xs vs → us = vs
  | [], _, us, vs, h1, h2 => by simp only [VHs] at h1 h2; rw [h1, h2]
  | x :: xs, h, us, vs, h1, h2 => by
    simp only [rigidL, Bool.and_eq_true] at h
    obtain ⟨u, us, rfl, a1, a2⟩ := h1
    obtain ⟨v, vs, rfl, b1, b2⟩ := h2
    rw [rigid_eq x h.1 u v a1 b1, rigidL_eq xs h.2 us vs a2 b2]
end
mutual
theorem rigid_same {ι : Nat → Option (Nat × Nat)} {i : Nat → Prop} {w : World} : ∀ (x : AV), rigid x = true → ∀ v, VH ι i w x v → ∀ n, depthA x ≤ n → Instr.sameBits n v v = true
  | .agg cs, h, v, h1, n, hn => by
    simp only [rigid] at h
    simp only [VH] at h1
    simp only [depthA] at hn
    obtain ⟨vs, rfl, h1⟩ := h1
    obtain ⟨n, rfl⟩ : ∃ k, n = k + 1 := ⟨n - 1, by omega⟩
    simp only [Instr.sameBits, beq_self_eq_true, Bool.true_and]
    exact rigidL_same cs h vs h1 n (by omega)
  | .pv (.lit x), h, v, h1, n, _ => by
    simp only [VH, PH] at h1; rw [h1.1]
    cases x with
    | int k m => unfold Instr.sameBits; cases n <;> simp
    | bool b => unfold Instr.sameBits; cases n <;> simp
    | string s => unfold Instr.sameBits; cases n <;> exact (Go.MapKept.bytes_beq s s).2 rfl
    | _ => simp [rigid, rigidP] at h
  | .pv (.sl _ _ _), h, _, _, _, _ | .undef, h, _, _, _, _ | .tup _, h, _, _, _, _ | .ptr _ _, h, _, _, _, _ | .sl _ _ _ _ _, h, _, _, _, _ | .slc _ _ _ _ _, h, _, _, _, _ | .tsl _ _, h, _, _, _, _ | .rp _, h, _, _, _, _ | .mp _, h, _, _, _, _ | .fn _ _ _, h, _, _, _, _ => by simp [rigid, rigidP] at h
theorem rigidL_same {ι : Nat → Option (Nat × Nat)} {i : Nat → Prop} {w : World} : ∀ (xs : List AV), rigidL xs = true → ∀ vs, VHs ι i w xs vs → ∀ n, depthL xs ≤ n → ((vs.zip vs).all fun (x, y) => Instr.sameBits n x y) = true
  | [], _, vs, h1, _, _ => by simp only [VHs] at h1; subst h1; rfl
  | x :: xs, h, vs, h1, n, hn => by
    simp only [rigidL, Bool.and_eq_true] at h
    simp only [depthL] at hn
    obtain ⟨u, us, rfl, a1, a2⟩ := h1
    simp only [List.zip_cons_cons, List.all_cons, rigid_same x h.1 u a1 n (by omega), rigidL_same xs h.2 us a2 n (by omega), Bool.and_self]
end
/-- What the model's maps ask of a type of keys. -/
structure KeyOk {κ : Type} (P : Program) (kt : TypeId) (KE : KEnc κ) : Prop where
  check : ∀ {ι : Nat → Option (Nat × Nat)} {imm : Nat → Prop} {w : World} (em : Bool) (k : κ) (v : Value), VH ι imm w (KE.enc k) v → (Instr.checkKey em 10000 kt v).run P w = .ok () w
  now : (∃ d, P.underlying kt = some d ∧ ∀ {ι : Nat → Option (Nat × Nat)} {imm : Nat → Prop} {w : World} (a b : κ) (u v : Value), VH ι imm w (KE.enc a) u → VH ι imm w (KE.enc b) v → Instr.sameNow d u v = some (KE.eq a b)) ∨
    ((∃ d, P.underlying kt = some d ∧ ∀ u v, Instr.sameNow d u v = none) ∧ ∀ {ι : Nat → Option (Nat × Nat)} {imm : Nat → Prop} {w : World} (a b : κ) (u v : Value), VH ι imm w (KE.enc a) u → VH ι imm w (KE.enc b) v → (Op.equal kt u v).run P w = .ok (KE.eq a b) w)
/-- The first entry of a key, and where it stands. -/
def lookL {κ β : Type} (KE : KEnc κ) (k : κ) : List (κ × β) → List MapEntry → Nat → Option (Nat × Value)
  | x :: D, e :: es, i => if KE.eq k x.1 then some (i, e.val) else lookL KE k D es (i + 1)
  | _, _, _ => none
section find
variable {κ β : Type} {KE : KEnc κ} {ve : β → AV} {P : Program} {kt : TypeId} {ι : Nat → Option (Nat × Nat)} {imm : Nat → Prop} {w : World}
theorem run_findAsking (h : ∀ {ι : Nat → Option (Nat × Nat)} {imm : Nat → Prop} {w : World} (a b : κ) (u v : Value), VH ι imm w (KE.enc a) u → VH ι imm w (KE.enc b) v → (Op.equal kt u v).run P w = .ok (KE.eq a b) w) {k : κ} {v : Value} (hv : VH ι imm w (KE.enc k) v) :
    ∀ (D : List (κ × β)) (l : List MapEntry) (i : Nat), EntsH ι imm w (D.map fun e => (KE.enc e.1, ve e.2)) l → (Instr.findAsking kt v l i).run P w = .ok (lookL KE k D l i) w
  | [], l, i, he => by simp only [List.map_nil, EntsH] at he; subst he; rfl
  | x :: D, l, i, he => by
    obtain ⟨e, us, rfl, h1, h2, h3⟩ := he
    have hq := h (ι := ι) (imm := imm) (w := w) k x.1 v e.key hv h1
    simp only [Instr.findAsking, run_bind', hq, lookL]
    cases KE.eq k x.1
    · simp only [Bool.false_eq_true, if_false]; exact run_findAsking h hv D us (i + 1) h3
    · simp only [if_true]; rfl
theorem findNow_eq {d : TypeDesc} (h : ∀ {ι : Nat → Option (Nat × Nat)} {imm : Nat → Prop} {w : World} (a b : κ) (u v : Value), VH ι imm w (KE.enc a) u → VH ι imm w (KE.enc b) v → Instr.sameNow d u v = some (KE.eq a b)) {k : κ} {v : Value} (hv : VH ι imm w (KE.enc k) v) :
    ∀ (D : List (κ × β)) (l : List MapEntry) (i : Nat), EntsH ι imm w (D.map fun e => (KE.enc e.1, ve e.2)) l → Instr.findNow d v l i = some (lookL KE k D l i)
  | [], l, i, he => by simp only [List.map_nil, EntsH] at he; subst he; rfl
  | x :: D, l, i, he => by
    obtain ⟨e, us, rfl, h1, h2, h3⟩ := he
    have hq := h (ι := ι) (imm := imm) (w := w) k x.1 v e.key hv h1
    simp only [Instr.findNow, hq, lookL]
    cases KE.eq k x.1
    · simp only [Bool.false_eq_true, if_false]; exact findNow_eq h hv D us (i + 1) h3
    · simp only [if_true]
theorem run_find (K : KeyOk P kt KE) {k : κ} {v : Value} (hv : VH ι imm w (KE.enc k) v) (D : List (κ × β)) (l : List MapEntry) (he : EntsH ι imm w (D.map fun e => (KE.enc e.1, ve e.2)) l) : (Instr.findKey kt v l).run P w = .ok (lookL KE k D l 0) w := by
  rcases K.now with ⟨d, h1, h2⟩ | ⟨⟨d, h1, h2⟩, h3⟩
  · simp only [Instr.findKey, underlying, program, run_bind', Sem.run, h1, run_pure', findNow_eq h2 hv D l 0 he]
  · cases l with
    | nil =>
      have : lookL KE k D [] 0 = none := by cases D <;> rfl
      simp only [Instr.findKey, underlying, program, run_bind', Sem.run, h1, run_pure', Instr.findNow, this]
    | cons e l =>
      simp only [Instr.findKey, underlying, program, run_bind', Sem.run, h1, run_pure', Instr.findNow, h2]
      exact run_findAsking h3 hv D (e :: l) 0 he
/-- What was found. -/
theorem lookL_some {k : κ} : ∀ {D : List (κ × β)} {l : List MapEntry} {i j : Nat} {x : Value}, EntsH ι imm w (D.map fun e => (KE.enc e.1, ve e.2)) l → lookL KE k D l i = some (j, x) →
    ∃ m e y, j = i + m ∧ l[m]? = some e ∧ e.val = x ∧ mGet KE k D = some y ∧ VH ι imm w (ve y) x ∧ VH ι imm w (KE.enc k) e.key ∧
      ∀ (u : Value) (z : β), VH ι imm w (ve z) u → EntsH ι imm w ((mSet KE k z D).map fun e => (KE.enc e.1, ve e.2)) (l.modify m fun e => { e with val := u }) ∧ EntsH ι imm w ((mDel KE k D).map fun e => (KE.enc e.1, ve e.2)) (l.eraseIdx m)
  | [], _, _, _, _, _, h => by simp [lookL] at h
  | x0 :: D, l, i, j, x, he, h => by
    obtain ⟨e, us, rfl, h1, h2, h3⟩ := he
    simp only [lookL] at h
    split at h
    · rename_i hq
      simp only [Option.some.injEq, Prod.mk.injEq] at h
      obtain ⟨rfl, rfl⟩ := h
      refine ⟨0, e, x0.2, rfl, rfl, rfl, by simp only [mGet, hq, if_true], h2, by rw [(KE.spec _ _).1 hq]; exact h1, fun u z hu => ?_⟩
      simp only [mSet, mDel, hq, if_true, List.modify_zero_cons, List.eraseIdx_zero, List.tail_cons, List.map_cons]
      exact ⟨⟨_, _, rfl, h1, hu, h3⟩, h3⟩
    · rename_i hq
      obtain ⟨m, e', y, q1, q2, q3, q4, q5, q6, q7⟩ := lookL_some h3 h
      refine ⟨m + 1, e', y, by omega, by simpa using q2, q3, by simp only [mGet, hq]; exact q4, q5, q6, fun u z hu => ?_⟩
      obtain ⟨a, b⟩ := q7 u z hu
      simp only [mSet, mDel, hq, List.modify_succ_cons, List.eraseIdx_cons_succ]
      exact ⟨⟨_, _, rfl, h1, h2, a⟩, ⟨_, _, rfl, h1, h2, b⟩⟩
theorem lookL_none {k : κ} : ∀ {D : List (κ × β)} {l : List MapEntry} {i : Nat}, EntsH ι imm w (D.map fun e => (KE.enc e.1, ve e.2)) l → lookL KE k D l i = none →
    mGet KE k D = none ∧ mDel KE k D = D ∧ ∀ z, mSet KE k z D = D ++ [(k, z)]
  | [], _, _, _, _ => ⟨rfl, rfl, fun _ => rfl⟩
  | x0 :: D, l, i, he, h => by
    obtain ⟨e, us, rfl, h1, h2, h3⟩ := he
    simp only [lookL] at h
    split at h
    · cases h
    · rename_i hq
      obtain ⟨a, b, c⟩ := lookL_none h3 h
      refine ⟨by simp only [mGet, hq]; exact a, by simp only [mDel, hq, b]; rfl, fun z => by simp only [mSet, hq, c]; rfl⟩
theorem EntsH.append {es : List (AV × AV)} : ∀ {l : List MapEntry} {k x : AV} {e : MapEntry}, EntsH ι imm w es l → VH ι imm w k e.key → VH ι imm w x e.val → EntsH ι imm w (es ++ [(k, x)]) (l ++ [e]) := by
  induction es with
  | nil => intro l k x e h h1 h2; simp only [EntsH] at h; subst h; exact ⟨_, _, rfl, h1, h2, rfl⟩
  | cons a es ih => intro l k x e h h1 h2; obtain ⟨e0, us, rfl, q1, q2, q3⟩ := h; exact ⟨_, _, rfl, q1, q2, ih q3 h1 h2⟩
end find
end Go.Am
namespace Go.Am
section worlds
variable {E : Env} {κ β : Type} {KE : KEnc κ} {ve : β → AV} {ι : Nat → Option (Nat × Nat)} {imm : Nat → Prop} {st : St} {a : Act} {w : World}
theorem keysOk_map {D : List (κ × β)} : KeysOk (D.map fun e => (KE.enc e.1, ve e.2)) ↔ mOnce KE D := by
  have e : (D.map fun e => (KE.enc e.1, ve e.2)).map (·.1) = D.map fun e => KE.enc e.1 := by rw [List.map_map]; rfl
  constructor
  · rintro ⟨_, h⟩; unfold mOnce; rwa [e] at h
  · intro h
    refine ⟨fun x hx => ?_, by rw [e]; exact h⟩
    obtain ⟨y, _, rfl⟩ := List.mem_map.1 hx
    exact KE.rig y.1
/-- A map's block. -/
theorem SR.map (h : SR E ι imm st a w) {b : Nat} {D : List (κ × β)} (hb : st.H b = some (mapE KE ve D)) {r z : Nat} (hi : ι b = some (r, z)) :
    z = 0 ∧ ∃ (c : Array MapEntry) (q : Nat) (D' : List (κ × β)), w.heap[r]? = some (.map c q) ∧ D.Perm D' ∧ EntsH ι imm w (D'.map fun e => (KE.enc e.1, ve e.2)) c.toList ∧ mOnce KE D' ∧ BornOk c.toList q ∧ ¬ imm r ∧ E.M r := by
  obtain ⟨r', z', h1, h2, h3, c, q, l, h4, h5, h6, h7, h8, h9⟩ := h.heap.blk b _ hb
  rw [hi] at h1
  simp only [Option.some.injEq, Prod.mk.injEq] at h1
  obtain ⟨rfl, rfl⟩ := h1
  obtain ⟨es', q1, q2⟩ := EntsH.perm h6 h7
  obtain ⟨D', q3, q4⟩ := map_perm q1 (D := D) rfl
  refine ⟨h4, c, q, D', h5, q3, by rw [q4]; exact q2, ((keysOk_map).1 h8).perm q3, ⟨(h6.map _).nodup_iff.1 h9.nodup, fun e he => h9.lt e (h6.mem_iff.2 he)⟩, h2, h3⟩
/-- A map is written. -/
theorem SR.writeMap (h : SR E ι imm st a w) {b : Nat} {D : List (κ × β)} (hb : st.H b = some (mapE KE ve D)) {r z : Nat} (hi : ι b = some (r, z)) {c' : Array MapEntry} {q' : Nat} {D2 D3 : List (κ × β)} (hp : D2.Perm D3) (he : EntsH ι imm w (D3.map fun e => (KE.enc e.1, ve e.2)) c'.toList)
    (ho : mOnce KE D2) (hbn : BornOk c'.toList q') (v : AV) : SR E ι imm ⟨st.S, (Delta.mk v [] [(b, some (mapE KE ve D2))]).H st.H, (Delta.mk v [] [(b, some (mapE KE ve D2))]).U st.U⟩ a { w with heap := w.heap.setIfInBounds r (.map c' q') } := by
  obtain ⟨rfl, c, q, D', h1, h2, h3, h4, h5, h6, h7⟩ := h.map hb hi
  obtain ⟨hs1, hs2⟩ := Go.MapKept.heap_set (o' := .map c' q') h1
  have g : Grows ι ι imm imm w { w with heap := w.heap.setIfInBounds r (.map c' q') } := ⟨fun _ _ h => h, ⟨fun _ h => h, fun k hk => hs2 k (fun e => h6 (e ▸ hk))⟩, fun r' c1 e1 f1 hr' => by
    by_cases hrr : r' = r
    · subst hrr; rw [h1] at hr'; cases hr'
    · exact ⟨c1, f1, (hs2 r' hrr).trans hr', rfl⟩⟩
  have hH : ∀ b' k, (Delta.mk v [] [(b, some (mapE KE ve D2))]).H st.H b' = some k → (b' = b ∧ k = mapE KE ve D2) ∨ (b' ≠ b ∧ st.H b' = some k) := fun b' k hk => by
    simp only [Delta.H, List.lookup] at hk
    by_cases hbb : b' = b
    · subst hbb; simp only [beq_self_eq_true] at hk; exact .inl ⟨rfl, (Option.some.inj hk).symm⟩
    · have : (b' == b) = false := by simpa using hbb
      simp only [this] at hk; exact .inr ⟨hbb, hk⟩
  have hold : ∀ b' k, (Delta.mk v [] [(b, some (mapE KE ve D2))]).H st.H b' = some k → ∃ k', st.H b' = some k' := fun b' k hk => by
    rcases hH b' k hk with ⟨rfl, _⟩ | ⟨_, h⟩
    · exact ⟨_, hb⟩
    · exact ⟨_, h⟩
  have hsz : ({ w with heap := w.heap.setIfInBounds r (.map c' q') } : World).heap.size = w.heap.size := by simp
  refine h.turn g rfl rfl rfl (Nat.le_refl _) (by rw [hsz]; exact Nat.le_refl _) (fun k _ hM => hs2 k (fun e => hM (e ▸ h7))) ⟨fun b' k hk => ?_, fun b1 b2 k1 k2 r1 z1 z2 hk1 hk2 hi1 hi2 => ?_⟩ (fun b' x hx => ?_) (fun _ hk => .inl hk) (fun k hk => by rw [hsz]; exact h.immlt k hk)
  · rcases hH b' k hk with ⟨rfl, rfl⟩ | ⟨hne, hk⟩
    · obtain ⟨l', p1, p2⟩ := EntsH.perm' (hp.map (fun e => (KE.enc e.1, ve e.2))).symm he
      refine ⟨r, 0, hi, h6, h7, c', q', l', rfl, hs1, p1.symm, p2.grows g, keysOk_map.2 ho, ⟨(p1.map _).nodup_iff.1 hbn.nodup, fun e he => hbn.lt e (p1.mem_iff.2 he)⟩⟩
    · obtain ⟨r', z', q1, q2, q3, q4⟩ := h.heap.blk b' k hk
      have hrr : r' ≠ r := fun e => hne (h.heap.inj b' b k _ r z' 0 hk hb (e ▸ q1) hi)
      exact ⟨r', z', q1, q2, q3, q4.grows g (hs2 r' hrr)⟩
  · obtain ⟨k1', q1⟩ := hold b1 k1 hk1
    obtain ⟨k2', q2⟩ := hold b2 k2 hk2
    exact h.heap.inj b1 b2 k1' k2' r1 z1 z2 q1 q2 hi1 hi2
  · simp only [Delta.U, List.lookup, Option.isSome_none, Bool.false_or]; exact h.used b' x hx
theorem modify_congr {α : Type} {f g : α → α} : ∀ {l : List α} {m : Nat} {e : α}, l[m]? = some e → f e = g e → l.modify m f = l.modify m g
  | [], _, _, h, _ => by cases h
  | x :: l, 0, e, h, hf => by
    simp only [List.getElem?_cons_zero, Option.some.injEq] at h
    subst h
    simp only [List.modify_zero_cons, hf]
  | x :: l, m + 1, e, h, hf => by
    simp only [List.modify_succ_cons]
    rw [modify_congr (by simpa using h) hf]
theorem modify_born {f : MapEntry → MapEntry} (hf : ∀ e, (f e).born = e.born) : ∀ (l : List MapEntry) (m : Nat), (l.modify m f).map (·.born) = l.map (·.born)
  | [], m => by simp
  | x :: l, 0 => by simp [hf]
  | x :: l, m + 1 => by simp [modify_born hf l m]
theorem BornOk.modify {l : List MapEntry} {q m : Nat} {f : MapEntry → MapEntry} (h : BornOk l q) (hf : ∀ e, (f e).born = e.born) : BornOk (l.modify m f) q where
  nodup := by rw [modify_born hf]; exact h.nodup
  lt e he := by
    have : e.born ∈ (l.modify m f).map (·.born) := List.mem_map.2 ⟨e, he, rfl⟩
    rw [modify_born hf] at this
    obtain ⟨e', he', e2⟩ := List.mem_map.1 this
    rw [← e2]; exact h.lt e' he'
theorem BornOk.push {l : List MapEntry} {q : Nat} (h : BornOk l q) {e : MapEntry} (he : e.born = q) : BornOk (l ++ [e]) (q + 1) where
  nodup := by
    rw [List.map_append, List.map_cons, List.map_nil, List.nodup_append]
    refine ⟨h.nodup, by simp, fun a ha b hb => ?_⟩
    obtain ⟨e', he', rfl⟩ := List.mem_map.1 ha
    rw [List.mem_singleton.1 hb, he]
    have := h.lt e' he'; omega
  lt e' he' := by
    rcases List.mem_append.1 he' with he' | he'
    · have := h.lt e' he'; omega
    · rw [List.mem_singleton.1 he', he]; omega
theorem BornOk.sub {l l' : List MapEntry} {q : Nat} (h : BornOk l q) (hs : l'.Sublist l) : BornOk l' q := ⟨(hs.map _).nodup h.nodup, fun e he => h.lt e (hs.subset he)⟩
end worlds
section ops
variable {E : Env} {T : Tab} {κ β : Type} {KE : KEnc κ} {ve : β → AV}
theorem does_makeMap {o : Oper} {t : TypeId} (ho : o.op = .makeMap t none) {d : Nat} (hdst : o.dst = some d) (hd : d < E.n) : Does E o [] [] { v := .mp d, new := [(d, .map [])] } := by
  refine Does.alloc hdst hd fun ι imm st a w hs hv _ => ⟨.map #[] 0, .map (some w.heap.size), ?_, ⟨0, rfl, rfl⟩, fun ι' h => ⟨_, _, h, rfl⟩⟩
  simp only [execOp, ho, Option.map_none, Instr.makeMap, newObj, run_bind', Sem.run, run_pure']
  rfl
theorem does_lookup (hT : TabOk E.P T) {o : Oper} {t : TypeId} {x y : Operand} {ok : Bool} (ho : o.op = .lookup t x y ok) (hd : ∀ d, o.dst = some d → d < E.n) {r re : TyRow} (hr : T.lookup t = some r) {kt et : TypeId} (hdesc : r.desc = .map kt et) (hre : T.lookup et = some re)
    (K : KeyOk E.P kt KE) {b : Nat} {D : List (κ × β)} {k : κ} {z : β} (hz : ve z = constAV re.zero) :
    Does E o [.mp b, KE.enc k] [(b, mapE KE ve D)] { v := if ok then .tup [ve ((mGet KE k D).getD z), .pv (.lit (.bool (mGet KE k D).isSome))] else ve ((mGet KE k D).getD z) } := by
  refine Does.value hd fun ι imm st a w hs hv hh => ?_
  rw [ho] at hv
  simp only [Op.operands, List.map_cons, List.map_nil] at hv
  obtain ⟨hv1, hv2⟩ := hv.two
  simp only [VH] at hv1
  obtain ⟨rr, zz, hi, he⟩ := hv1
  obtain ⟨rfl, c, q, D', h1, h2, h3, h4, h5, _, _⟩ := hs.map (hh _ (List.mem_cons_self ..)) hi
  have hg := mGet_perm (k := k) h2 (h4.perm h2.symm)
  have hu : (underlying t).run E.P w = .ok (.map kt et) w := by rw [run_underlying hT hr, hdesc]
  have hf := run_find (ve := ve) K hv2 D' c.toList h3
  have hck := K.check c.isEmpty k _ hv2
  cases hl : lookL KE k D' c.toList 0 with
  | none =>
    rw [hl] at hf
    obtain ⟨q1, _, _⟩ := lookL_none h3 hl
    have e : mGet KE k D = none := hg.trans q1
    rw [e]
    have hval := constAV_holds ι imm w re.zero
    rw [← hz] at hval
    cases ok
    · refine ⟨re.zero, ?_, hval⟩
      simp only [execOp, ho, he, Instr.lookup, run_bind', hu, Go.MapKept.run_getObj_map h1, run_pure', hck, hf, run_zeroValue hT hre, Bool.false_eq_true, if_false]
    · refine ⟨.tuple #[re.zero, .bool false], ?_, ?_⟩
      · simp only [execOp, ho, he, Instr.lookup, run_bind', hu, Go.MapKept.run_getObj_map h1, run_pure', hck, hf, run_zeroValue hT hre, if_true]
      · simp only [if_true, VH]
        exact ⟨[re.zero, .bool false], rfl, _, _, rfl, hval, _, _, rfl, ⟨rfl, rfl⟩, rfl⟩
  | some p =>
    obtain ⟨j, x⟩ := p
    rw [hl] at hf
    obtain ⟨m, e, y0, _, _, _, q4, q5, _, _⟩ := lookL_some h3 hl
    have e : mGet KE k D = some y0 := hg.trans q4
    rw [e]
    cases ok
    · refine ⟨x, ?_, q5⟩
      simp only [execOp, ho, he, Instr.lookup, run_bind', hu, Go.MapKept.run_getObj_map h1, run_pure', hck, hf, Bool.false_eq_true, if_false]
    · refine ⟨.tuple #[x, .bool true], ?_, ?_⟩
      · simp only [execOp, ho, he, Instr.lookup, run_bind', hu, Go.MapKept.run_getObj_map h1, run_pure', hck, hf, if_true]
      · simp only [if_true, VH]
        exact ⟨[x, .bool true], rfl, _, _, rfl, q5, _, _, rfl, ⟨rfl, rfl⟩, rfl⟩
theorem does_mapUpdate (hT : TabOk E.P T) {o : Oper} {t : TypeId} {x y z : Operand} (ho : o.op = .mapUpdate t x y z) (hdst : o.dst = none) {r : TyRow} (hr : T.lookup t = some r) {kt et : TypeId} (hdesc : r.desc = .map kt et)
    (K : KeyOk E.P kt KE) {b : Nat} {D : List (κ × β)} {k : κ} {u : β} : Does E o [.mp b, KE.enc k, ve u] [(b, mapE KE ve D)] { v := .undef, wr := [(b, some (mapE KE ve (mSet KE k u D)))] } := by
  intro ι imm st a w Q hs hv hh _
  have hv := hs.evls hv
  rw [ho] at hv
  simp only [Op.operands, List.map_cons, List.map_nil] at hv
  obtain ⟨hv1, hv2, hv3⟩ := hv.three
  simp only [VH] at hv1
  obtain ⟨rr, zz, hi, he⟩ := hv1
  have hb := hh _ (List.mem_cons_self ..)
  obtain ⟨rfl, c, q, D', h1, h2, h3, h4, h5, _, _⟩ := hs.map hb hi
  have hu : (underlying t).run E.P w = .ok (.map kt et) w := by rw [run_underlying hT hr, hdesc]
  have hf := run_find (ve := ve) K hv2 D' c.toList h3
  have hck := K.check false k _ hv2
  have hfin : ∀ c' q', EntsH ι imm w ((mSet KE k u D').map fun e => (KE.enc e.1, ve e.2)) c'.toList → BornOk c'.toList q' → (execOp a.eval o).run E.P w = .ok .skip { w with heap := w.heap.setIfInBounds rr (.map c' q') } →
      o.wp E.P a w (fun a' w' => ∃ ι' imm', SR E ι' imm' (st.after o.dst { v := .undef, wr := [(b, some (mapE KE ve (mSet KE k u D)))] }) a' w') Q := fun c' q' e1 e2 hrun => by
    unfold Oper.wp
    rw [hrun, Oper.upon_skip]
    have := hs.writeMap hb hi (mSet_perm (k := k) (x := u) h2 (h4.perm h2.symm)) e1 (mSet_once (h4.perm h2.symm)) e2 .undef
    exact ⟨ι, imm, by simpa [Act.put, St.after, putO, hdst] using this⟩
  cases hl : lookL KE k D' c.toList 0 with
  | none =>
    rw [hl] at hf
    obtain ⟨_, _, q3⟩ := lookL_none h3 hl
    refine hfin (c.push { key := a.eval y, val := a.eval z, born := q }) (q + 1) ?_ ?_ ?_
    · rw [q3, List.map_append, Array.toList_push]
      exact EntsH.append h3 hv2 hv3
    · rw [Array.toList_push]; exact h5.push rfl
    · simp only [execOp, ho, he, Instr.mapUpdate, run_bind', hu, Go.MapKept.run_getObj_map h1, run_pure', hck, hf, Go.MapKept.run_setObj_map _ h1]
  | some p =>
    obtain ⟨j, x⟩ := p
    rw [hl] at hf
    obtain ⟨m, e, y0, hj, q2, _, _, _, q6, q7⟩ := lookL_some h3 hl
    have hjm : j = m := by omega
    subst hjm
    have hkey := rigid_eq _ (KE.rig k) _ _ q6 hv2
    have hce : c[j]? = some e := by simpa using q2
    have hst : (Instr.keyThatStays (((c[j]?).map (·.key)).getD (a.eval y)) (a.eval y)).run E.P w = .ok (a.eval y) w := by
      rw [hce]
      simp only [Option.map_some, Option.getD_some, hkey, Instr.keyThatStays, rigid_same _ (KE.rig k) _ hv2 10000 (KE.dep k), if_true, run_pure']
    refine hfin (c.modify j fun e => { e with key := a.eval y, val := a.eval z }) q ?_ ?_ ?_
    · rw [Array.toList_modify, modify_congr (g := fun e => { e with val := a.eval z }) q2 (by rw [← hkey])]
      exact (q7 _ _ hv3).1
    · rw [Array.toList_modify]; exact h5.modify fun _ => rfl
    · simp only [execOp, ho, he, Instr.mapUpdate, run_bind', hu, Go.MapKept.run_getObj_map h1, run_pure', hck, hf, hst, Go.MapKept.run_setObj_map _ h1]
theorem does_delete (hT : TabOk E.P T) {o : Oper} {c : Call} {t t2 : TypeId} (ho : o.op = .call c) (hc : c.callee = .builtin .delete) (hty : c.argTypes = #[t, t2]) (hd : ∀ d, o.dst = some d → d < E.n) {r : TyRow} (hr : T.lookup t = some r) {kt et : TypeId} (hdesc : r.desc = .map kt et)
    (K : KeyOk E.P kt KE) {b : Nat} {D : List (κ × β)} {k : κ} : Does E o [.mp b, KE.enc k] [(b, mapE KE ve D)] { v := .tup [], wr := [(b, some (mapE KE ve (mDel KE k D)))] } := by
  intro ι imm st a w Q hs hv hh _
  have hv := hs.evls hv
  have hops : o.op.operands.toList = c.args.toList := by rw [ho]; simp [Op.operands, Call.operands, hc]
  rw [hops] at hv
  obtain ⟨v1, us, hea, hv1, v2, us2, he2, hv2, hv3⟩ := hv
  subst he2
  simp only [VHs] at hv3
  subst hv3
  have hargs : c.args.map a.eval = #[v1, v2] := by apply Array.ext'; simpa using hea
  simp only [VH] at hv1
  obtain ⟨rr, zz, hi, he⟩ := hv1
  have hb := hh _ (List.mem_cons_self ..)
  obtain ⟨rfl, m, q, D', h1, h2, h3, h4, h5, _, _⟩ := hs.map hb hi
  have hu : (underlying t).run E.P w = .ok (.map kt et) w := by rw [run_underlying hT hr, hdesc]
  have hf := run_find (ve := ve) K hv2 D' m.toList h3
  have hck := K.check m.isEmpty k _ hv2
  have hfin : ∀ c', EntsH ι imm w ((mDel KE k D').map fun e => (KE.enc e.1, ve e.2)) c'.toList → BornOk c'.toList q → (execOp a.eval o).run E.P w = .ok (.value (.tuple #[])) { w with heap := w.heap.setIfInBounds rr (.map c' q) } →
      o.wp E.P a w (fun a' w' => ∃ ι' imm', SR E ι' imm' (st.after o.dst { v := .tup [], wr := [(b, some (mapE KE ve (mDel KE k D)))] }) a' w') Q := fun c' e1 e2 hrun => by
    unfold Oper.wp
    rw [hrun, Oper.upon_value]
    have := hs.writeMap hb hi (mDel_perm (k := k) h2 (h4.perm h2.symm)) e1 (mDel_once (h4.perm h2.symm)) e2 (.tup [])
    exact ⟨ι, imm, this.put o.dst hd (by simp only [VH]; exact ⟨[], rfl, rfl⟩)⟩
  cases hl : lookL KE k D' m.toList 0 with
  | none =>
    rw [hl] at hf
    obtain ⟨_, q2, _⟩ := lookL_none h3 hl
    refine hfin m (by rw [q2]; exact h3) h5 ?_
    simp [execOp, ho, resolve, hc, invoke, builtin, hargs, Builtin.delete_, hty, he, hu, Go.MapKept.run_getObj_map h1, hck, hf, Go.MapKept.run_setObj_map _ h1]
  | some p =>
    obtain ⟨j, x⟩ := p
    rw [hl] at hf
    obtain ⟨m', e, y0, hj, q2, _, _, q5, q6, q7⟩ := lookL_some h3 hl
    have hjm : j = m' := by omega
    subst hjm
    have hjl : j < m.size := by
      have := (List.getElem?_eq_some_iff.1 q2).1
      simpa using this
    have hto : (m.eraseIdxIfInBounds j).toList = m.toList.eraseIdx j := by
      unfold Array.eraseIdxIfInBounds
      rw [dif_pos hjl, Array.toList_eraseIdx]
    refine hfin (m.eraseIdxIfInBounds j) ?_ ?_ ?_
    · rw [hto]; exact (q7 x y0 q5).2
    · rw [hto]; exact h5.sub (List.eraseIdx_sublist _ _)
    · simp [execOp, ho, resolve, hc, invoke, builtin, hargs, Builtin.delete_, hty, he, hu, Go.MapKept.run_getObj_map h1, hck, hf, Go.MapKept.run_setObj_map _ h1]
end ops
end Go.Am
