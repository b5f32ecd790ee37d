import Derived.Test.YthnghkkbnhjlgaaDoorM1
import Derived.Test.YthnghkkbnhjlgaaDoorM2
import Derived.MapKept
import Derived.Maps.RangeRun
import Derived.Lib.BytesEntry
import Derived.Lib.ConvBytes
import Derived.Laws.AppendOwn
import Derived.Laws.RangeString
import Derived.Test.YthnghkkbnhjlgaaDoorProg
import Derived.KernelRfl
/- An abstract machine over the kit's calls, part 29: calls that take a row of one's own and give one; contents of rows that are copied about in. No conditions. -/
namespace Go.Am
section lists
variable {α : Type} {e : Enc α}
theorem setRange_app {A B M Z : List AV} (h : M.length ≤ Z.length) : setRange (setRange (A ++ B ++ Z) (A.length + M.length) B) A.length M = A ++ M ++ B ++ Z.drop M.length := by
  have h1 : (A ++ B ++ Z).drop (A.length + M.length + B.length) = Z.drop M.length := by
    rw [show A.length + M.length + B.length = (A ++ B).length + M.length by simp; omega, List.drop_length_add_append]
  have hP : ∃ P : List AV, P.length = M.length ∧ (A ++ B ++ Z).take (A.length + M.length) = A ++ P := by
    refine ⟨(B ++ Z).take M.length, by simp; omega, ?_⟩
    rw [List.append_assoc, List.take_length_add_append]
  obtain ⟨P, p1, p2⟩ := hP
  simp only [setRange, h1, p2]
  rw [show A ++ P ++ B ++ Z.drop M.length = A ++ (P ++ (B ++ Z.drop M.length)) by simp, List.take_left, show A.length + M.length = A.length + P.length by omega, List.drop_length_add_append, List.drop_left]
  simp
theorem set_mid {A B B' C : List α} (h : B'.length = B.length) {k : Nat} (hk : k = A.length * e.sz) : setRange (encC e (A ++ B ++ C)) k (encC e B') = encC e (A ++ B' ++ C) := by
  subst hk
  rw [encC_append, encC_append, encC_append, encC_append]
  have hl : (encC e A).length = A.length * e.sz := encC_len A
  have hb : (encC e B').length = (encC e B).length := by rw [encC_len, encC_len, h]
  simp only [setRange, ← hl]
  rw [show encC e A ++ encC e B ++ encC e C = encC e A ++ (encC e B ++ encC e C) by simp, List.take_left, hb, List.drop_length_add_append, List.drop_left]
theorem encC_dropN (D : List α) (i : Nat) : (encC e D).drop (i * e.sz) = encC e (D.drop i) := by simp only [encC, ← List.map_drop, encL_drop]
theorem encC_takeN (D : List α) (i : Nat) : (encC e D).take (i * e.sz) = encC e (D.take i) := by simp only [encC, ← List.map_take, encL_take]
theorem encC_takeAll (D : List α) {k : Nat} (h : D.length * e.sz ≤ k) : (encC e D).take k = encC e D := List.take_of_length_le (by rw [encC_len]; exact h)
/-- What is behind a place of a row with room behind it. -/
theorem tail_of {D : List α} {Z : List AV} {i k j : Nat} (hi : i ≤ D.length) (hk : D.length - i ≤ k) (hj : j = (D.length - i) * e.sz) : (((encC e D ++ Z).drop (0 + i * e.sz)).take (k * e.sz)).take j = encC e (D.drop i) := by
  subst hj
  have hle : i * e.sz ≤ (encC e D).length := by rw [encC_len]; exact Nat.mul_le_mul_right _ hi
  rw [Nat.zero_add, List.drop_append_of_le_length hle, encC_dropN, List.take_take]
  have hl : (encC e (D.drop i)).length = (D.length - i) * e.sz := by rw [encC_len, List.length_drop]
  rw [Nat.min_eq_left (Nat.mul_le_mul_right _ hk), ← hl, List.take_left]
theorem delta_int {k : IntKind} {a b : Int} (h : a = b) : ({ v := .pv (.lit (.int k a)) } : Delta) = { v := .pv (.lit (.int k b)) } := by rw [h]
def insertL (D : List α) (i : Nat) (M : List α) : List α := D.take i ++ M ++ D.drop i
theorem insertL_len {D M : List α} {i : Nat} (h : i ≤ D.length) : (insertL D i M).length = D.length + M.length := by simp [insertL]; omega
/-- .. done in place. -/
theorem insert_inplace {D M : List α} {Z : List AV} {i : Nat} (hi : i ≤ D.length) (hZ : M.length * e.sz ≤ Z.length) : setRange (setRange (encC e D ++ Z) ((i + M.length) * e.sz) (encC e (D.drop i))) (i * e.sz) (encC e M) = encC e (insertL D i M) ++ Z.drop (M.length * e.sz) := by
  have hA : (encC e (D.take i)).length = i * e.sz := by rw [encC_len, List.length_take, Nat.min_eq_left hi]
  have hM : (encC e M).length = M.length * e.sz := encC_len M
  have hD : encC e D = encC e (D.take i) ++ encC e (D.drop i) := by rw [← encC_append, List.take_append_drop]
  rw [hD, Nat.add_mul, ← hA, ← hM, setRange_app (by rw [hM]; exact hZ)]
  simp only [insertL, encC_append]
end lists
section steps
variable {E : Env} {T : Tab} {cq : Oper → Cls} {n : Nat} {ops : Array Oper}
/-- The capacity of a slice over an own row is looked at. -/
theorem Awp.capOf {c : Code} {st : St} {Q : Exit → St → Prop} (t b m s : Nat) (tt : Bool) (cs : List AV) (ht : st.S t = some (.sl b 0 m s tt)) (hb : st.H b = some (.cells cs)) (hl : cs.length = m * s) (h : ∀ k, m ≤ k → Awp E c (st.set t (.slc b 0 m s k)) Q) : Awp E c st Q := fun a w hat => by
  obtain ⟨k, h1, h2, _⟩ := hat.openCap ht hb hl
  exact h k h1 a w h2
/-- What lies behind the elements is anything. -/
theorem At.extend {st : St} {a : Act} {w : World} (h : At E st a w) {t b m s k : Nat} {cs : List AV} (ht : st.S t = some (.slc b 0 m s k)) (hb : st.H b = some (.cells cs)) (hl : cs.length ≤ k * s) : At E ⟨st.S, fun x => if x = b then some (.cells (cs ++ List.replicate (k * s - cs.length) .undef)) else st.H x, st.U⟩ a w := by
  obtain ⟨ι, imm, h⟩ := h
  have h0 := h.slot t _ ht
  simp only [VH] at h0
  obtain ⟨r, z, i1, i2, i3, i5⟩ := h0
  refine ⟨ι, imm, { h with heap := ⟨fun x q hx => ?_, fun x x' q q' r1 z1 z2 hx hx' => ?_⟩ }⟩
  · by_cases e : x = b
    · subst e
      simp only [if_true] at hx
      obtain rfl := Option.some.inj hx
      obtain ⟨r', z', p1, p2, p3, c1, e1, f1, q1, q2, q3, q4⟩ := h.heap.blk x _ hb
      rw [i1] at p1
      simp only [Option.some.injEq, Prod.mk.injEq] at p1
      obtain ⟨rfl, rfl⟩ := p1
      obtain ⟨c2, e2, f2, s1, s2⟩ := i5
      rw [q1] at s1
      simp only [Option.some.injEq, Obj.cells.injEq] at s1
      obtain ⟨rfl, rfl, rfl⟩ := s1
      refine ⟨r, z, i1, p2, p3, c1, e1, f1, q1, ?_, q3, CellsH.app q4 (CellsH.undefs ?_)⟩
      · rw [List.length_append, List.length_replicate]; omega
      · omega
    · simp only [if_neg e] at hx
      exact h.heap.blk x q hx
  · have key : ∀ y k', (if y = b then some (Blk.cells (cs ++ List.replicate (k * s - cs.length) .undef)) else st.H y) = some k' → ∃ k', st.H y = some k' := fun y k' hy => by
      by_cases e : y = b
      · subst e; exact ⟨_, hb⟩
      · rw [if_neg e] at hy; exact ⟨k', hy⟩
    obtain ⟨k1, hk1⟩ := key x q hx
    obtain ⟨k2, hk2⟩ := key x' q' hx'
    exact h.heap.inj x x' k1 k2 r1 z1 z2 hk1 hk2
theorem Awp.extend {c : Code} {st : St} {Q : Exit → St → Prop} (t b m s k : Nat) (cs : List AV) (ht : st.S t = some (.slc b 0 m s k)) (hb : st.H b = some (.cells cs)) (hl : cs.length ≤ k * s) (h : Awp E c ⟨st.S, fun x => if x = b then some (.cells (cs ++ List.replicate (k * s - cs.length) .undef)) else st.H x, st.U⟩ Q) : Awp E c st Q := fun a w hat => h a w (hat.extend ht hb hl)
theorem CellsH.left {ι : Nat → Option (Nat × Nat)} {imm : Nat → Prop} {w : World} {c : Array Value} : ∀ {xs ys : List AV} {o : Nat}, CellsH ι imm w c (xs ++ ys) o → CellsH ι imm w c xs o
  | [], _, _, _ => trivial
  | _ :: _, _, _, h => ⟨h.1, CellsH.left h.2⟩
/-- What lies behind is forgotten. -/
theorem At.trim {st : St} {a : Act} {w : World} (h : At E st a w) {b : Nat} {xs ys : List AV} (hb : st.H b = some (.cells (xs ++ ys))) : At E ⟨st.S, fun x => if x = b then some (.cells xs) else st.H x, st.U⟩ a w := by
  obtain ⟨ι, imm, h⟩ := h
  refine ⟨ι, imm, { h with heap := ⟨fun x k hx => ?_, fun x x' k k' r1 z1 z2 hx hx' => ?_⟩ }⟩
  · by_cases e : x = b
    · subst e
      simp only [if_true] at hx
      obtain rfl := Option.some.inj hx
      obtain ⟨r', z', p1, p2, p3, c1, e1, f1, q1, q2, q3, q4⟩ := h.heap.blk x _ hb
      exact ⟨r', z', p1, p2, p3, c1, e1, f1, q1, by rw [List.length_append] at q2; omega, q3, CellsH.left q4⟩
    · simp only [if_neg e] at hx
      exact h.heap.blk x k hx
  · have key : ∀ y k', (if y = b then some (Blk.cells xs) else st.H y) = some k' → ∃ k', st.H y = some k' := fun y k' hy => by
      by_cases e : y = b
      · subst e; exact ⟨_, hb⟩
      · rw [if_neg e] at hy; exact ⟨k', hy⟩
    obtain ⟨k1, hk1⟩ := key x k hx
    obtain ⟨k2, hk2⟩ := key x' k' hx'
    exact h.heap.inj x x' k1 k2 r1 z1 z2 hk1 hk2
theorem Awp.trim {c : Code} {st : St} {Q : Exit → St → Prop} (b : Nat) (xs ys : List AV) (hb : st.H b = some (.cells (xs ++ ys))) (h : Awp E c ⟨st.S, fun x => if x = b then some (.cells xs) else st.H x, st.U⟩ Q) : Awp E c st Q := fun a w hat => h a w (hat.trim hb)
theorem WeakerR.ofLI {E : Env} {st : St} {τ : Nat → Nat} {S : List (Nat × AV)} {H : List (Nat × Blk)} {U Ks I : List Nat} (hI : E.I = I) (h1 : okS st.S τ U S) (h2 : okH st.H τ U Ks H) (h5 : (Ks.all fun x => Ks.all fun y => !(τ x == τ y) || x == y) = true) (h6 : (I.all fun b => U.contains b && τ b == b) = true) : WeakerR st τ S H U E.I :=
  ⟨fun x hx => (okS_mem h1 x hx).1, fun x hx => (h2 x hx).1, List.all_eq_true.2 fun x hx => (okS_mem h1 x hx).2, List.all_eq_true.2 fun x hx => by rw [Bool.and_eq_true]; exact ⟨(h2 x hx).2.2.1, (h2 x hx).2.2.2⟩, fun x hx y hy e => by
    have := List.all_eq_true.1 (List.all_eq_true.1 h5 x.1 (by simpa using (h2 x hx).2.1)) y.1 (by simpa using (h2 y hy).2.1)
    simpa [e] using this, by rw [hI]; exact h6⟩
/-- A call that takes a row (block 0) and gives one (block 1). -/
structure TCalls (P : Program) (f : FuncId) (avs : List AV) (k : Blk) (av : AV) (k' : Blk) : Prop where
  fn : ∃ fn, P.funcs[f]? = some fn ∧ (fn.name == "runtime.NumGoroutine") = false ∧ fn.body.isNone = false
  args : AV.withinL (fun b => b == 0) avs = true
  res : av.within (fun b => b == 1) = true
  blk : k.within (fun _ => false) = true
  blk' : k'.within (fun _ => false) = true
  calls : ACalls P f [0] avs [(0, k)] av [(1, k')]
theorem TCalls.of_body {P : Program} {T : Tab} (hT : TabOk P T) {f : FuncId} {fn : Func} {body : Code} (hf : P.funcs[f]? = some fn) (hb : fn.body = some body) (hn : (fn.name == "runtime.NumGoroutine") = false) {avs : List AV} {k k' : Blk} {av : AV} (hl : decide (avs.length ≤ fn.ntmps) = true) (ha : AV.withinL (fun b => b == 0) avs = true) (hr : av.within (fun b => b == 1) = true) (hk : k.within (fun _ => false) = true) (hk' : k'.within (fun _ => false) = true) (hm : P.follows .mixedOrders = true)
    (h : ∀ E : Env, E.P = P → Cx E T fn.ntmps → E.I = [0] → Awp E body (entry avs [(0, k)] [0]) fun e st => (e = .ret ∨ e = .normal) ∧ resAV T st fn.results.toList = some av ∧ st.H 1 = some k') : TCalls P f avs k av k' where
  fn := ⟨fn, hf, hn, by simp [hb]⟩
  args := ha
  res := hr
  blk := hk
  blk' := hk'
  calls := ACalls.of_body hT hf hb (by simpa using hl) fun E hP hE hI => (h E hP ⟨hP ▸ hT, hE, hP ▸ hm⟩ hI).mono fun e st ⟨h1, h2, h3⟩ => ⟨h1, h2, fun x hx => by
    simp only [List.mem_singleton] at hx
    subst hx; exact h3⟩
mutual
theorem AV.within_const {d : Nat} : ∀ (x : AV), (x.ren fun _ => d).within (fun b => b == d) = true
  | .undef | .pv _ | .tsl _ _ | .rp _ => rfl
  | .ptr b o | .sl b _ _ _ _ | .slc b _ _ _ _ | .mp b => by simp [AV.ren, AV.within]
  | .agg cs => by simp only [AV.ren, AV.within, AV.withinL_const cs]
  | .tup cs => by simp only [AV.ren, AV.within, AV.withinL_const cs]
  | .fn f xs ys => by simp only [AV.ren, AV.within, AV.withinL_const xs, AV.withinL_const ys, Bool.and_self]
theorem AV.withinL_const {d : Nat} : ∀ (xs : List AV), AV.withinL (fun b => b == d) (AV.renL (fun _ => d) xs) = true
  | [] => rfl
  | x :: xs => by simp only [AV.renL, AV.withinL, AV.within_const x, AV.withinL_const xs, Bool.and_self]
end
theorem rexec_callT {P : Program} (hP : E.P = P) (C : Cx E T n) {f : FuncId} {avs args : List AV} {av : AV} {k k' : Blk} {d b : Nat} {c : Call} {ty : TypeId} {pos : String} {af : Array Edge} {g : Option (Nat × Bool)} {st : St} {K : St → Prop} (h1 : dstB n ⟨some d, .call c, ty, pos, af, g⟩ = true) (hU : st.U d = false) (hc : c.callee = .value (.func f)) (hv : evls st.S c.args.toList = some args)
    (F : TCalls P f avs k av k') (ha : AV.renL (fun _ => b) avs = args) (hb : st.H b = some k) (h7 : K (st.after (some d) { v := av.ren fun _ => d, new := [(d, k')], wr := [(b, none)] })) (hreach : reachB (.fn f [] [] :: args) [] [(b, k)] = true := by rfl) (hbr : refs (.fn f [] [] :: args) [(b, k)] b = true := by rfl) (hcl : clsOf cq ⟨some d, .call c, ty, pos, af, g⟩ = .writer := by rfl) : rexec E cq n ⟨some d, .call c, ty, pos, af, g⟩ st K := by
  subst hP
  obtain ⟨fn, q1, q2, q3⟩ := F.fn
  have hd : ∀ x, some d = some x → x < E.n := fun x e => by
    simp only [dstB, decide_eq_true_eq] at h1
    simp only [Option.some.injEq] at e
    subst e
    exact C.n ▸ h1
  have hin : inI [0] = fun b => b == 0 := funext fun b => by cases b <;> rfl
  have hk1 : Names.knows ⟨fun _ => b, [(d, 1)]⟩ [0] 1 = true := by simp [Names.knows, inI]
  have ok : CallOk ⟨fun _ => b, [(d, 1)]⟩ [0] avs [(0, k)] [(1, k')] av := by
    refine { args := by rw [hin]; exact F.args, ids := ?_, blks := ?_, nodup := by simp, inj := ?_, nodupL := by simp, nodupR := by simp, fresh := ?_, res := ?_, res' := ?_, kept := ?_, all := ?_, used := ?_ }
    · intro x hx; simp only [List.mem_singleton] at hx; subst hx; rfl
    · intro x hx; simp only [List.mem_singleton] at hx; subst hx; exact Blk.within_mono (fun b hb => by cases hb) k F.blk
    · intro x y hx hy _; simp [inI] at hx hy; omega
    · intro x hx; simp only [List.mem_singleton] at hx; subst hx; rfl
    · refine AV.within_mono (fun x hx => ?_) av F.res
      have : x = 1 := by simpa using hx
      subst this; exact hk1
    · intro x hx
      simp only [List.mem_singleton] at hx
      subst hx
      exact ⟨hk1, Blk.within_mono (fun b hb => by cases hb) k' F.blk'⟩
    · intro x hx h0; simp only [List.mem_singleton] at hx; subst hx; simp [inI] at h0
    · intro x hx; simp only [List.mem_singleton] at hx; subst hx; rfl
    · intro x hx
      have : x = 0 := by simpa [inI] using hx
      subst this; exact .inr rfl
  have hdo := does_call (E := E) (o := ⟨some d, .call c, ty, pos, af, g⟩) (c := c) rfl hc hd q1 q2 q3 F.calls ok (args := args) (caps := []) (by simpa using ha)
  have hτ : Names.τ ⟨fun _ => b, [(d, 1)]⟩ [0] 1 = d := by simp [Names.τ, inI]
  have hav : av.ren (Names.τ ⟨fun _ => b, [(d, 1)]⟩ [0]) = av.ren fun _ => d := by
    refine AV.ren_congr (U := fun b => b == 1) (fun x hx => ?_) av F.res
    have : x = 1 := by simpa using hx
    subst this; exact hτ
  have he : Names.delta ⟨fun _ => b, [(d, 1)]⟩ [0] [(0, k)] [(1, k')] av = { v := av.ren fun _ => d, new := [(d, k')], wr := [(b, none)] } := by
    simp only [Names.delta, List.map_nil, List.map_cons, hav]
    have e1 : (heapOf [(1, k')] 1).getD (.cells []) = k' := rfl
    have e2 : heapOf [(1, k')] 0 = none := rfl
    rw [e1, e2, Blk.ren_none F.blk']
    rfl
  have hH : ([(0, k)] : List (Nat × Blk)).map (fun x => ((fun _ => b) x.1, x.2.ren (fun _ => b))) = [(b, k)] := by
    simp only [List.map_cons, List.map_nil, Blk.ren_none F.blk]
  rw [he] at hdo
  have hdo' : Does E ⟨some d, .call c, ty, pos, af, g⟩ (.fn f [] [] :: args) [(b, k)] { v := av.ren fun _ => d, new := [(d, k')], wr := [(b, none)] } := by
    rw [← hH]; exact hdo
  have hops : (Op.operands (.call c)).toList = .func f :: c.args.toList := by simp [Op.operands, Call.operands, hc]
  refine ⟨h1, .fn f [] [] :: args, [(b, k)], _, { vals := ?_, deps := ?_, fresh := ?_, does := hdo', reach := hreach, inV := ?_, inN := ?_, inW := ?_, wr := ?_, pure := fun h => ?_, quiet := fun h => ?_, foot := by rw [hcl]; rfl }, h7⟩
  · show evls st.S (Op.operands (.call c)).toList = _
    rw [hops]; simp only [evls, evl, hv]
  · intro x hx; simp only [List.mem_singleton] at hx; subst hx; exact hb
  · intro x hx; simp only [List.mem_singleton] at hx; subst hx; exact hU
  · refine AV.within_mono (U := fun b => b == d) (fun x hx => ?_) _ (AV.within_const _)
    have : x = d := by simpa using hx
    subst this; simp
  · intro x hx
    simp only [List.mem_singleton] at hx
    subst hx
    exact Blk.within_mono (fun b hb => by cases hb) k' F.blk'
  · intro x hx q hq
    simp only [List.mem_singleton] at hx
    subst hx; cases hq
  · intro x hx
    simp only [List.mem_singleton] at hx
    subst hx
    rw [hbr]; simp
  · rw [hcl] at h; cases h
  · rw [hcl] at h; cases h
theorem h_slc {U : Nat → Bool} {b n n' s c : Nat} {p : PV} (h : AV.withinL U [.slc b 0 n s c, .pv p] = true) : (AV.slc b 0 n' s c).within U = true := by
  simpa [AV.withinL, AV.within] using h
theorem rexec_appendZ (C : Cx E T n) {d : Nat} {c : Call} {t t2 : TypeId} {ty : TypeId} {pos : String} {af : Array Edge} {g : Option (Nat × Bool)} {st : St} {K : St → Prop} (hc : c.callee = .builtin .append) (hty : c.argTypes = #[t, t2]) (h1 : dstB n ⟨some d, .call c, ty, pos, af, g⟩ = true) (hU : st.U d = false)
    {r re r2 : TyRow} (hr : T.lookup t = some r) {te : TypeId} (hdesc : r.desc = .slice te) (hre : T.lookup te = some re) (hr2 : T.lookup t2 = some r2) {kd : IntKind} (hd2 : r2.desc = .int kd)
    {α : Type} {e : Enc α} (a : α) (D : List α) (i k : Nat) {b s : Nat} {kk : IntKind} (hs : re.size = e.sz) (hv : evls st.S c.args.toList = some [.slc b 0 i re.size s, .pv (.lit (.int kk (k : Int)))]) (hb : st.H b = some (.cells (encC e D))) (hi : i ≤ D.length) (hk : 0 < k) (hroom : s < i + k) (hbig : (2 * (i + k) + 192) * re.bytes ≤ 281474976710656) (hpos : 0 < re.bytes) (hsz : 0 < re.size) (hzs : re.zero.cells.size = re.size) (hz : re.zero.cells.toList.map constCell = (e.enc a).map .pv)
    (h7 : K (st.after (some d) { v := .sl d 0 (i + k) re.size false, new := [(d, .cells (encC e (D.take i ++ List.replicate k a)))] })) (hcl : clsOf cq ⟨some d, .call c, ty, pos, af, g⟩ = .writer := by rfl) : rexec E cq n ⟨some d, .call c, ty, pos, af, g⟩ st K := by
  have hd : d < E.n := by
    simp only [dstB, decide_eq_true_eq] at h1
    exact C.n ▸ h1
  have hdo := does_appendZ C.tab (o := ⟨some d, .call c, ty, pos, af, g⟩) rfl hc hty rfl hd hr hdesc hre hr2 hd2 (b := b) (i := i) (k := k) (s := s) (kk := kk) (cs := encC e D) hk hroom (by rw [encC_len, hs]; exact Nat.mul_le_mul_right _ hi) hsz hbig hpos hzs
  rw [hs, encC_takeN, zeroAV_rep (by rw [hzs, hs]) hz, ← encC_append, ← hs] at hdo
  have hops : (Op.operands (.call c)).toList = c.args.toList := by simp [Op.operands, Call.operands, hc]
  refine ⟨h1, _, _, _, { vals := ?_, deps := ?_, fresh := ?_, does := hdo, reach := ?_, inV := ?_, inN := ?_, inW := ?_, wr := ?_, pure := fun h => ?_, quiet := fun h => ?_, foot := by rw [hcl]; rfl }, h7⟩
  · show evls st.S (Op.operands (.call c)).toList = _
    rw [hops]; exact hv
  · intro x hx; simp only [List.mem_singleton] at hx; subst hx; exact hb
  · intro x hx; simp only [List.mem_singleton] at hx; subst hx; exact hU
  · exact reach_ptr fun U => .inl rfl
  · simp [AV.within]
  · intro x hx; simp only [List.mem_singleton] at hx; subst hx; exact within_pvs _ _
  · intro x hx; cases hx
  · intro x hx; cases hx
  · rw [hcl] at h; cases h
  · rfl
/-- copy of unchanging elements over elements of an own row. -/
theorem rexec_copyS (C : Cx E T n) {d : Option Nat} {c : Call} {t t2 : TypeId} {ty : TypeId} {pos : String} {af : Array Edge} {g : Option (Nat × Bool)} {st : St} {K : St → Prop} (hc : c.callee = .builtin .copy) (hty : c.argTypes = #[t, t2]) (h1 : dstB n ⟨d, .call c, ty, pos, af, g⟩ = true) {r re : TyRow} (hr : T.lookup t = some r) {te : TypeId} (hdesc : r.desc = .slice te) (hre : T.lookup te = some re)
    {α : Type} {e : Enc α} {f : Option Bool} (D : List α) {b k m : Nat} {tt : Bool} {cs : List AV} (cs' : List AV) (hs : re.size = e.sz) (hv : evls st.S c.args.toList = some [.sl b k m re.size tt, sS f e D]) (hb : st.H b = some (.cells cs)) (hm : D.length ≤ m) (hfit : k + D.length * e.sz ≤ cs.length) (hcs' : setRange cs k (encC e D) = cs')
    (h7 : K (st.after d { v := .pv (.lit (.int .i64 (D.length : Int))), wr := [(b, some (.cells cs'))] })) (hcl : clsOf cq ⟨d, .call c, ty, pos, af, g⟩ = .writer := by rfl) : rexec E cq n ⟨d, .call c, ty, pos, af, g⟩ st K := by
  have hmin : min D.length m = D.length := Nat.min_eq_left hm
  refine rexec_copy C hc hty h1 hr hdesc hre (m' := D.length) (hs' := []) (ys := encC e D) cs' hv hb rfl (fun x hx => by cases hx) (by rw [encC_len, hs]) (by rw [hmin, hs]; exact hfit) ?_ (fun U _ => within_pvs _ _) ?_ ?_ ?_ hcl
  · exact encC_flat _ _
  · rw [hmin, hs, encC_takeAll _ (Nat.le_refl _)]; exact hcs'
  · rw [hmin]; exact h7
  · exact reach_ptr fun U => .inl rfl
/-- copy of elements of an own row over elements of an own row (perhaps the same one). -/
theorem rexec_copyO (C : Cx E T n) {d : Option Nat} {c : Call} {t t2 : TypeId} {ty : TypeId} {pos : String} {af : Array Edge} {g : Option (Nat × Bool)} {st : St} {K : St → Prop} (hc : c.callee = .builtin .copy) (hty : c.argTypes = #[t, t2]) (h1 : dstB n ⟨d, .call c, ty, pos, af, g⟩ = true) {r re : TyRow} (hr : T.lookup t = some r) {te : TypeId} (hdesc : r.desc = .slice te) (hre : T.lookup te = some re)
    {α : Type} {e : Enc α} (X : List α) {b k m b2 k2 m2 : Nat} {tt tt2 : Bool} {cs cs2 : List AV} (cs' : List AV) (hs : re.size = e.sz) (hv : evls st.S c.args.toList = some [.sl b k m re.size tt, .sl b2 k2 m2 re.size tt2]) (hb : st.H b = some (.cells cs)) (hb2 : st.H b2 = some (.cells cs2)) (hf2 : k2 + m2 * re.size ≤ cs2.length) (hX : ((cs2.drop k2).take (m2 * re.size)).take (X.length * e.sz) = encC e X) (hm : min m2 m = X.length) (hfit : k + X.length * e.sz ≤ cs.length) (hcs' : setRange cs k (encC e X) = cs')
    (h7 : K (st.after d { v := .pv (.lit (.int .i64 (X.length : Int))), wr := [(b, some (.cells cs'))] })) (hreach : reachB [.sl b k m re.size tt, .sl b2 k2 m2 re.size tt2] [] [(b, .cells cs), (b2, .cells cs2)] = true) (hcl : clsOf cq ⟨d, .call c, ty, pos, af, g⟩ = .writer := by rfl) : rexec E cq n ⟨d, .call c, ty, pos, af, g⟩ st K := by
  refine rexec_copy C hc hty h1 hr hdesc hre (m' := m2) (hs' := [(b2, .cells cs2)]) (ys := (cs2.drop k2).take (m2 * re.size)) cs' hv hb ?_ (fun x hx => ?_) ?_ (by rw [hm, hs]; exact hfit) ?_ (fun U h => ?_) ?_ ?_ hreach hcl
  · simp only [srcAV, if_true, hb2]
  · simp only [List.mem_singleton] at hx; subst hx; exact hb2
  · rw [List.length_take, List.length_drop]; omega
  · rw [hm, hs, ← hs] at *
    rw [hs, hX]; have := encC_flat (e := e) X ((encC e X).length); rwa [List.take_length] at this
  · have := h _ (List.mem_singleton.2 rfl)
    simp only [Blk.within] at this
    exact within_sub this fun x hx => List.mem_of_mem_drop (List.mem_of_mem_take hx)
  · rw [hm, hs]; rw [hs] at hX; rw [hX]; exact hcs'
  · rw [hm]; exact h7
theorem rexec_overlaps (C : Cx E T n) {d : Option Nat} {c : Call} {ty : TypeId} {pos : String} {af : Array Edge} {g : Option (Nat × Bool)} {st : St} {K : St → Prop} {f : FuncId} {fn : Func} {tR t te : TypeId} (h1 : dstB n ⟨d, .call c, ty, pos, af, g⟩ = true) (hc : c.callee = .value (.func f)) (hf : E.P.funcs[f]? = some fn) (hn : (fn.name == "runtime.NumGoroutine") = false) (hb : fn.body.isNone = true) (hnx : Extern.findNext fn = none) (he : Extern.find fn = some (Extern.SlicesOverlaps.overlaps #[t, t] #[tR]))
    {r re : TyRow} (hr : T.lookup t = some r) (hdesc : r.desc = .slice te) (hre : T.lookup te = some re) {fl : Option Bool} {m : Nat} {ps : List PV} {b k l : Nat} {tt : Bool} {cs : List AV} (hv : evls st.S c.args.toList = some [.pv (.sl fl m ps), .sl b k l re.size tt]) (hbk : st.H b = some (.cells cs)) (hps : ps ≠ []) (hcs : cs ≠ [])
    (h7 : K (st.after d { v := .pv (.lit (.bool false)) })) (hcl : clsOf cq ⟨d, .call c, ty, pos, af, g⟩ = .writer := by rfl) : rexec E cq n ⟨d, .call c, ty, pos, af, g⟩ st K := by
  have hd : ∀ x, d = some x → x < E.n := fun x e => by
    simp only [dstB, e, decide_eq_true_eq] at h1
    exact C.n ▸ h1
  have hdo := does_overlaps C.tab (o := ⟨d, .call c, ty, pos, af, g⟩) rfl hc hd hf hn hb hnx he hr hdesc hre (fl := fl) (m := m) (ps := ps) hps (b := b) (k := k) (l := l) (tt := tt) (cs := cs) hcs
  have hops : (Op.operands (.call c)).toList = .func f :: c.args.toList := by simp [Op.operands, Call.operands, hc]
  refine ⟨h1, _, _, _, { vals := ?_, deps := ?_, fresh := fun _ h => (by cases h), does := hdo, reach := ?_, inV := rfl, inN := fun _ h => (by cases h), inW := fun _ h => (by cases h), wr := fun _ h => (by cases h), pure := fun h => ?_, quiet := fun _ => rfl, foot := by rw [hcl]; rfl }, h7⟩
  · show evls st.S (Op.operands (.call c)).toList = _
    rw [hops]; simp only [evls, evl, hv]
  · intro x hx; simp only [List.mem_singleton] at hx; subst hx; exact hbk
  · simp [reachB, refs, AV.withinL, AV.within]
  · rw [hcl] at h; cases h
theorem rexec_sliceLoC (C : Cx E T n) {d : Option Nat} {t : TypeId} {x y : Operand} {ty : TypeId} {pos : String} {af : Array Edge} {g : Option (Nat × Bool)} {st : St} {K : St → Prop} {b m s c l : Nat} {kk : IntKind} {r re : TyRow} {te : TypeId} (h1 : dstB n ⟨d, .slice t x (some y) none none, ty, pos, af, g⟩ = true)
    (h2 : evls st.S [x, y] = some [.slc b 0 m s c, .pv (.lit (.int kk (l : Int)))]) (hr : T.lookup t = some r) (hdesc : r.desc = .slice te) (hre : T.lookup te = some re) (hs : re.size = s) (hl : l ≤ m) (h7 : K (st.after d { v := .undef })) : rexec E cq n ⟨d, .slice t x (some y) none none, ty, pos, af, g⟩ st K := by
  subst hs
  exact rexec_value C h1 rfl h2 (fun hd => does_sliceC_lo C.tab rfl hd hr hdesc hre hl) (fun _ _ => rfl) h7
theorem rexec_sliceHiC (C : Cx E T n) {d : Option Nat} {t : TypeId} {x y : Operand} {ty : TypeId} {pos : String} {af : Array Edge} {g : Option (Nat × Bool)} {st : St} {K : St → Prop} {b m s c : Nat} {kk : IntKind} {r re : TyRow} {te : TypeId} (h : Nat) (h1 : dstB n ⟨d, .slice t x none (some y) none, ty, pos, af, g⟩ = true)
    (h2 : evls st.S [x, y] = some [.slc b 0 m s c, .pv (.lit (.int kk (h : Int)))]) (hr : T.lookup t = some r) (hdesc : r.desc = .slice te) (hre : T.lookup te = some re) (hs : re.size = s) (hh : h ≤ c) (h7 : K (st.after d { v := .slc b 0 h s c })) : rexec E cq n ⟨d, .slice t x none (some y) none, ty, pos, af, g⟩ st K := by
  subst hs
  exact rexec_value C h1 rfl h2 (fun hd => does_sliceC_hi C.tab rfl hd hr hdesc hre hh) (fun _ h => h_slc h) h7
theorem rexec_lenC (C : Cx E T n) {d : Option Nat} {c : Call} {t : TypeId} {ty : TypeId} {pos : String} {af : Array Edge} {g : Option (Nat × Bool)} {st : St} {K : St → Prop} {b m s k : Nat} {r : TyRow} {te : TypeId} (hc : c.callee = .builtin .len) (hty : c.argTypes = #[t]) (h1 : dstB n ⟨d, .call c, ty, pos, af, g⟩ = true)
    (h2 : evls st.S (Op.operands (.call c)).toList = some [.slc b 0 m s k]) (hr : T.lookup t = some r) (hdesc : r.desc = .slice te) (h7 : K (st.after d { v := .pv (.lit (.int .i64 m)) })) : rexec E cq n ⟨d, .call c, ty, pos, af, g⟩ st K :=
  rexec_value C h1 rfl h2 (fun hd => does_lenC C.tab rfl hc hty hd hr hdesc) (fun _ _ => rfl) h7
theorem rexec_capC (C : Cx E T n) {d : Option Nat} {c : Call} {t : TypeId} {ty : TypeId} {pos : String} {af : Array Edge} {g : Option (Nat × Bool)} {st : St} {K : St → Prop} {b m s k : Nat} {r : TyRow} {te : TypeId} (hc : c.callee = .builtin .cap) (hty : c.argTypes = #[t]) (h1 : dstB n ⟨d, .call c, ty, pos, af, g⟩ = true)
    (h2 : evls st.S (Op.operands (.call c)).toList = some [.slc b 0 m s k]) (hr : T.lookup t = some r) (hdesc : r.desc = .slice te) (h7 : K (st.after d { v := .pv (.lit (.int .i64 k)) })) : rexec E cq n ⟨d, .call c, ty, pos, af, g⟩ st K :=
  rexec_value C h1 rfl h2 (fun hd => does_capC C.tab rfl hc hty hd hr hdesc) (fun _ _ => rfl) h7
/-- A part of an own row, from a place on. -/
theorem rexec_sliceOwn (C : Cx E T n) {d : Option Nat} {t : TypeId} {x y : Operand} {ty : TypeId} {pos : String} {af : Array Edge} {g : Option (Nat × Bool)} {st : St} {K : St → Prop} {b m s l : Nat} {kk : IntKind} {r re : TyRow} {te : TypeId} (h1 : dstB n ⟨d, .slice t x (some y) none none, ty, pos, af, g⟩ = true)
    (h2 : evls st.S [x, y] = some [.sl b 0 m s false, .pv (.lit (.int kk (l : Int)))]) (hr : T.lookup t = some r) (hdesc : r.desc = .slice te) (hre : T.lookup te = some re) (hs : s = re.size) (hl : l < m) (h7 : K (st.after d { v := .sl b (0 + l * s) (m - l) s false })) (h8 : footB (clsOf cq ⟨d, .slice t x (some y) none none, ty, pos, af, g⟩) [] { v := .sl b (0 + l * s) (m - l) s false } = true := by rfl) : rexec E cq n ⟨d, .slice t x (some y) none none, ty, pos, af, g⟩ st K := by
  subst hs
  refine rexec_prim C (p := (0 ≤ (l : Int) ∧ (l : Int) ≤ (m : Int)) ∧ ((l : Int) = 0 ∨ (l : Int) < (m : Int))) (hs := []) (δ := { v := .sl b (0 + l * re.size) (m - l) re.size false }) h1 rfl h2 ?_ ⟨⟨by omega, by omega⟩, by omega⟩ rfl h7 h8
  simp only [prim, primSlice, hr, optI, sliceAV, hdesc, hre, cutOf]
  simp
theorem sl_to {o : Option AV} {τ : Nat → Nat} {b b' m m' s : Nat} {t : Bool} (h : o = some (.sl b' 0 m s t)) (hb : τ b = b') (hm : m' = m) : o = some ((AV.sl b 0 m' s t).ren τ) := by
  subst hm; rw [h]; simp only [AV.ren, hb]
theorem encL_ne {α : Type} {e : Enc α} {D : List α} (h : 0 < D.length) (hs : 0 < e.sz) : encL e D ≠ [] := fun h0 => by
  have h1 := congrArg List.length h0
  rw [encL_len, List.length_nil] at h1
  have := Nat.mul_pos h hs
  omega
theorem encC_ne {α : Type} {e : Enc α} {D : List α} {Z : List AV} (h : 0 < D.length) (hs : 0 < e.sz) : encC e D ++ Z ≠ [] := fun h0 => by
  have h1 := congrArg List.length h0
  rw [List.length_append, encC_len, List.length_nil] at h1
  have := Nat.mul_pos h hs
  omega
end steps
end Go.Am
namespace Go.Am
section steps
variable {E : Env} {T : Tab} {cq : Oper → Cls} {n : Nat} {ops : Array Oper}
/-- A call that takes a row (block 0), changes it in place, and gives what does not change. -/
structure MCalls (P : Program) (f : FuncId) (avs : List AV) (k : Blk) (av : AV) (k' : Blk) : Prop where
  fn : ∃ fn, P.funcs[f]? = some fn ∧ (fn.name == "runtime.NumGoroutine") = false ∧ fn.body.isNone = false
  args : AV.withinL (fun b => b == 0) avs = true
  res : av.within (fun _ => false) = true
  blk : k.within (fun _ => false) = true
  blk' : k'.within (fun _ => false) = true
  calls : ACalls P f [0] avs [(0, k)] av [(0, k')]
theorem MCalls.of_body {P : Program} {T : Tab} (hT : TabOk P T) {f : FuncId} {fn : Func} {body : Code} (hf : P.funcs[f]? = some fn) (hb : fn.body = some body) (hn : (fn.name == "runtime.NumGoroutine") = false) {avs : List AV} {k k' : Blk} {av : AV} (hl : decide (avs.length ≤ fn.ntmps) = true) (ha : AV.withinL (fun b => b == 0) avs = true) (hr : av.within (fun _ => false) = true) (hk : k.within (fun _ => false) = true) (hk' : k'.within (fun _ => false) = true) (hm : P.follows .mixedOrders = true)
    (h : ∀ E : Env, E.P = P → Cx E T fn.ntmps → E.I = [0] → Awp E body (entry avs [(0, k)] [0]) fun e st => (e = .ret ∨ e = .normal) ∧ resAV T st fn.results.toList = some av ∧ st.H 0 = some k') : MCalls P f avs k av k' where
  fn := ⟨fn, hf, hn, by simp [hb]⟩
  args := ha
  res := hr
  blk := hk
  blk' := hk'
  calls := ACalls.of_body hT hf hb (by simpa using hl) fun E hP hE hI => (h E hP ⟨hP ▸ hT, hE, hP ▸ hm⟩ hI).mono fun e st ⟨h1, h2, h3⟩ => ⟨h1, h2, fun x hx => by simp only [List.mem_singleton] at hx; subst hx; exact h3⟩
theorem rexec_callM {P : Program} (hP : E.P = P) (C : Cx E T n) {f : FuncId} {avs args : List AV} {av : AV} {k k' : Blk} {d : Option Nat} {b : Nat} {c : Call} {ty : TypeId} {pos : String} {af : Array Edge} {g : Option (Nat × Bool)} {st : St} {K : St → Prop} (h1 : dstB n ⟨d, .call c, ty, pos, af, g⟩ = true) (hc : c.callee = .value (.func f)) (hv : evls st.S c.args.toList = some args)
    (F : MCalls P f avs k av k') (ha : AV.renL (fun _ => b) avs = args) (hb : st.H b = some k) (h7 : K (st.after d { v := av, wr := [(b, some k')] })) (hreach : reachB (.fn f [] [] :: args) [] [(b, k)] = true := by rfl) (hbr : refs (.fn f [] [] :: args) [(b, k)] b = true := by rfl) (hp : clsOf cq ⟨d, .call c, ty, pos, af, g⟩ ≠ .pure := by decide) (hq : clsOf cq ⟨d, .call c, ty, pos, af, g⟩ ≠ .quiet := by decide) (hft : footB (clsOf cq ⟨d, .call c, ty, pos, af, g⟩) [(b, k)] { v := av, wr := [(b, some k')] } = true := by rfl) : rexec E cq n ⟨d, .call c, ty, pos, af, g⟩ st K := by
  subst hP
  obtain ⟨fn, q1, q2, q3⟩ := F.fn
  have hd : ∀ x, d = some x → x < E.n := fun x e => by
    simp only [dstB, e, decide_eq_true_eq] at h1
    exact C.n ▸ h1
  have hin : inI [0] = fun b => b == 0 := funext fun b => by cases b <;> rfl
  have hk0 : Names.knows ⟨fun _ => b, []⟩ [0] 0 = true := by simp [Names.knows, inI]
  have ok : CallOk ⟨fun _ => b, []⟩ [0] avs [(0, k)] [(0, k')] av := by
    refine { args := by rw [hin]; exact F.args, ids := ?_, blks := ?_, nodup := by simp, inj := ?_, nodupL := by simp, nodupR := by simp, fresh := ?_, res := ?_, res' := ?_, kept := ?_, all := ?_, used := ?_ }
    · intro x hx; simp only [List.mem_singleton] at hx; subst hx; rfl
    · intro x hx; simp only [List.mem_singleton] at hx; subst hx; exact Blk.within_mono (fun b hb => by cases hb) k F.blk
    · intro x y hx hy _; simp [inI] at hx hy; omega
    · intro x hx; cases hx
    · exact AV.within_mono (fun x hx => by cases hx) av F.res
    · intro x hx
      simp only [List.mem_singleton] at hx
      subst hx
      exact ⟨hk0, Blk.within_mono (fun b hb => by cases hb) k' F.blk'⟩
    · intro x hx _; simp only [List.mem_singleton] at hx; subst hx; exact ⟨k, List.mem_singleton.2 rfl⟩
    · intro x hx; cases hx
    · intro x hx
      have : x = 0 := by simpa [inI] using hx
      subst this; exact .inr rfl
  have hdo := does_call (E := E) (o := ⟨d, .call c, ty, pos, af, g⟩) (c := c) rfl hc hd q1 q2 q3 F.calls ok (args := args) (caps := []) (by simpa using ha)
  have he : Names.delta ⟨fun _ => b, []⟩ [0] [(0, k)] [(0, k')] av = { v := av, wr := [(b, some k')] } := by
    have e2 : heapOf [(0, k')] 0 = some k' := rfl
    simp only [Names.delta, List.map_nil, List.map_cons, AV.ren_none av F.res, e2, Option.map_some, Blk.ren_none F.blk']
  have hH : ([(0, k)] : List (Nat × Blk)).map (fun x => ((fun _ => b) x.1, x.2.ren (fun _ => b))) = [(b, k)] := by
    simp only [List.map_cons, List.map_nil, Blk.ren_none F.blk]
  rw [he] at hdo
  have hdo' : Does E ⟨d, .call c, ty, pos, af, g⟩ (.fn f [] [] :: args) [(b, k)] { v := av, wr := [(b, some k')] } := by
    rw [← hH]; exact hdo
  have hops : (Op.operands (.call c)).toList = .func f :: c.args.toList := by simp [Op.operands, Call.operands, hc]
  refine ⟨h1, .fn f [] [] :: args, [(b, k)], _, { vals := ?_, deps := ?_, fresh := fun _ h => (by cases h), does := hdo', reach := hreach, inV := ?_, inN := fun _ h => (by cases h), inW := ?_, wr := ?_, pure := fun h => ?_, quiet := fun h => ?_, foot := hft }, h7⟩
  · show evls st.S (Op.operands (.call c)).toList = _
    rw [hops]; simp only [evls, evl, hv]
  · intro x hx; simp only [List.mem_singleton] at hx; subst hx; exact hb
  · exact AV.within_mono (fun x hx => by cases hx) av F.res
  · intro x hx q hq
    simp only [List.mem_singleton] at hx
    subst hx
    obtain rfl := Option.some.inj hq
    exact Blk.within_mono (fun b hb => by cases hb) k' F.blk'
  · intro x hx
    simp only [List.mem_singleton] at hx
    subst hx
    rw [hbr]; simp
  · exact absurd h hp
  · exact absurd h hq
end steps
end Go.Am
namespace Go.Am
/-- Is a pointer nil? -/
def nilP : AV → Option Bool
  | .pv (.lit (.pointer none)) => some true
  | .ptr _ _ => some false
  | .rp _ => some false
  | _ => none
theorem nilP_holds {ι : Nat → Option (Nat × Nat)} {imm : Nat → Prop} {w : World} {x : AV} {f : Bool} (h : nilP x = some f) {v : Value} (hv : VH ι imm w x v) : ∃ A, v = .pointer A ∧ A.isNone = f := by
  unfold nilP at h
  split at h
  · simp only [Option.some.injEq] at h
    subst h
    simp only [VH, PH] at hv
    exact ⟨none, hv.1, rfl⟩
  · simp only [Option.some.injEq] at h
    subst h
    simp only [VH] at hv
    obtain ⟨r, z, _, e⟩ := hv
    exact ⟨_, e, rfl⟩
  · simp only [Option.some.injEq] at h
    subst h
    simp only [VH] at hv
    obtain ⟨a, e, _⟩ := hv
    exact ⟨_, e, rfl⟩
  · cases h
section ops
variable {E : Env} {T : Tab}
theorem does_eqPtr (hT : TabOk E.P T) {o : Oper} {op : BinOp} {t yt : TypeId} {x y : Operand} (ho : o.op = .binOp op t x y yt) (hd : ∀ d, o.dst = some d → d < E.n) {r : TyRow} (hr : T.lookup t = some r) {et : TypeId} (hdesc : r.desc = .pointer et) {u v z : AV} {f g : Bool} (hf : nilP u = some f) (hg : nilP v = some g) (hfg : (f || g) = true) (h : opB op (f && g) = some z) : Does E o [u, v] [] { v := z } := by
  refine Does.value hd fun ι imm st a w hs hv _ => ?_
  rw [ho] at hv
  simp only [Op.operands, List.map_cons, List.map_nil] at hv
  obtain ⟨h1, h2⟩ := hv.two
  have hu := run_underlying hT hr w (P := E.P)
  obtain ⟨dep, hdp⟩ : ∃ d, Op.maxDepth = d + 1 := ⟨_, rfl⟩
  have fin : ∀ {b : Bool}, (Op.equal t (a.eval x) (a.eval y)).run E.P w = .ok b w → (eqGuard op t x y (a.eval x) (a.eval y)).run E.P w = .ok () w → (∀ op', (op' = .eql ∨ op' = .neq) → binOp op' t (a.eval x) (a.eval y) = (match op' with | .eql => (do let q ← Op.equal t (a.eval x) (a.eval y); pure (.bool q)) | _ => (do let q ← Op.equal t (a.eval x) (a.eval y); pure (.bool !q)))) →
      opB op b = some z → ∃ q, (execOp a.eval o).run E.P w = .ok (.value q) w ∧ VH ι imm w z q := by
    intro b hb hg hbin hz
    by_cases e1 : op = .eql
    · subst e1
      simp only [opB, Option.some.injEq] at hz; subst hz
      refine ⟨.bool b, ?_, by simp [VH, PH, flatB]⟩
      simp only [execOp, ho, run_bind', hg, hbin .eql (.inl rfl), hb, run_pure']
    · by_cases e2 : op = .neq
      · subst e2
        simp only [opB, Option.some.injEq] at hz; subst hz
        refine ⟨.bool !b, ?_, by simp [VH, PH, flatB]⟩
        simp only [execOp, ho, run_bind', hg, hbin .neq (.inr rfl), hb, run_pure']
      · exfalso; cases op <;> simp_all [opB]
  obtain ⟨A, e1, e2⟩ := nilP_holds hf h1
  obtain ⟨B, e3, e4⟩ := nilP_holds hg h2
  refine fin (b := f && g) ?_ (by rw [e1]; exact eqGuard_run w (by simp) (by simp)) (fun op' ho' => by rw [e1, e3]; rcases ho' with rfl | rfl <;> rfl) h
  unfold Op.equal
  rw [hdp, e1, e3]
  cases A <;> cases B <;> simp only [Option.isNone_none, Option.isNone_some] at e2 e4 <;> subst e2 <;> subst e4 <;> first | (cases hfg; done) | skip
  all_goals simp only [Op.equalIn, run_bind', hu, hdesc, run_pure']; rfl
/-- An append of elements to a slice whose room is full: a new row. -/
theorem does_appendT (hT : TabOk E.P T) {o : Oper} {c : Call} {t t2 : TypeId} (ho : o.op = .call c) (hc : c.callee = .builtin .append) (hty : c.argTypes = #[t, t2]) {d : Nat} (hdst : o.dst = some d) (hd : d < E.n) {r re r2 : TyRow} (hr : T.lookup t = some r) {e : TypeId} (hdesc : r.desc = .slice e) (hre : T.lookup e = some re) (hr2 : T.lookup t2 = some r2) (hd2 : ∀ k, r2.desc ≠ .int k)
    {n : Nat} {qs : List PV} (hlq : qs.length = n * re.size) {f : Option Bool} {m : Nat} {ps : List PV} (hm : 0 < m) (hln : ps.length = m * re.size)
    (hb : (2 * (n + m) + 192) * re.bytes ≤ 281474976710656) (hnm : n + m ≤ 9223372036854775807) (hzs : re.zero.cells.size = re.size) :
    Does E o [.tsl n qs, .pv (.sl f m ps)] [] { v := .sl d 0 (n + m) re.size false, new := [(d, .cells (qs.map .pv ++ ps.map .pv))] } := by
  intro ι imm st a w Q hs hv _ hf
  have hUd : st.U d = false := hf (d, _) (List.mem_cons_self ..)
  have hvs := hs.evls hv
  have hops : o.op.operands.toList = c.args.toList := by rw [ho]; simp [Op.operands, Call.operands, hc]
  rw [hops] at hvs
  obtain ⟨v1, us1, he, hv1, hvs⟩ := hvs
  obtain ⟨v2, us2, he2, hv2, hvs⟩ := hvs
  simp only [VHs] at hvs
  subst hvs
  subst he2
  have hargs : c.args.map a.eval = #[v1, v2] := by apply Array.ext'; simpa using he
  obtain ⟨vsO, p1, p2, p3⟩ := run_src (H := st.H) (y := .tsl n qs) (sz := re.size) (m := n) (hd := []) (cs := qs.map .pv) hs rfl (fun x hx => by cases hx) (by simpa using hlq) hv1
  have hlO := p2.length
  have hv1' := hv1
  simp only [VH] at hv1
  obtain ⟨A, rfl, _, _⟩ := hv1
  obtain ⟨vsN, g1, g2, g3⟩ := run_src (H := st.H) (y := .pv (.sl f m ps)) (sz := re.size) (m := m) (hd := []) (cs := ps.map .pv) hs rfl (fun x hx => by cases hx) (by simpa using hln) hv2
  have hlN := g2.length
  have hnew : ∀ w' : World, (∀ x, w'.cell? x = w.cell? x) → (Builtin.firstCells re.size m v2).run E.P w' = .ok (List.toArray vsN) w' := fun w' hw' => by
    have := g3 m (Nat.le_refl _) w' hw'
    rwa [List.take_of_length_le (by rw [hlN]; simp [hln])] at this
  have hold : ∀ w' : World, (∀ x, w'.cell? x = w.cell? x) → (Builtin.firstCells re.size n (.slice A n n)).run E.P w' = .ok (List.toArray vsO) w' := fun w' hw' => by
    have := p3 n (Nat.le_refl _) w' hw'
    rwa [List.take_of_length_le (by rw [hlO]; simp [hlq])] at this
  obtain ⟨_, grown⟩ := run_append hT hr hdesc hre hr2 hd2 (ty := o.type) (t := t) (n := n) (cap := n) (base := A) g1 hnew hold hb hnm
  have hexec : ∀ {u w'}, (Builtin.append_ #[t, t2] o.type #[.slice A n n, v2]).run E.P w = .ok u w' → (execOp a.eval o).run E.P w = .ok (.value u) w' := fun {u w'} h => by
    simp only [execOp, ho, resolve, hc, run_bind', run_pure', invoke, builtin, hargs, hty, h]
  unfold Oper.wp
  have hdd : ∀ x, o.dst = some x → x < E.n := fun x hx => by rw [hdst] at hx; exact Option.some.inj hx ▸ hd
  obtain ⟨w1, nc, rest, hrun, hnc, ⟨e1, e2, e3, e4, e5⟩, hrest⟩ := grown (by omega)
  rw [hexec hrun, Oper.upon_value]
  have gw : Grows ι ι imm imm w w1 := ⟨fun _ _ h => h, ⟨fun _ h => h, fun k _ => by rw [e1]⟩, fun r' c1 e1' f1 hr' => ⟨c1, f1, by rw [e1]; exact hr', rfl⟩⟩
  have hs1 : SR E ι imm ⟨st.S, st.H, st.U⟩ a w1 := hs.turn gw e2 e3 e4 e5 (by rw [e1]; exact Nat.le_refl _) (fun k _ _ => by rw [e1]) ⟨fun b' k' hb' => by
    obtain ⟨r', z', p1, p2, p3, p4⟩ := hs.heap.blk b' k' hb'
    exact ⟨r', z', p1, p2, p3, p4.grows gw (by rw [e1])⟩, hs.heap.inj⟩ hs.used (fun _ hk => .inl hk) (fun k hk => by rw [e1]; exact hs.immlt k hk)
  have hboth : VHs ι imm w1 (qs.map .pv ++ ps.map .pv) (vsO ++ vsN) := VHs.append (VHs.grows gw _ _ p2) (VHs.grows gw _ _ g2)
  have hNew : NewH ι imm w1 (Obj.cells (vsO ++ vsN ++ rest).toArray e) (.cells (qs.map .pv ++ ps.map .pv)) := by
    refine ⟨_, _, rfl, ?_, CellsH.of_VHs (vs := vsO ++ vsN) hboth fun i hi => ?_⟩
    · simp only [List.length_append, List.size_toArray, hlN, hlO]; omega
    · rw [Nat.zero_add, List.getElem?_toArray, List.getElem?_append_left hi]
  obtain ⟨ι', i1, i2, i3⟩ := hs1.new hUd hNew (.sl d 0 (n + m) re.size false)
  refine ⟨ι', imm, ?_⟩
  have hheap : (World.push w1 (Obj.cells (vsO ++ vsN ++ rest).toArray e)).heap[w1.heap.size]? = some (Obj.cells (vsO ++ vsN ++ rest).toArray e) := by
    show (w1.heap.push _)[_]? = _
    rw [Array.getElem?_push, if_pos rfl]
  have hln' : vsN.length = m * re.size := by rw [hlN]; simp [hln]
  have hlq' : vsO.length = n * re.size := by rw [hlO]; simp [hlq]
  have hfin := i3.put o.dst hdd (v := .sl d 0 (n + m) re.size false) (u := .slice (some ⟨w.heap.size, 0, none⟩) (n + m) nc) ⟨w1.heap.size, 0, nc, i1, by rw [e1], by omega, (fun h => (by cases h)), _, _, _, hheap, by
    simp only [List.size_toArray, List.length_append, hln', hlq', hrest, hzs]
    have : nc = n + m + (nc - (n + m)) := by omega
    rw [this, Nat.add_mul, Nat.add_mul]
    have : n + m + (nc - (n + m)) - (n + m) = nc - (n + m) := by omega
    rw [this]; omega⟩
  exact hfin
end ops
section steps
variable {E : Env} {T : Tab} {cq : Oper → Cls} {n : Nat} {ops : Array Oper}
theorem rexec_eqPtr (C : Cx E T n) {d : Option Nat} {op : BinOp} {t t' : TypeId} {x y : Operand} {ty : TypeId} {pos : String} {af : Array Edge} {g : Option (Nat × Bool)} {st : St} {K : St → Prop}
    {r : TyRow} {et : TypeId} {u v : AV} (p q : Bool) {z : AV} (h1 : dstB n ⟨d, .binOp op t x y t', ty, pos, af, g⟩ = true) (h2 : evls st.S [x, y] = some [u, v]) (hr : T.lookup t = some r) (hd : r.desc = .pointer et) (hp : nilP u = some p) (hq : nilP v = some q) (hpq : (p || q) = true) (hz : opB op (p && q) = some z) (hw : z.within (fun _ => false) = true) (h7 : K (st.after d { v := z })) :
    rexec E cq n ⟨d, .binOp op t x y t', ty, pos, af, g⟩ st K := by
  have hd' : ∀ x, d = some x → x < E.n := fun x e => by
    simp only [dstB, e, decide_eq_true_eq] at h1
    exact C.n ▸ h1
  refine ⟨h1, _, _, _, { vals := h2, deps := fun _ h => (by cases h), fresh := fun _ h => (by cases h), does := does_eqPtr C.tab (o := ⟨d, .binOp op t x y t', ty, pos, af, g⟩) rfl hd' hr hd hp hq hpq hz, reach := rfl, inV := AV.within_mono (fun b hb => by cases hb) _ hw, inN := fun _ h => (by cases h), inW := fun _ h => (by cases h), wr := fun _ h => (by cases h), pure := fun _ => ⟨rfl, rfl, rfl⟩, quiet := fun _ => rfl, foot := by cases (clsOf cq ⟨d, .binOp op t x y t', ty, pos, af, g⟩) <;> rfl }, h7⟩
/-- A slice that does not change, cut to its own length and room. -/
theorem rexec_slice3 (C : Cx E T n) {d : Option Nat} {t : TypeId} {x : Operand} {hi mx : Operand} {ty : TypeId} {pos : String} {af : Array Edge} {g : Option (Nat × Bool)} {st : St} {K : St → Prop} {r re : TyRow} {te : TypeId} {α : Type} {e : Enc α} {D : List α} {f : Option Bool} {k1 k2 : IntKind} (h1 : dstB n ⟨d, .slice t x none (some hi) (some mx), ty, pos, af, g⟩ = true)
    (h2 : evls st.S [x, hi, mx] = some [sS f e D, .pv (.lit (.int k1 (D.length : Int))), .pv (.lit (.int k2 (D.length : Int)))]) (hr : T.lookup t = some r) (hdesc : r.desc = .slice te) (hre : T.lookup te = some re) (hs : re.size = e.sz)
    (h7 : K (st.after d { v := .tsl D.length (encL e D) })) : rexec E cq n ⟨d, .slice t x none (some hi) (some mx), ty, pos, af, g⟩ st K := by
  have key : ((encL e D).drop (0 * e.sz)).take (D.length * e.sz) = encL e D := by
    rw [Nat.zero_mul, List.drop_zero, ← encL_len (e := e), List.take_length]
  refine rexec_primv C (p := (0 ≤ (0 : Int) ∧ (0 : Int) ≤ (D.length : Int) ∧ (D.length : Int) ≤ (D.length : Int) ∧ (D.length : Int) ≤ (D.length : Int)) ∧ (D.length : Int) = (D.length : Int)) (hs := []) (δ := { v := .tsl ((D.length : Int).toNat - (0 : Int).toNat) (((encL e D).drop ((0 : Int).toNat * re.size)).take (((D.length : Int).toNat - (0 : Int).toNat) * re.size)) }) { v := .tsl D.length (encL e D) } h1 rfl h2 ?_ ⟨⟨by omega, by omega, by omega, by omega⟩, rfl⟩ ?_ rfl h7 (by cases (clsOf cq ⟨d, .slice t x none (some hi) (some mx), ty, pos, af, g⟩) <;> rfl)
  · simp only [prim, primSlice, hr, optI, sliceAV, hdesc, hre, sS, cutOf, Option.getD_none]
  · simp only [hs, Int.toNat_natCast, Int.toNat_zero, Nat.sub_zero, key]
theorem rexec_appendT (C : Cx E T n) {d : Nat} {c : Call} {t t2 : TypeId} {ty : TypeId} {pos : String} {af : Array Edge} {g : Option (Nat × Bool)} {st : St} {K : St → Prop} (hc : c.callee = .builtin .append) (hty : c.argTypes = #[t, t2]) (h1 : dstB n ⟨some d, .call c, ty, pos, af, g⟩ = true) (hU : st.U d = false)
    {r re r2 : TyRow} (hr : T.lookup t = some r) {e : TypeId} (hdesc : r.desc = .slice e) (hre : T.lookup e = some re) (hr2 : T.lookup t2 = some r2) (hd2 : ∀ k, r2.desc ≠ .int k) (hzs : re.zero.cells.size = re.size)
    {α : Type} {en : Enc α} {f : Option Bool} {D0 D : List α} (hs : re.size = en.sz) (hv : evls st.S c.args.toList = some [.tsl D0.length (encL en D0), sS f en D]) (hm : 0 < D.length)
    (hbig : (2 * (D0.length + D.length) + 192) * re.bytes ≤ 281474976710656) (hpos : 0 < re.bytes) {nn : Nat} (hnn : nn = D0.length + D.length)
    (h7 : K (st.after (some d) { v := .sl d 0 nn re.size false, new := [(d, .cells (encC en (D0 ++ D)))] })) (hcl : clsOf cq ⟨some d, .call c, ty, pos, af, g⟩ ≠ .pure ∧ clsOf cq ⟨some d, .call c, ty, pos, af, g⟩ ≠ .quiet ∧ footB (clsOf cq ⟨some d, .call c, ty, pos, af, g⟩) [] { v := .sl d 0 nn re.size false, new := [(d, .cells (encC en (D0 ++ D)))] } = true := by exact ⟨by decide, by decide, rfl⟩) :
    rexec E cq n ⟨some d, .call c, ty, pos, af, g⟩ st K := by
  subst hnn
  have hd : d < E.n := by
    simp only [dstB, decide_eq_true_eq] at h1
    exact C.n ▸ h1
  have hdo := does_appendT C.tab (o := ⟨some d, .call c, ty, pos, af, g⟩) rfl hc hty rfl hd hr hdesc hre hr2 hd2 (n := D0.length) (qs := encL en D0) (by rw [encL_len, hs]) (f := f) (ps := encL en D) hm (by rw [encL_len, hs]) hbig (by
    have : 2 * (D0.length + D.length) + 192 ≤ (2 * (D0.length + D.length) + 192) * re.bytes := Nat.le_mul_of_pos_right _ hpos
    omega) hzs
  have hcat : (encL en D0).map AV.pv ++ (encL en D).map AV.pv = encC en (D0 ++ D) := by
    rw [encC_append]; rfl
  rw [hcat] at hdo
  have hops : (Op.operands (.call c)).toList = c.args.toList := by simp [Op.operands, Call.operands, hc]
  refine ⟨h1, _, _, _, { vals := ?_, deps := ?_, fresh := ?_, does := hdo, reach := rfl, inV := ?_, inN := ?_, inW := ?_, wr := ?_, pure := fun h => ?_, quiet := fun h => ?_, foot := hcl.2.2 }, h7⟩
  · show evls st.S (Op.operands (.call c)).toList = _
    rw [hops]; exact hv
  · intro x hx; cases hx
  · intro x hx; simp only [List.mem_singleton] at hx; subst hx; exact hU
  · simp [AV.within]
  · intro x hx; simp only [List.mem_singleton] at hx; subst hx; exact encC_within _ _
  · intro x hx; cases hx
  · intro x hx; cases hx
  · exact absurd h hcl.1
  · rfl
/-- A loop whose first round begins otherwise than the others. -/
theorem Awp.peelM {c : Code} {st : St} {Q : Exit → St → Prop} {σ : Type} (S : σ → List (Nat × AV)) (H : σ → List (Nat × Blk)) (U : List Nat) (J : Nat → σ → Prop) (N : Nat)
    (first : Awp E c st fun e st' => match e with | .normal => ∃ m' y, m' < N ∧ J m' y ∧ ∃ τ, WeakerR st' τ (S y) (H y) U E.I | e => Q e st')
    (round : ∀ m x, J m x → Awp E c (mkSt (S x) (H x) U) fun e st' => match e with | .normal => ∃ m' y, m' < m ∧ J m' y ∧ ∃ τ, WeakerR st' τ (S y) (H y) U E.I | e => Q e st') : Awp E (.loop c) st Q := by
  intro a w hat
  refine wp_loop_ghost (fun m a w => (m = N ∧ At E st a w) ∨ ∃ x, J m x ∧ At E (mkSt (S x) (H x) U) a w) N (.inl ⟨rfl, hat⟩) fun m a w hI => ?_
  rcases hI with ⟨rfl, hat⟩ | ⟨x, hJ, hat⟩
  · refine wp_mono (first a w hat) ?_
    rintro e a' w' ⟨st', h1, h2⟩
    cases e <;> simp only [Exit.then]
    case normal =>
      obtain ⟨m', y, h3, h4, τ, h5⟩ := h1
      exact ⟨m', h3, .inr ⟨y, h4, h2.weakenR h5⟩⟩
    all_goals exact ⟨st', h1, h2⟩
  · refine wp_mono (round m x hJ a w hat) ?_
    rintro e a' w' ⟨st', h1, h2⟩
    cases e <;> simp only [Exit.then]
    case normal =>
      obtain ⟨m', y, h3, h4, τ, h5⟩ := h1
      exact ⟨m', h3, .inr ⟨y, h4, h2.weakenR h5⟩⟩
    all_goals exact ⟨st', h1, h2⟩
end steps
end Go.Am
namespace Go.Am
section steps
variable {E : Env} {T : Tab} {cq : Oper → Cls} {n : Nat} {ops : Array Oper}
end steps
end Go.Am
namespace Go.Am
theorem VHs.lone {ι κ : Nat → Option (Nat × Nat)} {imm : Nat → Prop} {w : World} : ∀ {xs : List AV} {vs : List Value}, AV.withinL (fun _ => false) xs = true → VHs ι imm w xs vs → VHs κ imm w xs vs
  | [], _, _, h => h
  | x :: xs, vs, hu, h => by
    simp only [AV.withinL, Bool.and_eq_true] at hu
    simp only [VHs] at h ⊢
    obtain ⟨v, us, rfl, h1, h2⟩ := h
    refine ⟨v, us, rfl, ?_, VHs.lone hu.2 h2⟩
    have := (VH.ren (ι := ι) (κ := κ) (σ := fun b => b) (U := fun _ => false) (fun b hb => by cases hb) x v hu.1).2 h1
    rwa [AV.ren_id] at this
end Go.Am
namespace Go.Am
end Go.Am
namespace Go.Am
mutual
def depthA : AV → Nat
  | .agg cs => depthL cs + 1
  | _ => 0
def depthL : List AV → Nat
  | [] => 0
  | x :: xs => depthA x + depthL xs
end
/-- Keys as values told whole. -/
structure KEnc (κ : Type) where
  enc : κ → AV
  eq : κ → κ → Bool
  rig : ∀ a, rigid (enc a) = true
  dep : ∀ a, depthA (enc a) ≤ 10000
  spec : ∀ a b, eq a b = true ↔ enc a = enc b
section plain
variable {κ β : Type} (KE : KEnc κ)
variable {KE}
end plain
section find
variable {κ β : Type} {KE : KEnc κ} {ve : β → AV} {P : Program} {kt : TypeId} {ι : Nat → Option (Nat × Nat)} {imm : Nat → Prop} {w : World}
end find
end Go.Am
namespace Go.Am
section worlds
variable {E : Env} {κ β : Type} {KE : KEnc κ} {ve : β → AV} {ι : Nat → Option (Nat × Nat)} {imm : Nat → Prop} {st : St} {a : Act} {w : World}
end worlds
section ops
variable {E : Env} {T : Tab} {κ β : Type} {KE : KEnc κ} {ve : β → AV}
end ops
end Go.Am
namespace Go.Am
structure VEnc (β : Type) where
  enc : β → AV
  pure : ∀ x U, (enc x).within U = true
section steps
variable {E : Env} {T : Tab} {cq : Oper → Cls} {n : Nat} {ops : Array Oper} {κ β : Type} {KE : KEnc κ} {VE : VEnc β} {P : Program}
theorem dst_lt (C : Cx E T n) {o : Oper} (h1 : dstB n o = true) : ∀ d, o.dst = some d → d < E.n := fun d e => by
  simp only [dstB, e, decide_eq_true_eq] at h1
  exact C.n ▸ h1
end steps
end Go.Am
namespace Go.Am
section worlds
variable {E : Env} {κ β : Type} {KE : KEnc κ} {ve : β → AV} {ι : Nat → Option (Nat × Nat)} {imm : Nat → Prop} {st : St} {a : Act} {w : World}
theorem Delta.H_wr {v : AV} {b : Nat} {k : Option Blk} {H : Nat → Option Blk} : (Delta.mk v [] [(b, k)]).H H = fun b' => if b' = b then k else H b' := by
  funext b'
  simp only [Delta.H, List.lookup]
  by_cases hbb : b' = b
  · subst hbb; simp
  · have : (b' == b) = false := by simpa using hbb
    simp [this, hbb]
/-- A block that is no row is written. -/
theorem SR.writeObj (h : SR E ι imm st a w) {b : Nat} {k k' : Blk} (hb : st.H b = some k) {r z : Nat} (hi : ι b = some (r, z)) {o o' : Obj} (ho : w.heap[r]? = some o) (hc : ∀ c e f, o ≠ Obj.cells c e f)
    (hk : Grows ι ι imm imm w { w with heap := w.heap.setIfInBounds r o' } → BlkH ι imm { w with heap := w.heap.setIfInBounds r o' } r z k') (v : AV) :
    SR E ι imm ⟨st.S, (Delta.mk v [] [(b, some k')]).H st.H, (Delta.mk v [] [(b, some k')]).U st.U⟩ a { w with heap := w.heap.setIfInBounds r o' } := by
  obtain ⟨r', z', q1, h6, h7, _⟩ := h.heap.blk b k hb
  rw [hi] at q1
  simp only [Option.some.injEq, Prod.mk.injEq] at q1
  obtain ⟨rfl, rfl⟩ := q1
  obtain ⟨hs1, hs2⟩ := Go.MapKept.heap_set (o' := o') ho
  have g : Grows ι ι imm imm w { w with heap := w.heap.setIfInBounds r o' } := ⟨fun _ _ h => h, ⟨fun _ h => h, fun k hk => hs2 k (fun e => h6 (e ▸ hk))⟩, fun r' c1 e1 f1 hr' => by
    by_cases hrr : r' = r
    · subst hrr; rw [ho] at hr'; exact absurd (Option.some.inj hr') (hc _ _ _)
    · exact ⟨c1, f1, (hs2 r' hrr).trans hr', rfl⟩⟩
  have hH : ∀ b' k1, (Delta.mk v [] [(b, some k')]).H st.H b' = some k1 → (b' = b ∧ k1 = k') ∨ (b' ≠ b ∧ st.H b' = some k1) := fun b' k1 hk1 => by
    rw [Delta.H_wr] at hk1
    dsimp only at hk1
    split at hk1
    · rename_i e; exact .inl ⟨e, (Option.some.inj hk1).symm⟩
    · rename_i e; exact .inr ⟨e, hk1⟩
  have hold : ∀ b' k1, (Delta.mk v [] [(b, some k')]).H st.H b' = some k1 → ∃ k2, st.H b' = some k2 := fun b' k1 hk1 => by
    rcases hH b' k1 hk1 with ⟨rfl, _⟩ | ⟨_, h⟩
    · exact ⟨_, hb⟩
    · exact ⟨_, h⟩
  have hsz : ({ w with heap := w.heap.setIfInBounds r o' } : World).heap.size = w.heap.size := by simp
  refine h.turn g rfl rfl rfl (Nat.le_refl _) (by rw [hsz]; exact Nat.le_refl _) (fun k _ hM => hs2 k (fun e => hM (e ▸ h7))) ⟨fun b' k1 hk1 => ?_, fun b1 b2 k1 k2 r1 z1 z2 hk1 hk2 hi1 hi2 => ?_⟩ (fun b' x hx => ?_) (fun _ hk => .inl hk) (fun k hk => by rw [hsz]; exact h.immlt k hk)
  · rcases hH b' k1 hk1 with ⟨rfl, rfl⟩ | ⟨hne, hk1⟩
    · exact ⟨r, z, hi, h6, h7, hk g⟩
    · obtain ⟨r', z', q1, q2, q3, q4⟩ := h.heap.blk b' k1 hk1
      have hrr : r' ≠ r := fun e => hne (h.heap.inj b' b k1 _ r z' z hk1 hb (e ▸ q1) hi)
      exact ⟨r', z', q1, q2, q3, q4.grows g (hs2 r' hrr)⟩
  · obtain ⟨k1', q1⟩ := hold b1 k1 hk1
    obtain ⟨k2', q2⟩ := hold b2 k2 hk2
    exact h.heap.inj b1 b2 k1' k2' r1 z1 z2 q1 q2 hi1 hi2
  · simp only [Delta.U, List.lookup, Option.isSome_none, Bool.false_or]; exact h.used b' x hx
theorem EntsH.length {es : List (AV × AV)} {l : List MapEntry} (h : EntsH ι imm w es l) : l.length = es.length := by
  induction es generalizing l with
  | nil => simp only [EntsH] at h; rw [h]; rfl
  | cons x xs ih => obtain ⟨e, us, rfl, _, _, h⟩ := h; simp [ih h]
end worlds
section tell
variable {E : Env} {κ β : Type} {KE : KEnc κ} {VE : VEnc β} {st : St} {Q : Exit → St → Prop}
end tell
end Go.Am
namespace Go.Am
section plain
variable {κ β : Type} (KE : KEnc κ)
end plain
section worlds
variable {E : Env} {κ β : Type} {KE : KEnc κ} {ve : β → AV} {ι : Nat → Option (Nat × Nat)} {imm : Nat → Prop} {st : St} {a : Act} {w : World}
end worlds
section ops
variable {E : Env} {T : Tab} {κ β : Type} {KE : KEnc κ} {ve : β → AV}
end ops
end Go.Am
namespace Go.Am
section next
variable {E : Env} {T : Tab} {n : Nat} {κ β : Type} {KE : KEnc κ} {ve : β → AV} {st : St} {Q : Exit → St → Prop}
end next
end Go.Am
namespace Go.Am
section plain
variable {κ β : Type} (KE : KEnc κ)
variable {KE}
end plain
section ops
variable {E : Env} {T : Tab} {κ β : Type} {KE : KEnc κ} {ve : β → AV}
end ops
end Go.Am
namespace Go.Am
section steps
variable {E : Env} {T : Tab} {cq : Oper → Cls} {n : Nat} {ops : Array Oper} {κ β : Type} {KE : KEnc κ} {VE : VEnc β} {P : Program}
end steps
end Go.Am
namespace Go.Am
section worlds
variable {E : Env} {ι : Nat → Option (Nat × Nat)} {imm : Nat → Prop} {st : St} {a : Act} {w : World}
end worlds
section ops
variable {E : Env} {T : Tab} {κ β : Type} {KE : KEnc κ} {ve : β → AV}
end ops
section steps
variable {E : Env} {T : Tab} {cq : Oper → Cls} {n : Nat} {ops : Array Oper} {κ β : Type} {KE : KEnc κ} {VE : VEnc β} {P : Program}
end steps
end Go.Am
namespace Go.Am
section steps
variable {E : Env} {T : Tab} {cq : Oper → Cls} {n : Nat} {ops : Array Oper}
end steps
end Go.Am
namespace Go.Am
section heads
variable {κ β : Type} {KE : KEnc κ} {VE : VEnc β} {f : Nat → Option Blk} {τ : Nat → Nat} {U Ks : List Nat} {H : List (Nat × Blk)}
end heads
section steps
variable {E : Env} {T : Tab} {cq : Oper → Cls} {n : Nat}
end steps
end Go.Am
namespace Go.Am
section
variable {f : Nat → Option Blk} {τ : Nat → Nat} {U Ks : List Nat} {H : List (Nat × Blk)} {κ β : Type} {KE : KEnc κ} {VE : VEnc β}
end
section
variable {κ β : Type} {KE : KEnc κ}
end
end Go.Am
namespace Go.Am
section
variable {E : Env} {T : Tab} {n : Nat} {cq : Oper → Cls}
def two (d d2 : Nat) : Nat → Nat := fun b => bif b == 0 then d else d2
end
end Go.Am
namespace Go.Am
section
variable {E : Env} {T : Tab}
theorem freeze_other (w : World) (r n : Nat) {k : Nat} (h : k ≠ r) : (w.freeze ⟨r, n, none⟩ 1).heap[k]? = w.heap[k]? := by
  unfold World.freeze
  rw [if_neg (by decide)]
  simp only [Array.getElem?_modify]
  rw [if_neg (Ne.symm h)]
theorem freeze_this (w : World) (r n : Nat) {c : Array Value} {e : TypeId} {f : Nat × Nat} (h : w.heap[r]? = some (.cells c e f)) : ∃ f', (w.freeze ⟨r, n, none⟩ 1).heap[r]? = some (.cells c e f') := by
  unfold World.freeze
  rw [if_neg (by decide)]
  simp only [Array.getElem?_modify, if_true, h, Option.map_some]
  exact ⟨_, rfl⟩
theorem freeze_rest (w : World) (r n : Nat) : (w.freeze ⟨r, n, none⟩ 1).heap.size = w.heap.size ∧ (w.freeze ⟨r, n, none⟩ 1).os = w.os ∧ (w.freeze ⟨r, n, none⟩ 1).tape = w.tape ∧ (w.freeze ⟨r, n, none⟩ 1).output = w.output ∧ (w.freeze ⟨r, n, none⟩ 1).drawn = w.drawn := by
  unfold World.freeze
  rw [if_neg (by decide)]
  exact ⟨by simp, rfl, rfl, rfl, rfl⟩
theorem does_convOwn (hT : TabOk E.P T) {o : Oper} {t : TypeId} {x : Operand} (ho : o.op = .convert t t x) (hd : ∀ d, o.dst = some d → d < E.n) {r re : TyRow} (hr : T.lookup t = some r) {e : TypeId} (hdesc : r.desc = .slice e) (hre : T.lookup e = some re) (hu : re.desc = .int .u8) {b m s : Nat} {tt : Bool} {ps : List PV} :
    Does E o [.sl b 0 m s tt] [(b, .cells (ps.map .pv))] { v := .pv (.sl (some false) m ps), wr := [(b, none)] } := by
  intro ι imm st a w Q h hv hh _
  have hv := h.evls hv
  rw [ho] at hv
  simp only [Op.operands, List.map_cons, List.map_nil] at hv
  have hv1 := hv.one
  have hb := hh _ (List.mem_cons_self ..)
  obtain ⟨r0, z, q1, q2, q3, c, ec, f, q4, q5, q6, q7⟩ := h.heap.blk b _ hb
  simp only [VH] at hv1
  obtain ⟨r', z', cap, i1, i2, i3, _⟩ := hv1
  rw [q1] at i1
  simp only [Option.some.injEq, Prod.mk.injEq] at i1
  obtain ⟨rfl, rfl⟩ := i1
  have hlt : r0 < w.heap.size := by
    rcases Nat.lt_or_ge r0 w.heap.size with h' | h'
    · exact h'
    · rw [Array.getElem?_eq_none h'] at q4; cases q4
  have hsh : w.shape? r0 = some (ec, c.size) := by unfold World.shape?; rw [q4]
  have hun := run_underlying hT hr w
  have hue := run_underlying hT hre w
  rw [hdesc] at hun
  rw [hu] at hue
  have hrun : (execOp a.eval o).run E.P w = .ok (.value (.slice (some ⟨r0, z + 0, none⟩) m cap)) (w.freeze ⟨r0, c.size, none⟩ 1) := by
    simp only [execOp, ho, convert, i2, run_bind', hun, hue, beq_self_eq_true, markStringish, shape, freeze, Sem.run, hsh, run_pure']
  obtain ⟨f', p1⟩ := freeze_this w r0 c.size q4
  have p2 : ∀ k, k ≠ r0 → (w.freeze ⟨r0, c.size, none⟩ 1).heap[k]? = w.heap[k]? := fun k hk => freeze_other w r0 c.size hk
  obtain ⟨p3, p4, p5, p6, p7⟩ := freeze_rest w r0 c.size
  generalize w.freeze ⟨r0, c.size, none⟩ 1 = w' at hrun p1 p2 p3 p4 p5 p6 p7
  let imm' : Nat → Prop := fun k => imm k ∨ k = r0
  have stay : Stays imm imm' w w' := ⟨fun _ hk => .inl hk, fun k hk => p2 k (fun e => q2 (e ▸ hk))⟩
  have g : Grows ι ι imm imm' w w' := ⟨fun _ _ h => h, stay, fun r c1 e1 f1 hr => by
    by_cases hrr : r = r0
    · subst hrr; rw [q4] at hr; cases hr; exact ⟨c, f', p1, rfl⟩
    · exact ⟨c1, f1, (p2 r hrr).trans hr, rfl⟩⟩
  have hH : ∀ x k, (Delta.mk (.pv (.sl (some false) m ps)) [] [(b, none)]).H st.H x = some k → x ≠ b ∧ st.H x = some k := fun x k hx => by
    rw [Delta.H_wr] at hx
    dsimp only at hx
    split at hx
    · cases hx
    · rename_i hne; exact ⟨hne, hx⟩
  have hs : SR E ι imm' ⟨st.S, (Delta.mk (.pv (.sl (some false) m ps)) [] [(b, none)]).H st.H, (Delta.mk (.pv (.sl (some false) m ps)) [] [(b, none)]).U st.U⟩ a w' := by
    refine h.turn g p4 p5 p6 (by omega) (by omega) (fun k _ hM => p2 k (fun e => hM (e ▸ q3))) ⟨fun x k hx => ?_, fun x x' k k' r z z' hx hx' => h.heap.inj x x' k k' r z z' (hH x k hx).2 (hH x' k' hx').2⟩ (fun x y hx => ?_) (fun k hk => ?_) (fun k hk => ?_)
    · obtain ⟨hne, hx⟩ := hH x k hx
      obtain ⟨r', z', p1', p2', p3', p4'⟩ := h.heap.blk x k hx
      have hrr : r' ≠ r0 := fun e => by
        subst e
        exact hne (h.heap.inj x b k _ r' z' z hx hb p1' q1)
      exact ⟨r', z', p1', fun hi => hi.elim p2' hrr, p3', p4'.grows g (p2 r' hrr)⟩
    · simp only [Delta.U, List.lookup, Option.isSome_none, Bool.false_or]; exact h.used x y hx
    · rcases hk with hk | rfl
      · exact .inl hk
      · exact .inr q3
    · rw [p3]
      rcases hk with hk | rfl
      · exact h.immlt k hk
      · exact hlt
  unfold Oper.wp
  rw [hrun, Oper.upon_value]
  refine ⟨ι, imm', hs.put o.dst hd ?_⟩
  simp only [VH, PH]
  refine ⟨_, cap, rfl, i3, fun h => (by simp at h), fun _ h => (by simp at h), fun h => (by simp at h), fun A hA _ => ?_⟩
  simp only [Option.some.injEq] at hA
  subst hA
  exact ⟨rfl, .inr rfl, PHs.of_cells (i := imm) (ι := ι) (w := w) stay (fun o => cell_of_heap p1 o) q7⟩
variable {cq : Oper → Cls} {n : Nat}
theorem rexec_convOwn (C : Cx E T n) {d : Nat} {t ty : TypeId} {x : Operand} {pos : String} {af : Array Edge} {g : Option (Nat × Bool)} {st : St} {K : St → Prop} (h1 : dstB n ⟨some d, .convert t t x, ty, pos, af, g⟩ = true) {b m s : Nat} {tt : Bool} (D : List Int)
    (hx : evl st.S x = some (.sl b 0 m s tt)) (hb : st.H b = some (.cells (encC (eI .u8) D))) (hm : m = D.length) {r re : TyRow} (hr : T.lookup t = some r) {e : TypeId} (hdesc : r.desc = .slice e) (hre : T.lookup e = some re) (hu : re.desc = .int .u8)
    (h7 : K (st.after (some d) { v := sS (some false) (eI .u8) D, wr := [(b, none)] }))
    (hp : clsOf cq ⟨some d, .convert t t x, ty, pos, af, g⟩ ≠ .pure := by decide) (hq : clsOf cq ⟨some d, .convert t t x, ty, pos, af, g⟩ ≠ .quiet := by decide) (hft : footB (clsOf cq ⟨some d, .convert t t x, ty, pos, af, g⟩) [(b, .cells (encC (eI .u8) D))] { v := sS (some false) (eI .u8) D, wr := [(b, none)] } = true := by rfl) : rexec E cq n ⟨some d, .convert t t x, ty, pos, af, g⟩ st K := by
  subst hm
  refine ⟨h1, [.sl b 0 D.length s tt], [(b, .cells (encC (eI .u8) D))], _, { vals := ?_, deps := ?_, fresh := fun _ h => (by cases h), does := does_convOwn C.tab rfl (dst_lt C h1) hr hdesc hre hu (ps := encL (eI .u8) D), reach := ?_, inV := rfl, inN := fun _ h => (by cases h), inW := ?_, wr := ?_, pure := fun h => absurd h hp, quiet := fun h => absurd h hq, foot := hft }, h7⟩
  · show evls st.S [x] = _
    simp only [evls, hx]
  · intro q hq; simp only [List.mem_singleton] at hq; subst hq; exact hb
  · simp [reachB, refs, AV.withinL, AV.within]
  · intro q hq k' hk'
    simp only [List.mem_singleton] at hq
    subst hq
    cases hk'
  · intro q hq
    simp only [List.mem_singleton] at hq
    subst hq
    simp [refs, AV.withinL, AV.within]
end
end Go.Am
namespace Go.Am
section
variable {E : Env} {T : Tab} {n : Nat} {cq : Oper → Cls}
theorem run_bytes {P : Program} {imm : Nat → Prop} {w : World} {f : Option Bool} {D : List Int} {v : Value} (h : PH imm w (.sl f D.length (encL (eI .u8) D)) v) : (Extern.Bytes.bytesOf v).run P w = .ok (strOf D) w := by
  rw [eI_L] at h
  simp only [PH] at h
  obtain ⟨A, cap, q1, q2, _, _, q3, q4⟩ := h
  subst q1
  cases A with
  | none =>
    have : D = [] := List.eq_nil_of_length_eq_zero (q3 rfl).1
    subst this
    rfl
  | some ad =>
    by_cases hD : D = []
    · subst hD; rfl
    · obtain ⟨p1, p2, p3⟩ := q4 ad rfl (by simpa [pI] using hD)
      obtain ⟨vs, r1, r2⟩ := p3.vals (fun _ => none)
      rw [pI_pv] at r1
      have e := vhs_ints r1
      have hl := Lib.run_loadBytesX (P := P) w D ad .empty (fun j x hj => by
        have hjl : j < D.length := (List.getElem?_eq_some_iff.1 hj).1
        have hx := r2 j (by rw [e, List.length_map]; exact hjl)
        have e2 : ad.add j = ⟨ad.block, ad.off + j, none⟩ := by
          cases ad with
          | mk b o s =>
            dsimp only at p1
            subst p1
            unfold Addr.add
            split <;> simp_all
        rw [e2, hx, e, List.getElem?_map, hj]
        rfl)
      show (Extern.Bytes.loadBytes ad D.length .empty).run P w = _
      rw [hl]
      congr 1
      apply ByteArray.ext
      show (#[] : Array UInt8) ++ (Lib.bytesOf D).toArray = _
      simp [strOf, Lib.bytesOf]
/-- What the machine's comparison of bytes says. -/
def cmpI (D1 D2 : List Int) : Int := Extern.BytealgCompare.cmp (strOf D1) (strOf D2)
/-- Where a byte is first. -/
def idxI (D : List Int) (c : Int) : Int := match (List.range (strOf D).size).find? fun i => (strOf D)[i]! == c.toNat.toUInt8 with
  | some i => (i : Int)
  | none => -1
theorem does_cmpB {o : Oper} {c : Call} {f : FuncId} {fn : Func} (ho : o.op = .call c) (hc : c.callee = .value (.func f)) (hd : ∀ d, o.dst = some d → d < E.n) (hf : E.P.funcs[f]? = some fn) (hn : (fn.name == "runtime.NumGoroutine") = false) (hb : fn.body.isNone = true) (hnx : Extern.findNext fn = none) (he : Extern.find fn = some Extern.BytealgCompare.compare) {f1 f2 : Option Bool} {D1 D2 : List Int} :
    Does E o [.fn f [] [], sS f1 (eI .u8) D1, sS f2 (eI .u8) D2] [] { v := .pv (.lit (.int .i64 (cmpI D1 D2))) } := by
  refine Does.value hd fun ι imm st a w hsr hv hh => ?_
  have hops : o.op.operands.toList = .func f :: c.args.toList := by rw [ho]; simp [Op.operands, Call.operands, hc]
  rw [hops, List.map_cons] at hv
  obtain ⟨_, us0, he0, _, hv⟩ := hv
  simp only [List.cons.injEq] at he0
  obtain ⟨_, rfl⟩ := he0
  obtain ⟨v1, us1, he1, hv1, hvs⟩ := hv
  obtain ⟨v2, us2, he2, hv2, hvs⟩ := hvs
  simp only [VHs] at hvs
  subst hvs
  subst he2
  have hargs : c.args.map a.eval = #[v1, v2] := by apply Array.ext'; simpa using he1
  simp only [sS, VH] at hv1 hv2
  have hrun : (Extern.BytealgCompare.compare #[v1, v2]).run E.P w = .ok (.int .i64 (cmpI D1 D2)) w := by
    change Sem.run E.P (do pure (goInt (Extern.BytealgCompare.cmp (← Extern.Bytes.bytesOf v1) (← Extern.Bytes.bytesOf v2)))) w = _
    simp only [run_bind', run_bytes hv1, run_bytes hv2, run_pure']
    rfl
  refine ⟨.int .i64 (cmpI D1 D2), ?_, rfl, rfl⟩
  simp only [execOp, ho, resolve, hc, run_bind', run_pure', invoke, Deferred.ofValue, Act.eval, hargs, Array.append_empty]
  rw [run_callFunc_extern hf hn hb hnx he, Array.empty_append, hrun]
  rfl
theorem does_idxB {o : Oper} {c : Call} {f : FuncId} {fn : Func} (ho : o.op = .call c) (hc : c.callee = .value (.func f)) (hd : ∀ d, o.dst = some d → d < E.n) (hf : E.P.funcs[f]? = some fn) (hn : (fn.name == "runtime.NumGoroutine") = false) (hb : fn.body.isNone = true) (hnx : Extern.findNext fn = none) (he : Extern.find fn = some Extern.BytealgIndexByte.indexByte) {f1 : Option Bool} {D : List Int} {z : Int} :
    Does E o [.fn f [] [], sS f1 (eI .u8) D, .pv (.lit (.int .u8 z))] [] { v := .pv (.lit (.int .i64 (idxI D z))) } := by
  refine Does.value hd fun ι imm st a w hsr hv hh => ?_
  have hops : o.op.operands.toList = .func f :: c.args.toList := by rw [ho]; simp [Op.operands, Call.operands, hc]
  rw [hops, List.map_cons] at hv
  obtain ⟨_, us0, he0, _, hv⟩ := hv
  simp only [List.cons.injEq] at he0
  obtain ⟨_, rfl⟩ := he0
  obtain ⟨v1, us1, he1, hv1, hvs⟩ := hv
  obtain ⟨v2, us2, he2, hv2, hvs⟩ := hvs
  simp only [VHs] at hvs
  subst hvs
  subst he2
  have hargs : c.args.map a.eval = #[v1, v2] := by apply Array.ext'; simpa using he1
  simp only [sS, VH] at hv1 hv2
  simp only [PH] at hv2
  obtain ⟨rfl, _⟩ := hv2
  have hrun : (Extern.BytealgIndexByte.indexByte #[v1, .int .u8 z]).run E.P w = .ok (.int .i64 (idxI D z)) w := by
    change Sem.run E.P (do
      let b ← Extern.Bytes.bytesOf v1
      let c ← Extern.Bytes.asByte (.int .u8 z)
      match (List.range b.size).find? fun i => b[i]! == c with
      | some i => pure (goInt i)
      | none => pure (goInt (-1))) w = _
    simp only [run_bind', run_bytes hv1, Extern.Bytes.asByte, run_pure']
    unfold idxI
    cases (List.range (strOf D).size).find? fun i => (strOf D)[i]! == z.toNat.toUInt8 <;> rfl
  refine ⟨.int .i64 (idxI D z), ?_, rfl, rfl⟩
  simp only [execOp, ho, resolve, hc, run_bind', run_pure', invoke, Deferred.ofValue, Act.eval, hargs, Array.append_empty]
  rw [run_callFunc_extern hf hn hb hnx he, Array.empty_append, hrun]
  rfl
theorem rexec_cmpB {P : Program} (hP : E.P = P) (C : Cx E T n) {d : Option Nat} {c : Call} {ty : TypeId} {pos : String} {af : Array Edge} {g : Option (Nat × Bool)} {st : St} {K : St → Prop} {f : FuncId} {fn : Func} (h1 : dstB n ⟨d, .call c, ty, pos, af, g⟩ = true) (hc : c.callee = .value (.func f)) (hf : P.funcs[f]? = some fn) (hn : (fn.name == "runtime.NumGoroutine") = false) (hb : fn.body.isNone = true) (hnx : Extern.findNext fn = none) (he : Extern.find fn = some Extern.BytealgCompare.compare)
    {f1 f2 : Option Bool} {D1 D2 : List Int} (hv : evls st.S c.args.toList = some [sS f1 (eI .u8) D1, sS f2 (eI .u8) D2]) (h7 : K (st.after d { v := .pv (.lit (.int .i64 (cmpI D1 D2))) })) : rexec E cq n ⟨d, .call c, ty, pos, af, g⟩ st K := by
  subst hP
  refine rexec_value C (xs := .func f :: c.args.toList) (vs := [.fn f [] [], sS f1 (eI .u8) D1, sS f2 (eI .u8) D2]) h1 (by simp [Op.operands, Call.operands, hc]) (by simp only [evls, evl, hv]) (fun hd => does_cmpB rfl hc hd hf hn hb hnx he) (fun _ _ => rfl) h7
theorem rexec_idxB {P : Program} (hP : E.P = P) (C : Cx E T n) {d : Option Nat} {c : Call} {ty : TypeId} {pos : String} {af : Array Edge} {g : Option (Nat × Bool)} {st : St} {K : St → Prop} {f : FuncId} {fn : Func} (h1 : dstB n ⟨d, .call c, ty, pos, af, g⟩ = true) (hc : c.callee = .value (.func f)) (hf : P.funcs[f]? = some fn) (hn : (fn.name == "runtime.NumGoroutine") = false) (hb : fn.body.isNone = true) (hnx : Extern.findNext fn = none) (he : Extern.find fn = some Extern.BytealgIndexByte.indexByte)
    {f1 : Option Bool} {D : List Int} {z : Int} (hv : evls st.S c.args.toList = some [sS f1 (eI .u8) D, .pv (.lit (.int .u8 z))]) (h7 : K (st.after d { v := .pv (.lit (.int .i64 (idxI D z))) })) : rexec E cq n ⟨d, .call c, ty, pos, af, g⟩ st K := by
  subst hP
  refine rexec_value C (xs := .func f :: c.args.toList) (vs := [.fn f [] [], sS f1 (eI .u8) D, .pv (.lit (.int .u8 z))]) h1 (by simp [Op.operands, Call.operands, hc]) (by simp only [evls, evl, hv]) (fun hd => does_idxB rfl hc hd hf hn hb hnx he) (fun _ _ => rfl) h7
end
end Go.Am
namespace Go.Am
section
variable {E : Env} {T : Tab} {n : Nat} {cq : Oper → Cls}
theorem does_strBytes (hT : TabOk E.P T) {o : Oper} {src dst : TypeId} {x : Operand} (ho : o.op = .convert src dst x) (hd : ∀ d, o.dst = some d → d < E.n) {rs rd re : TyRow} {e : TypeId} (h1 : T.lookup src = some rs) (h2 : T.lookup dst = some rd) (hs : rs.desc = .string) (hk : rd.desc = .slice e) (he : T.lookup e = some re) (hre : re.desc = .int .u8) {D : List Int} (hD : ∀ x ∈ D, 0 ≤ x ∧ x < 256) :
    Does E o [.pv (.lit (.string (strOf D)))] [] { v := sS (some false) (eI .u8) D } := by
  intro ι imm st a w Q h hv hh _
  have hv := h.evls hv
  rw [ho] at hv
  simp only [Op.operands, List.map_cons, List.map_nil] at hv
  have hv1 := hv.one
  simp only [VH, PH] at hv1
  obtain ⟨hx, _⟩ := hv1
  have hsz : (strOf D).size = D.length := by simp [strOf, ByteArray.size]
  have hrun0 := Lib.run_convert_string_bytes (P := E.P) w src dst e (strOf D) (hs ▸ (hT src rs h1).1) (hk ▸ (hT dst rd h2).1) (hre ▸ (hT e re he).1)
  have hrun : (execOp a.eval o).run E.P w = .ok (.value (.slice (some ⟨w.heap.size, 0, none⟩) (strOf D).size (grownCap w (strOf D).size 0 e))) (Lib.bytesWorld w e (strOf D)) := by
    simp only [execOp, ho, hx, run_bind', hrun0, run_pure']
  have hcap := grownCap_ge w (strOf D).size 0 e
  have p1 := Lib.bytesWorld_at_new w e (strOf D)
  have p2 := fun k hk => Lib.bytesWorld_at_old w e (strOf D) k hk
  have p3 := Lib.bytesWorld_size w e (strOf D)
  have p4 : (Lib.bytesWorld w e (strOf D)).os = w.os ∧ (Lib.bytesWorld w e (strOf D)).tape = w.tape ∧ (Lib.bytesWorld w e (strOf D)).output = w.output ∧ (Lib.bytesWorld w e (strOf D)).drawn = w.drawn + 1 := by
    obtain ⟨_, q2, q3, q4, q5⟩ := freeze_rest (w.drew.alloc (.cells (Lib.bytesCells w e (strOf D)) e)) w.heap.size (Lib.bytesCells w e (strOf D)).size
    exact ⟨q2, q3, q4, q5⟩
  have hcell : ∀ i y, D[i]? = some y → (Lib.bytesWorld w e (strOf D)).cell? ⟨w.heap.size, i, none⟩ = some (.int .u8 y) := fun i y hi => by
    have hil : i < D.length := (List.getElem?_eq_some_iff.1 hi).1
    rw [Lib.bytesWorld_cell w e (strOf D) i (by rw [hsz]; exact hil)]
    have hy := hD y (List.mem_of_getElem? hi)
    have e1 : (strOf D).data.toList = D.map fun x => UInt8.ofNat x.toNat := by simp [strOf]
    rw [e1, List.getD_eq_getElem?_getD, List.getElem?_map, hi]
    have : (UInt8.ofNat y.toNat).toNat = y.toNat := by
      rw [UInt8.toNat_ofNat']; omega
    show some (Value.int .u8 ((UInt8.ofNat y.toNat).toNat : Int)) = _
    rw [this, Int.toNat_of_nonneg hy.1]
  generalize Lib.bytesWorld w e (strOf D) = w' at hrun p1 p2 p3 p4 hcell
  obtain ⟨q1, q2, q3, q4⟩ := p4
  have hold : ∀ {k : Nat} {x : Obj}, w.heap[k]? = some x → k < w.heap.size := fun {k x} hk => by
    rcases Nat.lt_or_ge k w.heap.size with h' | h'
    · exact h'
    · rw [Array.getElem?_eq_none h'] at hk; cases hk
  let imm' : Nat → Prop := fun k => imm k ∨ k = w.heap.size
  have st' : Stays imm imm' w w' := ⟨fun _ hk => .inl hk, fun q hq => p2 q (h.immlt q hq)⟩
  have g : Grows ι ι imm imm' w w' := ⟨fun _ _ h => h, st', fun r c f f2 hr => ⟨c, f2, (p2 r (hold hr)).trans hr, rfl⟩⟩
  have hblk : ∀ {b k r z}, st.H b = some k → ι b = some (r, z) → r < w.heap.size := fun {b q r z} hb hi => by
    obtain ⟨r', z', h1, _, _, h4⟩ := h.heap.blk b q hb
    rw [hi] at h1
    simp only [Option.some.injEq, Prod.mk.injEq] at h1
    obtain ⟨rfl, rfl⟩ := h1
    cases q with
    | cells cs => obtain ⟨c, e, f, h1, _⟩ := h4; exact hold h1
    | map es => obtain ⟨c, q, _, _, h2, _⟩ := h4; exact hold h2
    | mapx es q => obtain ⟨c, _, h2, _⟩ := h4; exact hold h2
    | iter b since seen c0 => obtain ⟨m, _, _, h2⟩ := h4; exact hold h2
    | siter s pos => exact hold h4.2
  have hsr : SR E ι imm' ⟨st.S, st.H, st.U⟩ a w' := by
    refine h.turn g q1 q2 q3 (by omega) (by omega) (fun q hq _ => p2 q hq) ⟨fun b q hb => ?_, fun b b' k k' r z z' hb hb' hi hi' => h.heap.inj b b' k k' r z z' hb hb' hi hi'⟩ (fun b x hx => h.used b x hx) (fun k hk => ?_) (fun k hk => ?_)
    · obtain ⟨r, z, h1, h2, h3, h4⟩ := h.heap.blk b q hb
      have hr := hblk hb h1
      exact ⟨r, z, h1, fun hi => hi.elim h2 fun e => by omega, h3, h4.grows g (p2 r hr)⟩
    · rcases hk with hk | rfl
      · exact .inl hk
      · exact .inr (.inr h.ext.size)
    · rw [p3]
      rcases hk with hk | rfl
      · have := h.immlt k hk; omega
      · omega
  unfold Oper.wp
  rw [hrun, Oper.upon_value]
  refine ⟨ι, imm', hsr.put o.dst hd ?_⟩
  simp only [sS, VH]
  rw [eI_L]
  simp only [PH]
  refine ⟨_, grownCap w (strOf D).size 0 e, by rw [hsz], by rw [← hsz]; exact hcap, fun h => by simp at h, fun _ h => by simp at h, fun h => by simp at h, fun A hA _ => ?_⟩
  simp only [Option.some.injEq] at hA
  subst hA
  refine ⟨rfl, .inr rfl, ?_⟩
  have key : ∀ (L : List Int) (o : Nat), (∀ i y, L[i]? = some y → w'.cell? ⟨w.heap.size, o + i, none⟩ = some (.int .u8 y)) → PHs imm' w' (pI .u8 L) w.heap.size o := by
    intro L
    induction L with
    | nil => intro _ _; trivial
    | cons y L ih =>
      intro o hc
      refine ⟨⟨.int .u8 y, hc 0 y rfl, rfl, rfl⟩, ih (o + 1) fun i z hz => ?_⟩
      have := hc (i + 1) z (by simpa using hz)
      rwa [show o + 1 + i = o + (i + 1) by omega]
  exact key D 0 fun i y hi => by rw [Nat.zero_add]; exact hcell i y hi
theorem rexec_strBytes (C : Cx E T n) {d : Option Nat} {src dst ty : TypeId} {x : Operand} {pos : String} {af : Array Edge} {g : Option (Nat × Bool)} {st : St} {K : St → Prop} (h0 : dstB n ⟨d, .convert src dst x, ty, pos, af, g⟩ = true) {rs rd re : TyRow} {e : TypeId} (h1 : T.lookup src = some rs) (h2 : T.lookup dst = some rd) (hs : rs.desc = .string) (hk : rd.desc = .slice e) (he : T.lookup e = some re) (hre : re.desc = .int .u8)
    {D : List Int} (hD : ∀ x ∈ D, 0 ≤ x ∧ x < 256) (hv : evls st.S [x] = some [.pv (.lit (.string (strOf D)))]) (h7 : K (st.after d { v := sS (some false) (eI .u8) D })) : rexec E cq n ⟨d, .convert src dst x, ty, pos, af, g⟩ st K :=
  rexec_value C (xs := [x]) (vs := [.pv (.lit (.string (strOf D)))]) h0 rfl hv (fun hd => does_strBytes C.tab rfl hd h1 h2 hs hk he hre hD) (fun _ _ => rfl) h7
/-- An array that will not change, cut at its end. -/
theorem rexec_sliceRp (C : Cx E T n) {d : Option Nat} {t : TypeId} {x y : Operand} {ty : TypeId} {pos : String} {af : Array Edge} {g : Option (Nat × Bool)} {st : St} {K : St → Prop} {r re : TyRow} {m : Nat} {te : TypeId} {kk : IntKind} (L : List Int) (h : Nat) {k : IntKind} {z : Int} (h1 : dstB n ⟨d, .slice t x none (some y) none, ty, pos, af, g⟩ = true)
    (h2 : evls st.S [x, y] = some [.rp (L.map fun x => .lit (.int k x)), .pv (.lit (.int kk z))]) (hr : T.lookup t = some r) (hdesc : r.desc = .array m te) (hre : T.lookup te = some re) (hs : re.size = 1) (hz : z = (h : Int)) (hm : h ≤ m) (hL : L.length = m)
    (h7 : K (st.after d { v := sS (some false) (eI k) (L.take h) })) (h8 : footB (clsOf cq ⟨d, .slice t x none (some y) none, ty, pos, af, g⟩) [] { v := sS (some false) (eI k) (L.take h) } = true := by rfl) : rexec E cq n ⟨d, .slice t x none (some y) none, ty, pos, af, g⟩ st K := by
  subst hz
  have key : sS (some false) (eI k) (L.take h) = .pv (.sl (some false) h (((L.map fun x => PV.lit (.int k x)).drop (0 * 1)).take (h * 1))) := by
    rw [sS, eI_L]
    unfold pI
    rw [List.map_take, List.length_take, Nat.min_eq_left (by omega), Nat.zero_mul, List.drop_zero, Nat.mul_one]
  rw [key] at h7 h8
  refine rexec_prim C (p := 0 ≤ (0 : Int) ∧ (0 : Int) ≤ (h : Int) ∧ (h : Int) ≤ (m : Int)) (hs := []) (δ := { v := .pv (.sl (some false) h (((L.map fun x => PV.lit (.int k x)).drop (0 * 1)).take (h * 1))) }) h1 rfl h2 ?_ (by omega) rfl h7 h8
  have e0 : ((h : Int).toNat - (0 : Int).toNat) = h := by simp
  simp only [prim, primSlice, hr, optI, sliceAV, hdesc, hre, cutOf, hs, Option.getD_none, Int.toNat_natCast, Int.toNat_zero, Nat.sub_zero]
theorem rexec_idxRpA (C : Cx E T n) {d : Option Nat} {t : TypeId} {x y : Operand} {ty : TypeId} {pos : String} {af : Array Edge} {gd : Option (Nat × Bool)} {st : St} {K : St → Prop} {kk : IntKind} {i : Int} {r re : TyRow} {m e : Nat} {ps : List PV} (g : Nat → PV) (q : PV) (h1 : dstB n ⟨d, .indexAddr t x y, ty, pos, af, gd⟩ = true)
    (h2 : evls st.S [x, y] = some [.rp ps, .pv (.lit (.int kk i))]) (hr : T.lookup t = some r) (hdesc : r.desc = .array m e) (hre : T.lookup e = some re) (hsz : re.size = 1) (hc : ps = tbF g m 0) (hi : 0 ≤ i ∧ i < m) (hv : g i.toNat = q) (h7 : K (st.after d { v := .rp [q] })) (h8 : footB (clsOf cq ⟨d, .indexAddr t x y, ty, pos, af, gd⟩) [] { v := .rp [q] } = true := by rfl) :
    rexec E cq n ⟨d, .indexAddr t x y, ty, pos, af, gd⟩ st K := by
  refine rexec_prim C (p := 0 ≤ i ∧ i < m) (hs := []) (δ := { v := .rp [q] }) h1 rfl h2 ?_ hi rfl h7 h8
  have this : (ps.drop (i.toNat * re.size)).take re.size = [q] := by
    have h3 : ps[i.toNat]? = some q := by rw [hc, tbF_get g m 0 i.toNat (by omega), Nat.zero_add, hv]
    obtain ⟨hlt, h4⟩ := List.getElem?_eq_some_iff.1 h3
    rw [hsz, Nat.mul_one, List.drop_eq_getElem_cons hlt, h4]
    rfl
  simp only [prim, hr, elemAV, hdesc, hre, this]
end
end Go.Am
namespace Go.Am
section
variable {E : Env} {T : Tab} {n : Nat} {cq : Oper → Cls}
theorem SR.siterB {ι : Nat → Option (Nat × Nat)} {imm : Nat → Prop} {st : St} {a : Act} {w : World} (h : SR E ι imm st a w) {i pos : Nat} {s : ByteArray} (hi : st.H i = some (.siter s pos)) {r z : Nat} (hr : ι i = some (r, z)) : z = 0 ∧ w.heap[r]? = some (Obj.stringIter s pos) := by
  obtain ⟨r', z', q1, _, _, q4⟩ := h.heap.blk i _ hi
  rw [hr] at q1
  simp only [Option.some.injEq, Prod.mk.injEq] at q1
  obtain ⟨rfl, rfl⟩ := q1
  exact q4
theorem does_rangeStr (hT : TabOk E.P T) {o : Oper} {t : TypeId} {x : Operand} (ho : o.op = .range t x) {d : Nat} (hdst : o.dst = some d) (hd : d < E.n) {r : TyRow} (hr : T.lookup t = some r) (hdesc : r.desc = .string) {s : ByteArray} :
    Does E o [.pv (.lit (.string s))] [] { v := .ptr d 0, new := [(d, .siter s 0)] } := by
  refine Does.alloc hdst hd fun ι imm st a w hs hv hh => ?_
  rw [ho] at hv
  simp only [Op.operands, List.map_cons, List.map_nil] at hv
  have hv1 := hv.one
  simp only [VH, PH] at hv1
  obtain ⟨he, _⟩ := hv1
  have hu : E.P.underlying t = some .string := by rw [(hT t r hr).1, hdesc]
  refine ⟨.stringIter s 0, .pointer (some ⟨w.heap.size, 0, none⟩), ?_, rfl, fun ι' h => ⟨_, _, h, rfl⟩⟩
  simp only [execOp, ho, he, run_bind', Go.run_range_string w t s hu, run_pure']
  rfl
theorem does_nextStr {o : Oper} {x : Operand} (ho : o.op = .next x true) (hd : ∀ d, o.dst = some d → d < E.n) {i pos : Nat} {s : ByteArray} {c : Nat} {width : Nat} (hp : pos < s.size) (hdec : Utf8.decode s pos = (c, width)) :
    Does E o [.ptr i 0] [(i, .siter s pos)] { v := .tup [.pv (.lit (.bool true)), .pv (.lit (.int .i64 (pos : Int))), .pv (.lit (.int .i32 (c : Int)))], wr := [(i, some (.siter s (pos + width)))] } := by
  intro ι imm st a w Q hs hv hh _
  have hv := hs.evls hv
  rw [ho] at hv
  simp only [Op.operands, List.map_cons, List.map_nil] at hv
  have hv1 := hv.one
  simp only [VH] at hv1
  obtain ⟨r, z, hi, hev⟩ := hv1
  have hb := hh _ (List.mem_cons_self ..)
  obtain ⟨rfl, g1⟩ := hs.siterB hb hi
  have hw := hs.writeObj hb hi g1 (fun _ _ _ e => by cases e) (o' := .stringIter s (pos + width)) (k' := .siter s (pos + width)) (fun g => ⟨rfl, (Go.MapKept.heap_set g1).1⟩) (.tup [])
  have hrun : (execOp a.eval o).run E.P w = .ok (.value (.tuple #[.bool true, .int .i64 (pos : Int), .int .i32 (c : Int)])) { w with heap := w.heap.setIfInBounds r (.stringIter s (pos + width)) } := by
    simp only [execOp, ho, hev, Nat.add_zero, Instr.next, getObj, setObj, run_bind', Sem.run, g1, if_pos hp, hdec, run_pure']
    rfl
  unfold Oper.wp
  rw [hrun, Oper.upon_value]
  refine ⟨ι, imm, hw.put o.dst hd ?_⟩
  simp only [VH]
  exact ⟨[.bool true, .int .i64 (pos : Int), .int .i32 (c : Int)], rfl, _, _, rfl, ⟨rfl, rfl⟩, _, _, rfl, ⟨rfl, rfl⟩, _, _, rfl, ⟨rfl, rfl⟩, rfl⟩
theorem does_nextEnd {o : Oper} {x : Operand} (ho : o.op = .next x true) (hd : ∀ d, o.dst = some d → d < E.n) {i pos : Nat} {s : ByteArray} (hp : ¬ pos < s.size) :
    Does E o [.ptr i 0] [(i, .siter s pos)] { v := .tup [.pv (.lit (.bool false))] } := by
  refine Does.value hd fun ι imm st a w hs hv hh => ?_
  rw [ho] at hv
  simp only [Op.operands, List.map_cons, List.map_nil] at hv
  have hv1 := hv.one
  simp only [VH] at hv1
  obtain ⟨r, z, hi, hev⟩ := hv1
  obtain ⟨rfl, g1⟩ := hs.siterB (hh _ (List.mem_cons_self ..)) hi
  refine ⟨.tuple #[.bool false], ?_, ⟨[.bool false], rfl, _, _, rfl, ⟨rfl, rfl⟩, rfl⟩⟩
  simp only [execOp, ho, hev, Nat.add_zero, Instr.next, getObj, run_bind', Sem.run, g1, if_neg hp, run_pure']
theorem rexec_rangeStr (C : Cx E T n) {d : Nat} {t ty : TypeId} {x : Operand} {pos : String} {af : Array Edge} {g : Option (Nat × Bool)} {st : St} {K : St → Prop} (h1 : dstB n ⟨some d, .range t x, ty, pos, af, g⟩ = true) (hU : st.U d = false) {s : ByteArray} (hx : evl st.S x = some (.pv (.lit (.string s)))) {r : TyRow} (hr : T.lookup t = some r) (hdesc : r.desc = .string) (h7 : K (st.after (some d) { v := .ptr d 0, new := [(d, .siter s 0)] }))
    (hp : clsOf cq ⟨some d, .range t x, ty, pos, af, g⟩ ≠ .pure := by decide) (hft : footB (clsOf cq ⟨some d, .range t x, ty, pos, af, g⟩) [] { v := .ptr d 0, new := [(d, .siter s 0)] } = true := by rfl) : rexec E cq n ⟨some d, .range t x, ty, pos, af, g⟩ st K := by
  refine ⟨h1, [.pv (.lit (.string s))], [], _, { vals := ?_, deps := fun _ h => (by cases h), fresh := ?_, does := does_rangeStr C.tab rfl rfl (dst_lt C h1 d rfl) hr hdesc, reach := rfl, inV := ?_, inN := ?_, inW := fun _ h => (by cases h), wr := fun _ h => (by cases h), pure := fun h => absurd h hp, quiet := fun _ => rfl, foot := hft }, h7⟩
  · show evls st.S [x] = _
    simp only [evls, hx]
  · intro y hy; simp only [List.mem_singleton] at hy; subst hy; exact hU
  · simp [AV.within, List.lookup]
  · intro y hy; simp only [List.mem_singleton] at hy; subst hy; rfl
theorem rexec_nextStr (C : Cx E T n) {d : Option Nat} {ty : TypeId} {x : Operand} {ps : String} {af : Array Edge} {g : Option (Nat × Bool)} {st : St} {K : St → Prop} (h1 : dstB n ⟨d, .next x true, ty, ps, af, g⟩ = true) {i pos : Nat} {s : ByteArray} (c width : Nat) (hx : evl st.S x = some (.ptr i 0)) (hi : st.H i = some (.siter s pos)) (hp : pos < s.size) (hdec : Utf8.decode s pos = (c, width))
    (h7 : K (st.after d { v := .tup [.pv (.lit (.bool true)), .pv (.lit (.int .i64 (pos : Int))), .pv (.lit (.int .i32 (c : Int)))], wr := [(i, some (.siter s (pos + width)))] }))
    (hpu : clsOf cq ⟨d, .next x true, ty, ps, af, g⟩ ≠ .pure := by decide) (hqu : clsOf cq ⟨d, .next x true, ty, ps, af, g⟩ ≠ .quiet := by decide) (hft : footB (clsOf cq ⟨d, .next x true, ty, ps, af, g⟩) [(i, .siter s pos)] { v := .tup [.pv (.lit (.bool true)), .pv (.lit (.int .i64 (pos : Int))), .pv (.lit (.int .i32 (c : Int)))], wr := [(i, some (.siter s (pos + width)))] } = true := by rfl) : rexec E cq n ⟨d, .next x true, ty, ps, af, g⟩ st K := by
  refine ⟨h1, [.ptr i 0], [(i, .siter s pos)], _, { vals := ?_, deps := ?_, fresh := fun _ h => (by cases h), does := does_nextStr rfl (dst_lt C h1) hp hdec, reach := ?_, inV := rfl, inN := fun _ h => (by cases h), inW := ?_, wr := ?_, pure := fun h => absurd h hpu, quiet := fun h => absurd h hqu, foot := hft }, h7⟩
  · show evls st.S [x] = _
    simp only [evls, hx]
  · intro y hy; simp only [List.mem_singleton] at hy; subst hy; exact hi
  · simp [reachB, refs, AV.withinL, AV.within]
  · intro y hy k hk; simp only [List.mem_singleton] at hy; subst hy; simp only [Option.some.injEq] at hk; subst hk; rfl
  · intro y hy; simp only [List.mem_singleton] at hy; subst hy; simp [refs, AV.withinL, AV.within]
theorem rexec_nextEnd (C : Cx E T n) {d : Option Nat} {ty : TypeId} {x : Operand} {ps : String} {af : Array Edge} {g : Option (Nat × Bool)} {st : St} {K : St → Prop} (h1 : dstB n ⟨d, .next x true, ty, ps, af, g⟩ = true) {i pos : Nat} {s : ByteArray} (hx : evl st.S x = some (.ptr i 0)) (hi : st.H i = some (.siter s pos)) (hp : ¬ pos < s.size)
    (h7 : K (st.after d { v := .tup [.pv (.lit (.bool false))] }))
    (hpu : clsOf cq ⟨d, .next x true, ty, ps, af, g⟩ ≠ .pure := by decide) (hft : footB (clsOf cq ⟨d, .next x true, ty, ps, af, g⟩) [(i, .siter s pos)] { v := .tup [.pv (.lit (.bool false))] } = true := by rfl) : rexec E cq n ⟨d, .next x true, ty, ps, af, g⟩ st K := by
  refine ⟨h1, [.ptr i 0], [(i, .siter s pos)], _, { vals := ?_, deps := ?_, fresh := fun _ h => (by cases h), does := does_nextEnd rfl (dst_lt C h1) hp, reach := ?_, inV := rfl, inN := fun _ h => (by cases h), inW := fun _ h => (by cases h), wr := fun _ h => (by cases h), pure := fun h => absurd h hpu, quiet := fun _ => rfl, foot := hft }, h7⟩
  · show evls st.S [x] = _
    simp only [evls, hx]
  · intro y hy; simp only [List.mem_singleton] at hy; subst hy; exact hi
  · simp [reachB, refs, AV.withinL, AV.within]
end
end Go.Am
namespace Go.Am
section
variable {E : Env} {T : Tab} {n : Nat} {cq : Oper → Cls}
/-- An array behind a copy into it. -/
def cpF (D : List Int) (m : Nat) (f : Nat → Int) : Nat → Int := fun t => if t < min D.length m then D.getD t 0 else f t
theorem str_cells {D : List Int} (hD : ∀ x ∈ D, 0 ≤ x ∧ x < 256) : ((strOf D).data.toList.map fun b => AV.pv (.lit (.int .u8 b.toNat))) = cI .u8 D := by
  have e1 : (strOf D).data.toList = D.map fun x => UInt8.ofNat x.toNat := by simp [strOf]
  rw [e1, List.map_map]
  unfold cI
  refine List.map_congr_left fun x hx => ?_
  have := hD x hx
  have e2 : (UInt8.ofNat x.toNat).toNat = x.toNat := by rw [UInt8.toNat_ofNat']; omega
  simp only [Function.comp, e2]
  rw [Int.toNat_of_nonneg this.1]
theorem rexec_copyStr (C : Cx E T n) {d : Option Nat} {c : Call} {t t2 : TypeId} {ty : TypeId} {pos : String} {af : Array Edge} {g : Option (Nat × Bool)} {st : St} {K : St → Prop} (hc : c.callee = .builtin .copy) (hty : c.argTypes = #[t, t2]) (h1 : dstB n ⟨d, .call c, ty, pos, af, g⟩ = true) {r re : TyRow} (hr : T.lookup t = some r) {e : TypeId} (hdesc : r.desc = .slice e) (hre : T.lookup e = some re) (hs : re.size = 1)
    {b m : Nat} {tt : Bool} {f : Nat → Int} {D : List Int} (hD : ∀ x ∈ D, 0 ≤ x ∧ x < 256) (hv : evls st.S c.args.toList = some [.sl b 0 m 1 tt, .pv (.lit (.string (strOf D)))]) (hb : st.H b = some (.cells (cI .u8 (tb m f))))
    (h7 : K (st.after d { v := .pv (.lit (.int .i64 ((min D.length m : Nat) : Int))), wr := [(b, some (.cells (cI .u8 (tb m (cpF D m f)))))] })) (hcl : clsOf cq ⟨d, .call c, ty, pos, af, g⟩ = .writer := by rfl) : rexec E cq n ⟨d, .call c, ty, pos, af, g⟩ st K := by
  have hsz : (strOf D).size = D.length := by simp [strOf, ByteArray.size]
  have hl : (cI .u8 D).length = D.length := by simp [cI]
  refine rexec_copy C hc hty h1 hr hdesc hre (b := b) (k := 0) (m := m) (tt := tt) (cs := cI .u8 (tb m f)) (y := .pv (.lit (.string (strOf D)))) (m' := D.length) (hs' := []) (ys := cI .u8 D) (cI .u8 (tb m (cpF D m f))) (by rw [hs]; exact hv) hb ?_ (fun _ h => by cases h) (by rw [hl, hs, Nat.mul_one]) ?_ ?_ (fun U _ => ?_) ?_ h7 ?_ hcl
  · simp only [srcAV, hs, if_true]
    rw [hsz, ← str_cells hD]
  · rw [hs, Nat.mul_one, Nat.zero_add]
    simp [cI, tb]; omega
  · rw [hs, Nat.mul_one, List.all_eq_true]
    intro x hx
    have := List.mem_of_mem_take hx
    simp only [cI, List.mem_map] at this
    obtain ⟨y, _, rfl⟩ := this
    rfl
  · exact AV.withinL_of fun x hx => by
      simp only [cI, List.mem_map] at hx
      obtain ⟨y, _, rfl⟩ := hx
      rfl
  · rw [hs, Nat.mul_one, cI_copy (Nat.min_le_left _ _) (Nat.min_le_right _ _)]
    rfl
  · rw [hs]
    simp [reachB, refs, AV.withinL, AV.within]
theorem strOf_size (D : List Int) : (strOf D).size = D.length := by simp [strOf, ByteArray.size]
theorem rexec_lenStr (C : Cx E T n) {d : Option Nat} {c : Call} {t ty : TypeId} {pos : String} {af : Array Edge} {g : Option (Nat × Bool)} {st : St} {K : St → Prop} (hc : c.callee = .builtin .len) (hty : c.argTypes = #[t]) (h1 : dstB n ⟨d, .call c, ty, pos, af, g⟩ = true) {r : TyRow} (hr : T.lookup t = some r) (hdesc : r.desc = .string) {D : List Int} (hv : evls st.S c.args.toList = some [.pv (.lit (.string (strOf D)))])
    (h7 : K (st.after d { v := .pv (.lit (.int .i64 (D.length : Int))) })) (h8 : footB (clsOf cq ⟨d, .call c, ty, pos, af, g⟩) [] { v := .pv (.lit (.int .i64 (D.length : Int))) } = true := by rfl) : rexec E cq n ⟨d, .call c, ty, pos, af, g⟩ st K := by
  rw [← strOf_size D] at h7 h8
  refine rexec_prim C (p := True) (hs := []) (δ := { v := .pv (.lit (.int .i64 ((strOf D).size : Int))) }) h1 ?_ hv ?_ trivial rfl h7 h8
  · simp [Op.operands, Call.operands, hc]
  · simp only [prim, hc, primBuiltin, hty, hr, hdesc]
theorem bt_strOf {D : List Int} (hD : ∀ x ∈ D, 0 ≤ x ∧ x < 256) {i : Int} (hi : 0 ≤ i ∧ i < (D.length : Int)) : bt (strOf D) i = D[i.toNat]! := by
  have hl : i.toNat < D.length := by omega
  have h1 := hD _ (List.getElem_mem hl)
  have e2 : (UInt8.ofNat D[i.toNat].toNat).toNat = D[i.toNat].toNat := by rw [UInt8.toNat_ofNat']; omega
  rw [getElem!_pos D i.toNat hl]
  unfold bt
  have hsz : i.toNat < (strOf D).size := by rw [strOf_size]; exact hl
  have e3 : (strOf D)[i.toNat]? = some (UInt8.ofNat D[i.toNat].toNat) := by
    rw [getElem?_pos (strOf D) i.toNat hsz]
    congr 1
    show (strOf D).data[i.toNat]'_ = _
    simp [strOf]
  rw [e3, Option.map_some, Option.getD_some, e2]
  omega
theorem rexec_idxStr (C : Cx E T n) {d : Option Nat} {t : TypeId} {x y : Operand} {ty : TypeId} {pos : String} {af : Array Edge} {gd : Option (Nat × Bool)} {st : St} {K : St → Prop} {kk : IntKind} {i : Int} {r : TyRow} {D : List Int} (hD : ∀ x ∈ D, 0 ≤ x ∧ x < 256) (h1 : dstB n ⟨d, .index t x y, ty, pos, af, gd⟩ = true)
    (h2 : evls st.S [x, y] = some [.pv (.lit (.string (strOf D))), .pv (.lit (.int kk i))]) (hr : T.lookup t = some r) (hdesc : r.desc = .string) (hi : 0 ≤ i ∧ i < (D.length : Int)) (h7 : K (st.after d { v := .pv (.lit (.int .u8 (D[i.toNat]!))) })) (h8 : footB (clsOf cq ⟨d, .index t x y, ty, pos, af, gd⟩) [] { v := .pv (.lit (.int .u8 (D[i.toNat]!))) } = true := by rfl) :
    rexec E cq n ⟨d, .index t x y, ty, pos, af, gd⟩ st K := by
  rw [← bt_strOf hD hi] at h7 h8
  refine rexec_prim C (p := 0 ≤ i ∧ i < ((strOf D).size : Int)) (hs := []) (δ := { v := .pv (.lit (.int .u8 (bt (strOf D) i))) }) h1 rfl h2 ?_ (by rw [strOf_size]; exact hi) rfl h7 h8
  simp only [prim, hr, idxAV, hdesc]
end
end Go.Am
namespace Go.Am
section
variable {E : Env}
def FrzPS (st : St) (b : Nat) (ps : List PV) : List (Nat × AV) → Prop
  | [] => True
  | x :: xs => (∃ u, st.S x.1 = some u ∧ (u = x.2 ∨ (u = .ptr b 0 ∧ x.2 = .rp ps))) ∧ FrzPS st b ps xs
def FrzPH (st : St) (b : Nat) : List (Nat × Blk) → Prop
  | [] => True
  | x :: xs => (x.1 ≠ b ∧ st.H x.1 = some x.2) ∧ FrzPH st b xs
theorem FrzPS.mem {st : St} {b : Nat} {ps : List PV} : ∀ {l : List (Nat × AV)}, FrzPS st b ps l → ∀ x ∈ l, ∃ u, st.S x.1 = some u ∧ (u = x.2 ∨ (u = .ptr b 0 ∧ x.2 = .rp ps))
  | [], _, x, hx => by cases hx
  | y :: ys, h, x, hx => by
    cases hx with
    | head => exact h.1
    | tail _ hm => exact FrzPS.mem h.2 x hm
theorem FrzPH.mem {st : St} {b : Nat} : ∀ {l : List (Nat × Blk)}, FrzPH st b l → ∀ x ∈ l, x.1 ≠ b ∧ st.H x.1 = some x.2
  | [], _, x, hx => by cases hx
  | y :: ys, h, x, hx => by
    cases hx with
    | head => exact h.1
    | tail _ hm => exact FrzPH.mem h.2 x hm
theorem At.freezeP {st : St} {a : Act} {w : World} (h : At E st a w) (b : Nat) (ps : List PV) (hb : st.H b = some (.cells (ps.map .pv))) (S' : List (Nat × AV)) (H' : List (Nat × Blk)) (hS : FrzPS st b ps S') (hH : FrzPH st b H') : At E ⟨fun t => S'.lookup t, fun x => H'.lookup x, st.U⟩ a w := by
  obtain ⟨ι, imm, h⟩ := h
  obtain ⟨r, z, q1, q2, q3, c, e, f, q4, q5, q6, q7⟩ := h.heap.blk b _ hb
  have hlt : r < w.heap.size := by
    rcases Nat.lt_or_ge r w.heap.size with h' | h'
    · exact h'
    · rw [Array.getElem?_eq_none h'] at q4; cases q4
  let imm' : Nat → Prop := fun k => imm k ∨ k = r
  have g : Grows ι ι imm imm' w w := ⟨fun _ _ h => h, ⟨fun _ hk => .inl hk, fun _ _ => rfl⟩, fun r c e f hr => ⟨c, f, hr, rfl⟩⟩
  have hHm : ∀ x k, H'.lookup x = some k → x ≠ b ∧ st.H x = some k := fun x k hk => hH.mem _ (lookup_mem (l := H') hk)
  refine ⟨ι, imm', h.defers, h.size, fun t v hv => ?_, ⟨fun x k hx => ?_, fun x x' k k' r z z' hx hx' => ?_⟩, fun x y hx => h.used x y hx, h.grow.trans g, h.ext, fun k hk => ?_, fun k hk => ?_⟩
  · obtain ⟨u, hu, hf⟩ := hS.mem _ (lookup_mem (l := S') hv)
    have hu' := VH.grows g u _ (h.slot t u hu)
    rcases hf with rfl | ⟨rfl, e2⟩
    · exact hu'
    · simp only at e2
      subst e2
      simp only [VH] at hu' ⊢
      obtain ⟨r', z', i1, i2⟩ := hu'
      rw [q1] at i1
      simp only [Option.some.injEq, Prod.mk.injEq] at i1
      obtain ⟨rfl, rfl⟩ := i1
      exact ⟨_, i2, fun _ => ⟨rfl, .inr rfl, PHs.of_cells (i := imm) (ι := ι) (w := w) ⟨fun _ hk => .inl hk, fun _ _ => rfl⟩ (fun o => cell_of_heap q4 o) q7⟩⟩
  · obtain ⟨hne, hx0⟩ := hHm x k hx
    obtain ⟨r', z', p1, p2, p3, p4⟩ := h.heap.blk x k hx0
    refine ⟨r', z', p1, fun hi => hi.elim p2 fun e => ?_, p3, BlkH.grows g rfl p4⟩
    subst e
    exact hne (h.heap.inj x b k _ r' z' z hx0 hb p1 q1)
  · obtain ⟨_, hx0⟩ := hHm x k hx
    obtain ⟨_, hx1⟩ := hHm x' k' hx'
    exact h.heap.inj x x' k k' r z z' hx0 hx1
  · rcases hk with hk | rfl
    · exact h.immM k hk
    · exact .inr q3
  · rcases hk with hk | rfl
    · exact h.immlt k hk
    · exact hlt
/-- A variable of one's own does not change from here on. -/
theorem Awp.freezeP {c : Code} {st : St} {Q : Exit → St → Prop} (b : Nat) (ps : List PV) (hb : st.H b = some (.cells (ps.map .pv))) (S' : List (Nat × AV)) (H' : List (Nat × Blk)) (hS : FrzPS st b ps S') (hH : FrzPH st b H') (h : Awp E c ⟨fun t => S'.lookup t, fun x => H'.lookup x, st.U⟩ Q) : Awp E c st Q :=
  fun a w hat => h a w (hat.freezeP b ps hb S' H' hS hH)
end
end Go.Am
namespace Go.Am
mutual
/-- A value of no memory. -/
def litV : AV → Bool
  | .pv (.lit _) => true
  | .agg cs => litL cs
  | .tup cs => litL cs
  | _ => false
def litL : List AV → Bool
  | [] => true
  | x :: xs => litV x && litL xs
end
mutual
theorem VH.lit {ι κ : Nat → Option (Nat × Nat)} {i j : Nat → Prop} {a b : World} : ∀ (x : AV) (v : Value), litV x = true → VH ι i a x v → VH κ j b x v
  | .pv (.lit _), _, _, h => h
  | .pv (.sl _ _ _), _, h, _ => by simp [litV] at h
  | .agg cs, v, hl, h => by
    simp only [litV] at hl
    simp only [VH] at h ⊢
    obtain ⟨vs, h1, h2⟩ := h
    exact ⟨vs, h1, VHs.lit cs vs hl h2⟩
  | .tup cs, v, hl, h => by
    simp only [litV] at hl
    simp only [VH] at h ⊢
    obtain ⟨vs, h1, h2⟩ := h
    exact ⟨vs, h1, VHs.lit cs vs hl h2⟩
  | .undef, _, h, _ | .ptr _ _, _, h, _ | .sl _ _ _ _ _, _, h, _ | .slc _ _ _ _ _, _, h, _ | .tsl _ _, _, h, _ | .rp _, _, h, _ | .mp _, _, h, _ | .fn _ _ _, _, h, _ => by simp [litV] at h
theorem VHs.lit {ι κ : Nat → Option (Nat × Nat)} {i j : Nat → Prop} {a b : World} : ∀ (xs : List AV) (vs : List Value), litL xs = true → VHs ι i a xs vs → VHs κ j b xs vs
  | [], _, _, h => h
  | x :: xs, vs, hl, h => by
    simp only [litL, Bool.and_eq_true] at hl
    simp only [VHs] at h ⊢
    obtain ⟨v, us, h1, h2, h3⟩ := h
    exact ⟨v, us, h1, VH.lit x v hl.1 h2, VHs.lit xs us hl.2 h3⟩
end
theorem MCalls.of_PCalls {P : Program} {f : FuncId} {avs avs' : List AV} {av : AV} {ps : List PV} (F : PCalls P f avs av) (hL : FrzL 0 ps avs' avs) (hin : AV.withinL (fun b => b == 0) avs' = true) (hlit : litV av = true) : MCalls P f avs' (.cells (ps.map .pv)) av (.cells (ps.map .pv)) where
  fn := F.fn
  args := hin
  res := F.res
  blk := within_pvs _ _
  blk' := within_pvs _ _
  calls := by
    intro ι imm w M vs hH hv himm hdom
    obtain ⟨r, z, i1, i2, i3, c, e, f', q4, q5, q6, q7⟩ := hH.blk 0 (.cells (ps.map .pv)) rfl
    have hlt : r < w.heap.size := by
      rcases Nat.lt_or_ge r w.heap.size with h' | h'
      · exact h'
      · rw [Array.getElem?_eq_none h'] at q4; cases q4
    let imm' : Nat → Prop := fun k => imm k ∨ k = r
    have g0 : Grows ι ι imm imm' w w := ⟨fun _ _ h => h, ⟨fun _ hk => .inl hk, fun _ _ => rfl⟩, fun r c e f hr => ⟨c, f, hr, rfl⟩⟩
    have h0 : ∀ x y v, Frz0 0 ps x y → VH ι imm' w x v → VH ι imm' w y v := fun x y v hf hx => by
      rcases hf with rfl | ⟨m, s, tt, rfl, rfl⟩
      · exact hx
      · simp only [VH] at hx
        obtain ⟨r', z', cap, j1, j2, j3, _⟩ := hx
        rw [i1] at j1
        simp only [Option.some.injEq, Prod.mk.injEq] at j1
        obtain ⟨rfl, rfl⟩ := j1
        rw [j2]
        simp only [VH, PH]
        refine ⟨_, cap, rfl, j3, fun h => (by simp at h), fun _ h => (by simp at h), fun h => (by simp at h), fun A hA _ => ?_⟩
        simp only [Option.some.injEq] at hA
        subst hA
        exact ⟨rfl, .inr rfl, PHs.of_cells (i := imm) (ι := ι) (w := w) ⟨fun _ hk => .inl hk, fun _ _ => rfl⟩ (fun o => cell_of_heap q4 o) q7⟩
    have hv1 : VHs ι imm' w avs vs := FrzL.vhs h0 hL (VHs.grows g0 _ _ hv)
    have hv2 : VHs (fun _ => none) imm' w avs vs := VHs.lone F.args hv1
    refine (F.calls (fun _ => none) imm' w (fun _ => False) vs ⟨fun b k hb => (by cases hb), fun b b' k k' r z z' hb => (by cases hb)⟩ hv2 (fun k hk => hk.elim (himm k) fun e => e ▸ hlt) (fun b x hx => by cases hx)).mono ?_
    rintro e' w' ⟨v, ι', imm'', he, hvv, g, hext, _, _, _⟩
    have hst : Stays imm imm w w' := ⟨fun _ h => h, fun k hk => g.stays.same k (.inl hk)⟩
    have g1 : Grows ι ι imm imm w w' := ⟨fun _ _ h => h, hst, g.rows⟩
    have hb : BlkH ι imm w r z (.cells (ps.map .pv)) := ⟨c, e, f', q4, q5, q6, q7⟩
    refine ⟨v, ι, imm, he, VH.lit av v hlit hvv, g1, ⟨hext.os, hext.tape, hext.output, hext.size, fun k hk hR => hext.block k hk fun ⟨b, q, y, h1, _⟩ => (by cases h1), hext.drawn⟩, ⟨fun b k hk => ?_, fun b b' k k' r z z' h1 h2 _ _ => ?_⟩, fun k hk => .inl hk, fun k hk => Nat.lt_of_lt_of_le (himm k hk) hext.size⟩
    · have hb0 : b = 0 ∧ k = .cells (ps.map .pv) := by
        unfold heapOf at hk
        simp only [List.lookup] at hk
        split at hk
        · rename_i h; exact ⟨by simpa using h, (Option.some.inj hk).symm⟩
        · cases hk
      obtain ⟨rfl, rfl⟩ := hb0
      exact ⟨r, z, i1, i2, .inl ⟨0, _, z, rfl, i1⟩, hb.grows g1 (g.stays.same r (.inr rfl))⟩
    · have e0 : ∀ {b : Nat} {k : Blk}, heapOf [(0, Blk.cells (ps.map .pv))] b = some k → b = 0 := fun {b k} hk => by
        unfold heapOf at hk
        simp only [List.lookup] at hk
        split at hk
        · rename_i h; simpa using h
        · cases hk
      rw [e0 h1, e0 h2]
section
variable {E : Env} {T : Tab} {cq : Oper → Cls} {n : Nat}
/-- A row of zeros that will not change. -/
theorem rexec_makeSliceF (C : Cx E T n) {d : Option Nat} {t : TypeId} {x y : Operand} {ty : TypeId} {pos : String} {af : Array Edge} {g : Option (Nat × Bool)} {st : St} {K : St → Prop} {k k' : IntKind} {len cap : Int} {r re : TyRow} {e : TypeId} (ps : List PV) (m : Nat) (h1 : dstB n ⟨d, .makeSlice t x y, ty, pos, af, g⟩ = true)
    (h2 : evls st.S [x, y] = some [.pv (.lit (.int k len)), .pv (.lit (.int k' cap))]) (hr : T.lookup t = some r) (hdesc : r.desc = .slice e) (hre : T.lookup e = some re) (hb : 0 ≤ len ∧ len ≤ cap ∧ cap ≤ 140737488355328 ∧ re.bytes * cap ≤ 140737488355328) (hps : zeroAV re.zero.cells (cap.toNat * re.size) = ps.map .pv) (hm : len.toNat = m)
    (h7 : K (st.after d { v := .pv (.sl (some false) m ps) })) : rexec E cq n ⟨d, .makeSlice t x y, ty, pos, af, g⟩ st K := by
  subst hm
  have hd : ∀ x, d = some x → x < E.n := fun x e => by
    simp only [dstB, e, decide_eq_true_eq] at h1
    exact C.n ▸ h1
  have hm := makes_makeSlice C.tab (E := E) (o := ⟨d, .makeSlice t x y, ty, pos, af, g⟩) (x := x) (y := y) rfl hr hdesc hre (k := k) (k' := k') hb.1 hb.2.1 hb.2.2.1 hb.2.2.2
  rw [hps] at hm
  exact ⟨h1, _, _, _, Move.of_frozen (hm.frozen hd) h2 _, h7⟩
end
end Go.Am
namespace Go.Am
/-- One text of bytes stands ahead of another one. -/
def ll : List Int → List Int → Bool
  | _, [] => false
  | [], _ :: _ => true
  | a :: x, b :: y => decide (a < b) || (a == b && ll x y)
theorem ll_cons (a : Int) (x : List Int) (b : Int) (y : List Int) : ll (a :: x) (b :: y) = (decide (a < b) || (a == b && ll x y)) := by rw [ll]
def B8 (D : List Int) : Prop := ∀ x ∈ D, 0 ≤ x ∧ x < 256
def u8 (x : Int) : UInt8 := UInt8.ofNat x.toNat
theorem B8.cons {a : Int} {D : List Int} (h : B8 (a :: D)) : (0 ≤ a ∧ a < 256) ∧ B8 D := ⟨h a (by simp), fun x hx => h x (by simp [hx])⟩
theorem u8_nat {x : Int} (h : 0 ≤ x ∧ x < 256) : (u8 x).toNat = x.toNat := by
  unfold u8; rw [UInt8.toNat_ofNat']; omega
theorem u8_lt {a b : Int} (ha : 0 ≤ a ∧ a < 256) (hb : 0 ≤ b ∧ b < 256) : decide (u8 a < u8 b) = decide (a < b) := by
  rw [decide_eq_decide, UInt8.lt_iff_toNat_lt, u8_nat ha, u8_nat hb]; omega
theorem u8_eq {a b : Int} (ha : 0 ≤ a ∧ a < 256) (hb : 0 ≤ b ∧ b < 256) : (u8 a = u8 b) ↔ a = b := by
  rw [← UInt8.toNat_inj, u8_nat ha, u8_nat hb]; omega
theorem bl_eq : ∀ (A B : List Int), B8 A → B8 B → Op.bytesLess (A.map u8) (B.map u8) = ll A B
  | [], [], _, _ => rfl
  | _ :: _, [], _, _ => rfl
  | [], _ :: _, _, _ => rfl
  | a :: x, b :: y, hA, hB => by
    obtain ⟨h1, h2⟩ := hA.cons
    obtain ⟨h3, h4⟩ := hB.cons
    show (decide (u8 a < u8 b) || (u8 a == u8 b && Op.bytesLess (x.map u8) (y.map u8))) = _
    rw [bl_eq x y h2 h4, u8_lt h1 h3]
    rw [ll_cons]
    congr 2
    rw [Bool.eq_iff_iff, beq_iff_eq, beq_iff_eq]; exact u8_eq h1 h3
theorem strOf_L (D : List Int) : (strOf D).data.toList = D.map u8 := by simp [strOf, u8]
theorem bytesLess_strOf {A B : List Int} (hA : B8 A) (hB : B8 B) : Op.bytesLess (strOf A).toList (strOf B).toList = ll A B := by
  rw [ByteArray.toList_eq, ByteArray.toList_eq, strOf_L, strOf_L]; exact bl_eq A B hA hB
def cmpL : List UInt8 → List UInt8 → Int
  | [], [] => 0
  | [], _ :: _ => -1
  | _ :: _, [] => 1
  | a :: x, b :: y => if a = b then cmpL x y else if a < b then -1 else 1
theorem cmpG : ∀ (x y : List UInt8), (match (List.range (min x.length y.length)).find? fun i => x[i]! != y[i]! with | some i => if x[i]! < y[i]! then (-1 : Int) else 1 | none => if x.length < y.length then -1 else if x.length > y.length then 1 else 0) = cmpL x y
  | [], [] => rfl
  | [], b :: y => by simp [cmpL]
  | a :: x, [] => by simp [cmpL]
  | a :: x, b :: y => by
    have e : min (a :: x).length (b :: y).length = min x.length y.length + 1 := by simp only [List.length_cons]; omega
    rw [e, List.range_succ_eq_map, List.find?_cons]
    by_cases h : a = b
    · subst h
      have ih := cmpG x y
      have e0 : ((a :: x)[0]! != (a :: y)[0]!) = false := by simp
      rw [e0]
      simp only [cmpL, if_true]
      rw [← ih, List.find?_map]
      have ep : ((fun i => (a :: x)[i]! != (a :: y)[i]!) ∘ Nat.succ) = fun i => x[i]! != y[i]! := by
        funext i; simp [Function.comp]
      rw [ep]
      cases (List.range (min x.length y.length)).find? fun i => x[i]! != y[i]! with
      | none => simp
      | some i => simp
    · have e0 : ((a :: x)[0]! != (b :: y)[0]!) = true := by simpa using h
      rw [e0]
      simp [cmpL, h]
theorem ba_get (a : ByteArray) (i : Nat) : a[i]! = a.data.toList[i]! := by
  by_cases h : i < a.size
  · rw [getElem!_pos a i h, getElem!_pos a.data.toList i (by simpa using h)]
    simp [ByteArray.getElem_eq_getElem_data]
  · rw [getElem!_neg a i h, getElem!_neg a.data.toList i (by simpa using h)]
theorem cmp_eq (a b : ByteArray) : Extern.BytealgCompare.cmp a b = cmpL a.data.toList b.data.toList := by
  rw [← cmpG]
  unfold Extern.BytealgCompare.cmp
  have e1 : (fun i : Nat => a[i]! != b[i]!) = fun i : Nat => a.data.toList[i]! != b.data.toList[i]! := by funext i; rw [ba_get a i, ba_get b i]
  have s1 : a.size = a.data.toList.length := (Array.length_toList).symm
  have s2 : b.size = b.data.toList.length := (Array.length_toList).symm
  rw [e1, s1, s2]
  cases (List.range (min a.data.toList.length b.data.toList.length)).find? fun i => a.data.toList[i]! != b.data.toList[i]! with
  | none => rfl
  | some i => show (if a[i]! < b[i]! then (-1 : Int) else 1) = _; rw [ba_get a i, ba_get b i]
theorem cmpL_ll : ∀ (A B : List Int), B8 A → B8 B → cmpL (A.map u8) (B.map u8) = if ll A B then -1 else if A = B then 0 else 1
  | [], [], _, _ => by simp [cmpL, ll]
  | _ :: _, [], _, _ => by simp [cmpL, ll]
  | [], _ :: _, _, _ => by simp [cmpL, ll]
  | a :: x, b :: y, hA, hB => by
    obtain ⟨h1, h2⟩ := hA.cons
    obtain ⟨h3, h4⟩ := hB.cons
    have ih := cmpL_ll x y h2 h4
    show (if u8 a = u8 b then cmpL (x.map u8) (y.map u8) else if u8 a < u8 b then -1 else 1) = _
    rw [ll_cons]
    by_cases h : a = b
    · subst h
      rw [if_pos rfl, ih]
      simp
    · rw [if_neg (by rw [u8_eq h1 h3]; exact h)]
      have := u8_lt h1 h3
      rw [decide_eq_decide] at this
      by_cases h' : a < b
      · rw [if_pos (this.2 h')]; simp [h']
      · rw [if_neg (fun q => h' (this.1 q))]; simp [h', h]
theorem cmpI_eq {A B : List Int} (hA : B8 A) (hB : B8 B) : cmpI A B = if ll A B then -1 else if A = B then 0 else 1 := by
  unfold cmpI
  rw [cmp_eq, strOf_L, strOf_L]; exact cmpL_ll A B hA hB
theorem ll_trans : ∀ {A B C : List Int}, ll A B = true → ll B C = true → ll A C = true
  | _, [], _, h, _ => by simp [ll] at h
  | _, _ :: _, [], _, h => by simp [ll] at h
  | [], _ :: _, _ :: _, _, _ => rfl
  | a :: x, b :: y, c :: z, h1, h2 => by
    rw [ll_cons] at h1 h2 ⊢
    simp only [Bool.or_eq_true, decide_eq_true_eq, Bool.and_eq_true, beq_iff_eq] at h1 h2 ⊢
    rcases h1 with h1 | ⟨h1, h1'⟩ <;> rcases h2 with h2 | ⟨h2, h2'⟩
    · exact .inl (by omega)
    · exact .inl (by omega)
    · exact .inl (by omega)
    · exact .inr ⟨by omega, ll_trans h1' h2'⟩
theorem idxI_ge {D : List Int} (hD : B8 D) : decide (idxI D 0 ≥ 0) = D.any (· == 0) := by
  unfold idxI
  cases e : (List.range (strOf D).size).find? fun i => (strOf D)[i]! == (0 : Int).toNat.toUInt8 with
  | none =>
    have hn := List.find?_eq_none.1 e
    have : D.any (· == 0) = false := by
      rw [List.any_eq_false]
      intro x hx h0
      obtain ⟨i, hi, rfl⟩ := List.getElem_of_mem hx
      have := hn i (by rw [List.mem_range]; simpa [strOf, ByteArray.size] using hi)
      apply this
      rw [ba_get, strOf_L, getElem!_pos _ i (by simpa using hi), List.getElem_map, eq_of_beq h0]
      rfl
    rw [this]; decide
  | some i =>
    have h1 := List.find?_some e
    have h2 := List.mem_range.1 (List.mem_of_find?_eq_some e)
    have hi : i < D.length := by simpa [strOf, ByteArray.size] using h2
    have : D.any (· == 0) = true := by
      rw [List.any_eq_true]
      refine ⟨D[i], List.getElem_mem hi, ?_⟩
      rw [ba_get, strOf_L, getElem!_pos _ i (by simpa using hi), List.getElem_map] at h1
      have h3 : u8 D[i] = u8 0 := eq_of_beq h1
      rw [u8_eq (hD _ (List.getElem_mem hi)) (by decide)] at h3
      rw [h3]; rfl
    rw [this]
    exact decide_eq_true (Int.natCast_nonneg i)
end Go.Am
namespace Go.Am
/-- What cells of a type hold. -/
def FlatA (P : Program) : Nat → TypeId → List PV → Prop
  | 0, _, _ => False
  | m + 1, t, ps => match P.underlying t with
    | some .bool => ∃ b, ps = [.lit (.bool b)]
    | some (.int k) => ∃ n, ps = [.lit (.int k n)] ∧ (Lit.int k n).wf = true
    | some .string => ∃ s, ps = [.lit (.string s)] ∧ s.size ≤ maxLen
    | some (.slice e) => ∃ (b : Bool) (D : List (List PV)), ps = [.sl (some b) D.length D.flatten] ∧ D.length ≤ maxLen ∧ (b = true → D = []) ∧ ∀ x ∈ D, FlatA P m e x
    | some (.struct fs) => FlatS (FlatA P m) fs.toList ps
    | some (.array n e) => ∃ D : List (List PV), ps = D.flatten ∧ D.length = n ∧ ∀ x ∈ D, FlatA P m e x
    | _ => False
def okTyA (P : Program) : Nat → TypeId → Bool
  | 0, _ => false
  | m + 1, t => match P.underlying t with
    | some .bool | some (.int _) | some .string => true
    | some (.slice e) => okTyA P m e && decide (0 < P.cellsOf e)
    | some (.struct fs) => okFs P (okTyA P m) (P.cellsOf t) fs.toList 0
    | some (.array n e) => okTyA P m e && decide (P.cellsOf t = n * P.cellsOf e)
    | _ => false
theorem chunks {F : List PV → Prop} {ι : Nat → Option (Nat × Nat)} {imm : Nat → Prop} {w : World} {c : Nat} : ∀ (n : Nat) (cs : List Value), cs.length = n * c → (∀ i, i < n → ∃ ps : List PV, VHs ι imm w (ps.map .pv) ((cs.drop (i * c)).take c) ∧ F ps) → ∃ D : List (List PV), D.length = n ∧ VHs ι imm w (D.flatten.map .pv) cs ∧ ∀ x ∈ D, F x
  | 0, cs, hl, _ => by
    have : cs = [] := List.eq_nil_of_length_eq_zero (by rw [hl]; omega)
    subst this
    exact ⟨[], rfl, rfl, fun x hx => (by cases hx)⟩
  | n + 1, cs, hl, h => by
    have hc : c ≤ cs.length := by rw [hl, Nat.add_mul, Nat.one_mul]; exact Nat.le_add_left _ _
    obtain ⟨ps, p1, p2⟩ := h 0 (by omega)
    rw [Nat.zero_mul, List.drop_zero] at p1
    obtain ⟨D, d1, d2, d3⟩ := chunks n (cs.drop c) (by rw [List.length_drop, hl, Nat.add_mul, Nat.one_mul, Nat.add_sub_cancel]) fun i hi => by
      obtain ⟨qs, q1, q2⟩ := h (i + 1) (by omega)
      refine ⟨qs, ?_, q2⟩
      rw [List.drop_drop, show c + i * c = (i + 1) * c by rw [Nat.add_mul, Nat.one_mul, Nat.add_comm]]
      exact q1
    refine ⟨ps :: D, by simp [d1], ?_, fun x hx => ?_⟩
    · rw [List.flatten_cons, List.map_append, ← List.take_append_drop c cs]
      exact VHs.append p1 d2
    · rcases List.mem_cons.1 hx with rfl | hx
      · exact p2
      · exact d3 x hx
section
variable {H : Type} {enc : TypeId × Value → H} {P : Program} {w : World} {base : Nat} {held : Bool}
theorem open_flatA {ι : Nat → Option (Nat × Nat)} : ∀ (m fuel : Nat) (t : TypeId) (cs : List Value) (x : DataW H × List MemPlace), okTyA P m t = true → DataW.trod enc P w base (fun _ => true) held fuel t cs = some x →
    ∃ ps : List PV, VHs ι (fun k => k < w.heap.size) w (ps.map .pv) cs ∧ FlatA P m t ps
  | 0, _, _, _, _, hok, _ => by simp [okTyA] at hok
  | m + 1, fuel, t, cs, x, hok, h => by
    simp only [okTyA] at hok
    split at hok
    · rename_i ht
      obtain ⟨b, rfl, _⟩ := DataW.trod_bool ht h
      exact ⟨[.lit (.bool b)], ⟨_, [], rfl, ⟨rfl, rfl⟩, rfl⟩, by simp only [FlatA, ht]; exact ⟨b, rfl⟩⟩
    · rename_i k ht
      obtain ⟨n, rfl, _, hw⟩ := DataW.trod_int ht h
      exact ⟨[.lit (.int k n)], ⟨_, [], rfl, ⟨rfl, rfl⟩, rfl⟩, by simp only [FlatA, ht]; exact ⟨n, rfl, hw⟩⟩
    · rename_i ht
      obtain ⟨s, rfl, _, hs⟩ := DataW.trod_string ht h
      exact ⟨[.lit (.string s)], ⟨_, [], rfl, ⟨rfl, rfl⟩, rfl⟩, by simp only [FlatA, ht]; exact ⟨s, rfl, hs⟩⟩
    · rename_i e ht
      simp only [Bool.and_eq_true, decide_eq_true_eq] at hok
      rcases DataW.trod_slice ht h with ⟨rfl, _⟩ | ⟨a, len, cap, elems, rest, n, _, rfl, _, hb, hl, hm, hlen, hel, _, _⟩
      · refine ⟨[.sl (some true) 0 []], ⟨_, [], rfl, ?_, rfl⟩, by simp only [FlatA, ht]; exact ⟨true, [], rfl, Nat.zero_le _, fun _ => rfl, fun x hx => by cases hx⟩⟩
        exact ⟨none, 0, rfl, Nat.le_refl _, fun _ => rfl, fun h => by simp at h, fun _ => ⟨rfl, rfl, rfl⟩, fun a ha => by cases ha⟩
      · have hspot : 0 < len → a.spot = none ∧ a.block < w.heap.size := fun hi => by
          have h1 := hel 0 hi
          have : ∃ y, elems[0]? = some y := ⟨elems[0], by rw [List.getElem?_eq_getElem (by omega)]⟩
          obtain ⟨y, hy⟩ := this
          rw [hy, Option.bind_eq_some_iff] at h1
          obtain ⟨ds, d1, _⟩ := h1
          obtain ⟨_, d3, d4⟩ := World.cells?_some d1
          have h0 := d4 0 hok.2
          have hds : ∃ v, ds[0]? = some v := ⟨ds[0], by rw [List.getElem?_eq_getElem (by omega)]⟩
          obtain ⟨v0, hv0⟩ := hds
          rw [hv0] at h0
          simpa [Addr.add] using spot_of_cell h0
        have each : ∀ i, i < len → ∃ ps : List PV, FlatA P m e ps ∧ ps.length = P.cellsOf e ∧ a.spot = none ∧ a.block < w.heap.size ∧ PHs (fun k => k < w.heap.size) w ps a.block (a.off + i * P.cellsOf e) := fun i hi => by
          have h1 := hel i hi
          have : ∃ y, elems[i]? = some y := ⟨elems[i], by rw [List.getElem?_eq_getElem (by omega)]⟩
          obtain ⟨y, hy⟩ := this
          rw [hy, Option.bind_eq_some_iff] at h1
          obtain ⟨ds, d1, d2⟩ := h1
          obtain ⟨_, d3, d4⟩ := World.cells?_some d1
          obtain ⟨ps, p1, p2⟩ := open_flatA (ι := ι) m n e ds y hok.1 d2
          have hpl := p1.length
          rw [List.length_map] at hpl
          obtain ⟨hsp, s2⟩ := hspot (by omega)
          refine ⟨ps, p2, by omega, hsp, s2, PHs_of p1 fun j hj => ?_⟩
          have := d4 j (by omega)
          rw [← this, addr_eta hsp, add_none, add_none]
        obtain ⟨D, hD, hp⟩ := exists_list len each
        refine ⟨[.sl (some false) D.length D.flatten], ⟨_, [], rfl, ?_, rfl⟩, ?_⟩
        · refine ⟨some a, cap, by rw [hD], by omega, fun h => by simp at h, fun _ h => by simp at h, fun h => by simp at h, fun a' ha' hne => ?_⟩
          simp only [Option.some.injEq] at ha'
          subst ha'
          have hpos : ∃ x, D[0]? = some x := by
            cases D with
            | nil => simp at hne
            | cons x D => exact ⟨x, rfl⟩
          obtain ⟨x0, hx0⟩ := hpos
          obtain ⟨_, _, e3, e4, _⟩ := hp 0 x0 hx0
          exact ⟨e3, e4, PHs_flatten fun i y hy => ⟨(hp i y hy).2.1, (hp i y hy).2.2.2.2⟩⟩
        · simp only [FlatA, ht]
          refine ⟨false, D, rfl, by omega, fun h => (by cases h), fun y hy => ?_⟩
          obtain ⟨i, hi, rfl⟩ := List.getElem_of_mem hy
          exact (hp i _ (List.getElem?_eq_getElem hi)).1
    · rename_i fs ht
      obtain ⟨xs, n, _, _, hl, hxl, hx⟩ := DataW.trod_struct ht h
      obtain ⟨ps, h1, h2⟩ := open_fields (F := FlatA P m) (G := okTyA P m) (ι := ι) (imm := fun k => k < w.heap.size) (cs := cs) (n := n) (fun t' cs' x' ho ht' => open_flatA (ι := ι) m n t' cs' x' ho ht') (xs := xs) fs.toList 0 0 (by rw [hl]; exact hok) (fun i f hf => by rw [Nat.zero_add]; exact hx i f (by simpa using hf)) (by simp [hxl]) (Nat.zero_le _)
      exact ⟨ps, by simpa using h1, by simp only [FlatA, ht]; exact h2⟩
    · rename_i n e ht
      simp only [Bool.and_eq_true, decide_eq_true_eq] at hok
      obtain ⟨xs, q, _, _, hl, hxl, hx⟩ := DataW.trod_array ht h
      obtain ⟨D, d1, d2, d3⟩ := chunks (F := FlatA P m e) (ι := ι) (imm := fun k => k < w.heap.size) (w := w) (c := P.cellsOf e) n cs (by rw [hl, hok.2]) fun i hi => by
        have h1 := hx i hi
        have : ∃ y, xs[i]? = some y := ⟨xs[i]'(by omega), by rw [List.getElem?_eq_getElem (by omega)]⟩
        obtain ⟨y, hy⟩ := this
        rw [hy] at h1
        exact open_flatA (ι := ι) m q e _ y hok.1 h1
      exact ⟨D.flatten, d2, by simp only [FlatA, ht]; exact ⟨D, rfl, d1, d3⟩⟩
    · cases hok
/-- One cell that is handed in. -/
theorem open_cellA {t : TypeId} {v : Value} {d : DataW H} {ps : List MemPlace} (m : Nat) (hok : okTyA P m t = true) (hv : v.cells = #[v]) (hd : DataW.Trod enc P w base (fun _ => true) held t v d ps) : ∃ q : PV, FlatA P m t [q] ∧ VH (fun _ => none) (fun k => k < w.heap.size) w (.pv q) v := by
  obtain ⟨fuel, hf⟩ := hd
  obtain ⟨qs, h1, h2⟩ := open_flatA (ι := fun _ => none) m fuel t _ _ hok hf
  rw [hv] at h1
  cases qs with
  | nil => simp [VHs] at h1
  | cons q qs =>
    obtain ⟨v', us, he, h3, h4⟩ := h1
    simp only [List.cons.injEq] at he
    obtain ⟨rfl, rfl⟩ := he
    cases qs with
    | nil => exact ⟨q, h2, h3⟩
    | cons a b => simp [VHs] at h4
end
end Go.Am
namespace Go.Am
section
variable {H : Type} {enc : TypeId × Value → H} {P : Program} {w : World} {base : Nat} {spare : Nat → Bool} {held : Bool}
end
end Go.Am
namespace Go.Proofs.YthnghkkbnhjlgaaDoor
open Go.Am
def tab : Tab := [
  (3, ⟨.int .i64, 1, 8, .int .i64 0, false⟩),
  (4, ⟨.bool, 1, 1, .bool false, false⟩),
  (5, ⟨.int .u8, 1, 1, .int .u8 0, false⟩),
  (9, ⟨.string, 1, 16, .string ⟨#[]⟩, false⟩),
  (21, ⟨.int .i32, 1, 4, .int .i32 0, false⟩),
  (22, ⟨.slice 32, 1, 24, .slice none 0 0, false⟩),
  (23, ⟨.int .i64, 1, 8, .int .i64 0, false⟩),
  (27, ⟨.slice 5, 1, 24, .slice none 0 0, false⟩),
  (29, ⟨.array 8 5, 8, 8, .agg #[.int .u8 0, .int .u8 0, .int .u8 0, .int .u8 0, .int .u8 0, .int .u8 0, .int .u8 0, .int .u8 0], true⟩),
  (30, ⟨.array 8 5, 8, 8, .agg #[.int .u8 0, .int .u8 0, .int .u8 0, .int .u8 0, .int .u8 0, .int .u8 0, .int .u8 0, .int .u8 0], true⟩),
  (31, ⟨.struct #[{ name := "Key", type := 30, offset := 0, embedded := false, tag := "", pkgPath := "", byteOffset := 0 }, { name := "Ver", type := 3, offset := 8, embedded := false, tag := "", pkgPath := "", byteOffset := 8 }], 9, 16, .agg #[.int .u8 0, .int .u8 0, .int .u8 0, .int .u8 0, .int .u8 0, .int .u8 0, .int .u8 0, .int .u8 0, .int .i64 0], true⟩),
  (32, ⟨.struct #[{ name := "Key", type := 30, offset := 0, embedded := false, tag := "", pkgPath := "", byteOffset := 0 }, { name := "Ver", type := 3, offset := 8, embedded := false, tag := "", pkgPath := "", byteOffset := 8 }], 9, 16, .agg #[.int .u8 0, .int .u8 0, .int .u8 0, .int .u8 0, .int .u8 0, .int .u8 0, .int .u8 0, .int .u8 0, .int .i64 0], true⟩),
  (42, ⟨.array 16 5, 16, 16, .agg #[.int .u8 0, .int .u8 0, .int .u8 0, .int .u8 0, .int .u8 0, .int .u8 0, .int .u8 0, .int .u8 0, .int .u8 0, .int .u8 0, .int .u8 0, .int .u8 0, .int .u8 0, .int .u8 0, .int .u8 0, .int .u8 0], false⟩),
  (58, ⟨.int .u64, 1, 8, .int .u64 0, false⟩),
  (61, ⟨.pointer 87, 1, 8, .pointer none, false⟩),
  (67, ⟨.pointer 69, 1, 8, .pointer none, false⟩),
  (68, ⟨.struct #[{ name := "B", type := 27, offset := 0, embedded := false, tag := "", pkgPath := "", byteOffset := 0 }, { name := "At", type := 3, offset := 1, embedded := false, tag := "", pkgPath := "", byteOffset := 24 }, { name := "E", type := 23, offset := 2, embedded := false, tag := "", pkgPath := "", byteOffset := 32 }], 3, 40, .agg #[.slice none 0 0, .int .i64 0, .int .i64 0], false⟩),
  (69, ⟨.struct #[{ name := "B", type := 27, offset := 0, embedded := false, tag := "", pkgPath := "", byteOffset := 0 }, { name := "At", type := 3, offset := 1, embedded := false, tag := "", pkgPath := "", byteOffset := 24 }, { name := "E", type := 23, offset := 2, embedded := false, tag := "", pkgPath := "", byteOffset := 32 }], 3, 40, .agg #[.slice none 0 0, .int .i64 0, .int .i64 0], false⟩),
  (80, ⟨.slice 58, 1, 24, .slice none 0 0, false⟩),
  (81, ⟨.int .u32, 1, 4, .int .u32 0, false⟩),
  (82, ⟨.array 4 81, 4, 16, .agg #[.int .u32 0, .int .u32 0, .int .u32 0, .int .u32 0], false⟩),
  (86, ⟨.struct #[{ name := "b", type := 27, offset := 0, embedded := false, tag := "", pkgPath := "towline/wire", byteOffset := 0 }, { name := "at", type := 3, offset := 1, embedded := false, tag := "", pkgPath := "towline/wire", byteOffset := 24 }, { name := "err", type := 23, offset := 2, embedded := false, tag := "", pkgPath := "towline/wire", byteOffset := 32 }, { name := "made", type := 4, offset := 3, embedded := false, tag := "", pkgPath := "towline/wire", byteOffset := 40 }], 4, 48, .agg #[.slice none 0 0, .int .i64 0, .int .i64 0, .bool false], false⟩),
  (87, ⟨.struct #[{ name := "b", type := 27, offset := 0, embedded := false, tag := "", pkgPath := "towline/wire", byteOffset := 0 }, { name := "at", type := 3, offset := 1, embedded := false, tag := "", pkgPath := "towline/wire", byteOffset := 24 }, { name := "err", type := 23, offset := 2, embedded := false, tag := "", pkgPath := "towline/wire", byteOffset := 32 }, { name := "made", type := 4, offset := 3, embedded := false, tag := "", pkgPath := "towline/wire", byteOffset := 40 }], 4, 48, .agg #[.slice none 0 0, .int .i64 0, .int .i64 0, .bool false], false⟩),
  (99, ⟨.int .u64, 1, 8, .int .u64 0, false⟩),
  (102, ⟨.array 4 81, 4, 16, .agg #[.int .u32 0, .int .u32 0, .int .u32 0, .int .u32 0], false⟩)]
theorem inf3 : (Tryd.prog.info? 3).map (fun i => (i.size, i.bytes, i.zero)) = some (1, 8, some (.int .i64 0)) := by kernel_rfl
theorem inf4 : (Tryd.prog.info? 4).map (fun i => (i.size, i.bytes, i.zero)) = some (1, 1, some (.bool false)) := by kernel_rfl
theorem inf5 : (Tryd.prog.info? 5).map (fun i => (i.size, i.bytes, i.zero)) = some (1, 1, some (.int .u8 0)) := by kernel_rfl
theorem inf9 : (Tryd.prog.info? 9).map (fun i => (i.size, i.bytes, i.zero)) = some (1, 16, some (.string ⟨#[]⟩)) := by kernel_rfl
theorem inf21 : (Tryd.prog.info? 21).map (fun i => (i.size, i.bytes, i.zero)) = some (1, 4, some (.int .i32 0)) := by kernel_rfl
theorem inf22 : (Tryd.prog.info? 22).map (fun i => (i.size, i.bytes, i.zero)) = some (1, 24, some (.slice none 0 0)) := by kernel_rfl
theorem inf23 : (Tryd.prog.info? 23).map (fun i => (i.size, i.bytes, i.zero)) = some (1, 8, some (.int .i64 0)) := by kernel_rfl
theorem inf27 : (Tryd.prog.info? 27).map (fun i => (i.size, i.bytes, i.zero)) = some (1, 24, some (.slice none 0 0)) := by kernel_rfl
theorem inf29 : (Tryd.prog.info? 29).map (fun i => (i.size, i.bytes, i.zero)) = some (8, 8, some (.agg #[.int .u8 0, .int .u8 0, .int .u8 0, .int .u8 0, .int .u8 0, .int .u8 0, .int .u8 0, .int .u8 0])) := by kernel_rfl
theorem inf30 : (Tryd.prog.info? 30).map (fun i => (i.size, i.bytes, i.zero)) = some (8, 8, some (.agg #[.int .u8 0, .int .u8 0, .int .u8 0, .int .u8 0, .int .u8 0, .int .u8 0, .int .u8 0, .int .u8 0])) := by kernel_rfl
theorem inf31 : (Tryd.prog.info? 31).map (fun i => (i.size, i.bytes, i.zero)) = some (9, 16, some (.agg #[.int .u8 0, .int .u8 0, .int .u8 0, .int .u8 0, .int .u8 0, .int .u8 0, .int .u8 0, .int .u8 0, .int .i64 0])) := by kernel_rfl
theorem inf32 : (Tryd.prog.info? 32).map (fun i => (i.size, i.bytes, i.zero)) = some (9, 16, some (.agg #[.int .u8 0, .int .u8 0, .int .u8 0, .int .u8 0, .int .u8 0, .int .u8 0, .int .u8 0, .int .u8 0, .int .i64 0])) := by kernel_rfl
theorem inf42 : (Tryd.prog.info? 42).map (fun i => (i.size, i.bytes, i.zero)) = some (16, 16, some (.agg #[.int .u8 0, .int .u8 0, .int .u8 0, .int .u8 0, .int .u8 0, .int .u8 0, .int .u8 0, .int .u8 0, .int .u8 0, .int .u8 0, .int .u8 0, .int .u8 0, .int .u8 0, .int .u8 0, .int .u8 0, .int .u8 0])) := by kernel_rfl
theorem inf58 : (Tryd.prog.info? 58).map (fun i => (i.size, i.bytes, i.zero)) = some (1, 8, some (.int .u64 0)) := by kernel_rfl
theorem inf61 : (Tryd.prog.info? 61).map (fun i => (i.size, i.bytes, i.zero)) = some (1, 8, some (.pointer none)) := by kernel_rfl
theorem inf67 : (Tryd.prog.info? 67).map (fun i => (i.size, i.bytes, i.zero)) = some (1, 8, some (.pointer none)) := by kernel_rfl
theorem inf68 : (Tryd.prog.info? 68).map (fun i => (i.size, i.bytes, i.zero)) = some (3, 40, some (.agg #[.slice none 0 0, .int .i64 0, .int .i64 0])) := by kernel_rfl
theorem inf69 : (Tryd.prog.info? 69).map (fun i => (i.size, i.bytes, i.zero)) = some (3, 40, some (.agg #[.slice none 0 0, .int .i64 0, .int .i64 0])) := by kernel_rfl
theorem inf80 : (Tryd.prog.info? 80).map (fun i => (i.size, i.bytes, i.zero)) = some (1, 24, some (.slice none 0 0)) := by kernel_rfl
theorem inf81 : (Tryd.prog.info? 81).map (fun i => (i.size, i.bytes, i.zero)) = some (1, 4, some (.int .u32 0)) := by kernel_rfl
theorem inf82 : (Tryd.prog.info? 82).map (fun i => (i.size, i.bytes, i.zero)) = some (4, 16, some (.agg #[.int .u32 0, .int .u32 0, .int .u32 0, .int .u32 0])) := by kernel_rfl
theorem inf86 : (Tryd.prog.info? 86).map (fun i => (i.size, i.bytes, i.zero)) = some (4, 48, some (.agg #[.slice none 0 0, .int .i64 0, .int .i64 0, .bool false])) := by kernel_rfl
theorem inf87 : (Tryd.prog.info? 87).map (fun i => (i.size, i.bytes, i.zero)) = some (4, 48, some (.agg #[.slice none 0 0, .int .i64 0, .int .i64 0, .bool false])) := by kernel_rfl
theorem inf99 : (Tryd.prog.info? 99).map (fun i => (i.size, i.bytes, i.zero)) = some (1, 8, some (.int .u64 0)) := by kernel_rfl
theorem inf102 : (Tryd.prog.info? 102).map (fun i => (i.size, i.bytes, i.zero)) = some (4, 16, some (.agg #[.int .u32 0, .int .u32 0, .int .u32 0, .int .u32 0])) := by kernel_rfl
theorem tabOk : TabOk Tryd.prog tab := TabOk.cons Tryd.underlying3 inf3 (fun h => by cases h) (TabOk.cons Tryd.underlying4 inf4 (fun h => by cases h) (TabOk.cons Tryd.underlying5 inf5 (fun h => by cases h) (TabOk.cons Tryd.underlying9 inf9 (fun h => by cases h) (TabOk.cons Tryd.underlying21 inf21 (fun h => by cases h) (TabOk.cons Tryd.underlying22 inf22 (fun h => by cases h) (TabOk.cons Tryd.underlying23 inf23 (fun h => by cases h) (TabOk.cons Tryd.underlying27 inf27 (fun h => by cases h) (TabOk.cons Tryd.underlying29 inf29 (fun _ => ⟨by kernel_rfl, by kernel_rfl⟩) (TabOk.cons Tryd.underlying30 inf30 (fun _ => ⟨by kernel_rfl, by kernel_rfl⟩) (TabOk.cons Tryd.underlying31 inf31 (fun _ => ⟨by kernel_rfl, by kernel_rfl⟩) (TabOk.cons Tryd.underlying32 inf32 (fun _ => ⟨by kernel_rfl, by kernel_rfl⟩) (TabOk.cons Tryd.underlying42 inf42 (fun h => by cases h) (TabOk.cons Tryd.underlying58 inf58 (fun h => by cases h) (TabOk.cons Tryd.underlying61 inf61 (fun h => by cases h) (TabOk.cons Tryd.underlying67 inf67 (fun h => by cases h) (TabOk.cons Tryd.underlying68 inf68 (fun h => by cases h) (TabOk.cons Tryd.underlying69 inf69 (fun h => by cases h) (TabOk.cons Tryd.underlying80 inf80 (fun h => by cases h) (TabOk.cons Tryd.underlying81 inf81 (fun h => by cases h) (TabOk.cons Tryd.underlying82 inf82 (fun h => by cases h) (TabOk.cons Tryd.underlying86 inf86 (fun h => by cases h) (TabOk.cons Tryd.underlying87 inf87 (fun h => by cases h) (TabOk.cons Tryd.underlying99 inf99 (fun h => by cases h) (TabOk.cons Tryd.underlying102 inf102 (fun h => by cases h) (TabOk.nil _)))))))))))))))))))))))))
theorem mixed : Tryd.prog.follows .mixedOrders = true := by kernel_rfl
theorem lit_cast {k : IntKind} {a b : Int} (h : a = b) : some (AV.pv (.lit (.int k a))) = some (AV.pv (.lit (.int k b))) := by rw [h]
end Go.Proofs.YthnghkkbnhjlgaaDoor
namespace Go.Proofs.YthnghkkbnhjlgaaDoor
open Go.Am
end Go.Proofs.YthnghkkbnhjlgaaDoor
namespace Go.Proofs.YthnghkkbnhjlgaaDoor
open Go.Am
theorem cells_cast {k : IntKind} {n : Nat} {f g : Nat → Int} (h : ∀ t, t < n → f t = g t) : some (Blk.cells (cI k (tb n f))) = some (Blk.cells (cI k (tb n g))) := by rw [tb_congr h]
def wAcc (b : Nat → Int) (i : Nat) : Nat → Int
  | 0 => 0
  | j + 1 => bitI .or .u32 (wAcc b i j) (shlI .u32 (IntKind.u32.wrap (b (4 * i + j))) (8 * j : Nat))
def wTab (b : Nat → Int) (i j : Nat) (t : Nat) : Int := if t < i then wAcc b t 4 else if t = i then wAcc b i j else 0
def wordsF (b : Nat → Int) (i : Nat) : Int := wAcc b i 4
theorem words_calls (b : Nat → Int) : PCalls Tryd.prog 76 [.agg (cI .u8 (tb 16 b))] (.agg (cI .u32 (tb 4 (wordsF b)))) := by
  refine PCalls.of_body tabOk Tryd.func76 rfl rfl rfl (by simp [AV.withinL, AV.within, cI_within]) (by simp [AV.within, cI_within]) mixed fun E hP C hI => ?_
  refine Awp.cons C (fun _ => .pure) (by kernel_rfl) ?_ -- region 0 false
  refine rvc_prim C rfl rfl rfl rfl trivial rfl ?_
  refine rvc_prim C rfl rfl rfl rfl trivial rfl ?_
  refine rvc_nil ?_
  refine Awp.cons C (fun _ => .pure) (by kernel_rfl) ?_ -- region 1 false
  refine rvc_prim C rfl rfl rfl rfl trivial rfl ?_
  refine rvc_nil ?_
  refine Awp.seq ?_
  refine Awp.cons C (fun _ => .pure) (by kernel_rfl) ?_ -- region 2 false
  refine rvc_prim C rfl rfl rfl rfl trivial rfl ?_
  refine rvc_nil ?_
  refine Awp.block ?_ -- 0
  refine Awp.forN 4 (fun i => [(1, .ptr 1 0), (2, .ptr 2 0), (3, .ptr 3 0), (6, .pv (.lit (.int .i64 i)))]) (fun i => [(1, .cells (cI .u8 (tb 16 b))), (2, .cells (cI .u32 (tb 4 fun _ => 0))), (3, .cells (cI .u32 (tb 4 (wTab b i 0))))]) [1, 2, 3] ?_ (fun i hi => ?_) ?_
  · exact Weaker.of hI ⟨rfl, rfl, rfl, rfl, trivial⟩ ⟨rfl, rfl, rfl, trivial⟩ rfl (by simp [Blk.within, cI_within])
  · refine Awp.cons C (fun _ => .pure) (by kernel_rfl) ?_ -- region 3 false
    refine rvc_prim C rfl rfl rfl rfl trivial rfl ?_
    refine rvc_nil ?_
    refine Awp.seq ?_
    refine Awp.condT rfl (by simpa using (by omega : (i : Int) < 4)) (Awp.skip ?_)
    refine Awp.seq ?_
    refine Awp.block ?_ -- 1
    refine Awp.cons C (fun _ => .pure) (by kernel_rfl) ?_ -- region 4 false
    refine rvc_prim C rfl rfl rfl rfl trivial rfl ?_
    refine rvc_prim C rfl rfl rfl rfl trivial rfl ?_
    refine rvc_nil ?_
    refine Awp.cons C (fun _ => .pure) (by kernel_rfl) ?_ -- region 5 false
    refine rvc_prim C rfl rfl rfl rfl trivial rfl ?_
    refine rvc_nil ?_
    refine Awp.block ?_ -- 2
    refine Awp.forN 4 (fun j => [(1, .ptr 1 0), (2, .ptr 2 0), (3, .ptr 3 0), (4, .pv (.lit (.int .i64 i))), (6, .pv (.lit (.int .i64 i))), (9, .pv (.lit (.int .i64 j)))]) (fun j => [(1, .cells (cI .u8 (tb 16 b))), (2, .cells (cI .u32 (tb 4 fun _ => 0))), (3, .cells (cI .u32 (tb 4 (wTab b i j))))]) [1, 2, 3] ?_ (fun j hj => ?_) ?_
    · exact Weaker.of hI ⟨rfl, rfl, rfl, rfl, rfl, rfl, trivial⟩ ⟨rfl, rfl, rfl, trivial⟩ rfl (by simp [Blk.within, cI_within])
    · have m1 : IntKind.i64.wrap (4 * (i : Int)) = ((4 * i : Nat) : Int) := wrap_i64 (by omega) (by omega)
      have m2 : IntKind.i64.wrap (IntKind.i64.wrap (4 * (i : Int)) + (j : Int)) = ((4 * i + j : Nat) : Int) := by rw [m1]; exact wrap_i64 (by omega) (by omega)
      have m3 : IntKind.i64.wrap (8 * (j : Int)) = ((8 * j : Nat) : Int) := wrap_i64 (by omega) (by omega)
      refine Awp.cons C (fun _ => .pure) (by kernel_rfl) ?_ -- region 6 false
      refine rvc_prim C rfl rfl rfl rfl trivial rfl ?_
      refine rvc_nil ?_
      refine Awp.seq ?_
      refine Awp.condT rfl (by simpa using (by omega : (j : Int) < 4)) (Awp.skip ?_)
      refine Awp.seq ?_
      refine Awp.block ?_ -- 3
      refine Awp.cons C (fun _ => .pure) (by kernel_rfl) ?_ -- region 7 false
      refine rvc_prim C rfl rfl rfl rfl trivial rfl ?_
      refine rvc_prim C rfl rfl rfl rfl trivial rfl ?_
      refine rvc_nil ?_
      refine Awp.regionP C ?_
      refine rvc_prim C rfl rfl rfl rfl trivial rfl ?_
      refine rvc_prim C rfl rfl rfl rfl ⟨by omega, by omega⟩ rfl ?_
      refine rvc_load C rfl rfl rfl rfl rfl (cI_at i (by simp) (by omega)) ?_
      refine rvc_prim C rfl rfl rfl rfl trivial rfl ?_
      refine rvc_prim C rfl rfl rfl rfl trivial rfl ?_
      refine rvc_prim C rfl rfl rfl rfl trivial rfl ?_
      refine rvc_prim C rfl rfl rfl rfl trivial rfl ?_
      refine rvc_prim C rfl rfl rfl rfl ⟨by rw [m2]; omega, by rw [m2]; omega⟩ rfl ?_
      refine rvc_load C rfl rfl rfl rfl rfl (cI_at (4 * i + j) (by rw [m2]; show 0 + ((4 * i + j : Nat) : Int).toNat * 1 = _; omega) (by omega)) ?_
      refine rvc_prim C rfl rfl rfl rfl trivial rfl ?_
      refine rvc_prim C rfl rfl rfl rfl trivial rfl ?_
      refine rvc_prim C rfl rfl rfl rfl trivial rfl ?_
      refine rvc_prim C rfl rfl rfl rfl (by rw [m3]; omega) rfl ?_
      refine rvc_prim C rfl rfl rfl rfl trivial rfl ?_
      refine rvc_prim C rfl rfl rfl rfl ⟨by omega, by omega⟩ rfl ?_
      refine rvc_store C rfl rfl rfl rfl rfl (by rw [cI_len, tb_len]; show 0 + (i : Int).toNat * 1 < 4; omega) ?_ -- t_ store 
      refine rvc_nil ?_
      refine Awp.region C (fun _ => .pure) (by kernel_rfl) ?_ -- region 9 false
      refine rvc_prim C rfl rfl rfl rfl trivial rfl ?_
      refine rvc_prim C rfl rfl rfl rfl trivial rfl ?_
      refine rvc_nil ?_
      refine Weaker.of hI ⟨rfl, rfl, rfl, rfl, rfl, lit_cast (wrap_i64 (by omega) (by omega)), trivial⟩ ⟨rfl, rfl, ?_, trivial⟩ rfl (by simp [Blk.within, cI_within])
      refine (congrArg (fun x => some (Blk.cells x)) (cI_set i (by simp))).trans (cells_cast fun t ht => ?_)
      simp only [wTab]
      by_cases h1 : t = i
      · subst h1; simp [wAcc, m3]
      · simp [h1]
    · refine Awp.cons C (fun _ => .pure) (by kernel_rfl) ?_ -- region 6 false
      refine rvc_prim C rfl rfl rfl rfl trivial rfl ?_
      refine rvc_nil ?_
      refine Awp.seq ?_
      refine Awp.condF rfl rfl (Awp.exit ?_)
      refine Awp.region C (fun _ => .pure) (by kernel_rfl) ?_ -- region 10 false
      refine rvc_prim C rfl rfl rfl rfl trivial rfl ?_
      refine rvc_prim C rfl rfl rfl rfl trivial rfl ?_
      refine rvc_nil ?_
      refine Weaker.of hI ⟨rfl, rfl, rfl, lit_cast (wrap_i64 (by omega) (by omega)), trivial⟩ ⟨rfl, rfl, ?_, trivial⟩ rfl (by simp [Blk.within, cI_within])
      refine cells_cast fun t ht => ?_
      simp only [wTab, wAcc]
      by_cases h1 : t = i
      · subst h1; simp
      · by_cases h2 : t < i
        · simp [h2, Nat.lt_succ_of_lt h2]
        · have : ¬ t < i + 1 := by omega
          simp [h1, h2, this]
  · refine Awp.cons C (fun _ => .pure) (by kernel_rfl) ?_ -- region 3 false
    refine rvc_prim C rfl rfl rfl rfl trivial rfl ?_
    refine rvc_nil ?_
    refine Awp.seq ?_
    refine Awp.condF rfl rfl (Awp.exit ?_)
    refine Awp.cons C (fun _ => .pure) (by kernel_rfl) ?_ -- region 11 false
    refine rvc_prim C rfl rfl rfl rfl trivial rfl ?_
    refine rvc_prim C rfl rfl rfl rfl trivial rfl ?_ -- t_ store 
    refine rvc_nil ?_
    refine Awp.ret ?_
    exact ⟨.inl rfl, rfl⟩
def doubleF (k : Nat → Int) : Nat → Int
  | 0 => bitI .xor .u32 (shlI .u32 (k 0) 1) (bitI .and .u32 135 (IntKind.u32.wrap (0 - shrI .u32 (k 3) 31)))
  | n + 1 => bitI .or .u32 (shlI .u32 (k (n + 1)) 1) (shrI .u32 (k n) 31)
theorem double_calls (k : Nat → Int) : PCalls Tryd.prog 77 [.agg (cI .u32 (tb 4 k))] (.agg (cI .u32 (tb 4 (doubleF k)))) := by
 refine PCalls.of_body tabOk Tryd.func77 rfl rfl rfl (by simp [AV.withinL, AV.within, cI_within]) (by simp [AV.within, cI_within]) mixed fun E hP C hI => ?_
 refine Awp.cons C (fun _ => .pure) (by kernel_rfl) ?_ -- region 0 false
 refine rvc_prim C rfl rfl rfl rfl trivial rfl ?_
 refine rvc_prim C rfl rfl rfl rfl trivial rfl ?_
 refine rvc_nil ?_
 refine Awp.cons C (fun _ => .pure) (by kernel_rfl) ?_ -- region 1 false
 refine rvc_prim C rfl rfl rfl rfl ⟨by decide, by decide⟩ rfl ?_
 refine rvc_prim C rfl rfl rfl rfl trivial rfl ?_
 refine rvc_prim C rfl rfl rfl rfl (by decide) rfl ?_
 refine rvc_prim C rfl rfl rfl rfl trivial rfl ?_
 refine rvc_nil ?_
 refine Awp.cons C (fun _ => .pure) (by kernel_rfl) ?_ -- region 2 false
 refine rvc_prim C rfl rfl rfl rfl ⟨by decide, by decide⟩ rfl ?_
 refine rvc_prim C rfl rfl rfl rfl trivial rfl ?_
 refine rvc_prim C rfl rfl rfl rfl (by decide) rfl ?_
 refine rvc_prim C rfl rfl rfl rfl trivial rfl ?_
 refine rvc_prim C rfl rfl rfl rfl trivial rfl ?_
 refine rvc_prim C rfl rfl rfl rfl trivial rfl ?_
 refine rvc_prim C rfl rfl rfl rfl trivial rfl ?_
 refine rvc_prim C rfl rfl rfl rfl ⟨by decide, by decide⟩ rfl ?_
 refine rvc_prim C rfl rfl rfl rfl trivial rfl ?_
 refine rvc_prim C rfl rfl rfl rfl (by decide) rfl ?_
 refine rvc_prim C rfl rfl rfl rfl ⟨by decide, by decide⟩ rfl ?_
 refine rvc_prim C rfl rfl rfl rfl trivial rfl ?_
 refine rvc_prim C rfl rfl rfl rfl (by decide) rfl ?_
 refine rvc_prim C rfl rfl rfl rfl trivial rfl ?_
 refine rvc_prim C rfl rfl rfl rfl ⟨by decide, by decide⟩ rfl ?_
 refine rvc_prim C rfl rfl rfl rfl trivial rfl ?_
 refine rvc_prim C rfl rfl rfl rfl (by decide) rfl ?_
 refine rvc_prim C rfl rfl rfl rfl ⟨by decide, by decide⟩ rfl ?_
 refine rvc_prim C rfl rfl rfl rfl trivial rfl ?_
 refine rvc_prim C rfl rfl rfl rfl (by decide) rfl ?_
 refine rvc_prim C rfl rfl rfl rfl trivial rfl ?_
 refine rvc_prim C rfl rfl rfl rfl ⟨by decide, by decide⟩ rfl ?_
 refine rvc_prim C rfl rfl rfl rfl trivial rfl ?_
 refine rvc_prim C rfl rfl rfl rfl (by decide) rfl ?_
 refine rvc_prim C rfl rfl rfl rfl ⟨by decide, by decide⟩ rfl ?_
 refine rvc_prim C rfl rfl rfl rfl trivial rfl ?_
 refine rvc_prim C rfl rfl rfl rfl (by decide) rfl ?_
 refine rvc_prim C rfl rfl rfl rfl trivial rfl ?_
 refine rvc_prim C rfl rfl rfl rfl trivial rfl ?_
 refine rvc_prim C rfl rfl rfl rfl trivial rfl ?_ -- t_ store 
 refine rvc_nil ?_
 refine Awp.ret ?_
 exact ⟨.inl rfl, rfl⟩
end Go.Proofs.YthnghkkbnhjlgaaDoor
namespace Go.Proofs.YthnghkkbnhjlgaaDoor
open Go.Am
def xorF (k l : Nat → Int) (t : Nat) : Int := bitI .xor .u32 (k t) (l t)
def xTab (k l : Nat → Int) (i t : Nat) : Int := if t < i then xorF k l t else k t
theorem xor_calls (k l : Nat → Int) : PCalls Tryd.prog 78 [.agg (cI .u32 (tb 4 k)), .agg (cI .u32 (tb 4 l))] (.agg (cI .u32 (tb 4 (xorF k l)))) := by
  refine PCalls.of_body tabOk Tryd.func78 rfl rfl rfl (by simp [AV.withinL, AV.within, cI_within]) (by simp [AV.within, cI_within]) mixed fun E hP C hI => ?_
  refine Awp.cons C (fun _ => .pure) (by kernel_rfl) ?_ -- region 0 false
  refine rvc_prim C rfl rfl rfl rfl trivial rfl ?_
  refine rvc_prim C rfl rfl rfl rfl trivial rfl ?_
  refine rvc_prim C rfl rfl rfl rfl trivial rfl ?_
  refine rvc_nil ?_
  refine Awp.seq ?_
  refine Awp.cons C (fun _ => .pure) (by kernel_rfl) ?_ -- region 1 false
  refine rvc_prim C rfl rfl rfl rfl trivial rfl ?_
  refine rvc_nil ?_
  refine Awp.block ?_ -- 0
  refine Awp.forN 4 (fun i => [(2, .ptr 2 0), (3, .ptr 3 0), (4, .ptr 4 0), (6, .pv (.lit (.int .i64 i)))]) (fun i => [(2, .cells (cI .u32 (tb 4 (xTab k l i)))), (3, .cells (cI .u32 (tb 4 l))), (4, .cells (cI .u32 (tb 4 fun _ => 0)))]) [2, 3, 4] ?_ (fun i hi => ?_) ?_
  · exact Weaker.of hI ⟨rfl, rfl, rfl, rfl, trivial⟩ ⟨rfl, rfl, rfl, trivial⟩ rfl (by simp [Blk.within, cI_within])
  · refine Awp.cons C (fun _ => .pure) (by kernel_rfl) ?_ -- region 2 false
    refine rvc_prim C rfl rfl rfl rfl trivial rfl ?_
    refine rvc_nil ?_
    refine Awp.seq ?_
    refine Awp.condT rfl (by simpa using (by omega : (i : Int) < 4)) (Awp.skip ?_)
    refine Awp.seq ?_
    refine Awp.block ?_ -- 1
    refine Awp.cons C (fun _ => .pure) (by kernel_rfl) ?_ -- region 3 false
    refine rvc_prim C rfl rfl rfl rfl trivial rfl ?_
    refine rvc_prim C rfl rfl rfl rfl trivial rfl ?_
    refine rvc_nil ?_
    refine Awp.regionP C ?_
    refine rvc_prim C rfl rfl rfl rfl trivial rfl ?_
    refine rvc_prim C rfl rfl rfl rfl ⟨by omega, by omega⟩ rfl ?_
    refine rvc_load C rfl rfl rfl rfl rfl (cI_at i (by simp) (by omega)) ?_
    refine rvc_prim C rfl rfl rfl rfl trivial rfl ?_
    refine rvc_prim C rfl rfl rfl rfl ⟨by omega, by omega⟩ rfl ?_
    refine rvc_load C rfl rfl rfl rfl rfl (cI_at i (by simp) (by omega)) ?_
    refine rvc_prim C rfl rfl rfl rfl trivial rfl ?_
    refine rvc_prim C rfl rfl rfl rfl ⟨by omega, by omega⟩ rfl ?_
    refine rvc_store C rfl rfl rfl rfl rfl (by rw [cI_len, tb_len]; show 0 + (i : Int).toNat * 1 < 4; omega) ?_ -- t_ store 
    refine rvc_nil ?_
    refine Awp.region C (fun _ => .pure) (by kernel_rfl) ?_ -- region 5 false
    refine rvc_prim C rfl rfl rfl rfl trivial rfl ?_
    refine rvc_prim C rfl rfl rfl rfl trivial rfl ?_
    refine rvc_nil ?_
    refine Weaker.of hI ⟨rfl, rfl, rfl, lit_cast (wrap_i64 (by omega) (by omega)), trivial⟩ ⟨?_, rfl, rfl, trivial⟩ rfl (by simp [Blk.within, cI_within])
    refine (congrArg (fun x => some (Blk.cells x)) (cI_set i (by simp))).trans (cells_cast fun t ht => ?_)
    simp only [xTab]
    by_cases h1 : t = i
    · subst h1; simp [xorF]
    · by_cases h2 : t < i
      · simp [h1, h2, Nat.lt_succ_of_lt h2]
      · have : ¬ t < i + 1 := by omega
        simp [h1, h2, this]
  · refine Awp.cons C (fun _ => .pure) (by kernel_rfl) ?_ -- region 2 false
    refine rvc_prim C rfl rfl rfl rfl trivial rfl ?_
    refine rvc_nil ?_
    refine Awp.seq ?_
    refine Awp.condF rfl rfl (Awp.exit ?_)
    refine Awp.cons C (fun _ => .pure) (by kernel_rfl) ?_ -- region 6 false
    refine rvc_prim C rfl rfl rfl rfl trivial rfl ?_
    refine rvc_prim C rfl rfl rfl rfl trivial rfl ?_ -- t_ store 
    refine rvc_nil ?_
    refine Awp.ret ?_
    exact ⟨.inl rfl, rfl⟩
def leftF (x n : Int) : Int := bitI .or .u32 (shlI .u32 x n) (shrI .u32 x (IntKind.i64.wrap (32 - n)))
theorem left_calls (x n : Int) (h : 0 ≤ n) (h2 : 0 ≤ IntKind.i64.wrap (32 - n)) : PCalls Tryd.prog 82 [.pv (.int .u32 x), .pv (.int .i64 n)] (.pv (.int .u32 (leftF x n))) := by
 refine PCalls.of_body tabOk Tryd.func82 rfl rfl rfl rfl rfl mixed fun E hP C hI => ?_
 refine Awp.consP C ?_
 refine rvc_prim C rfl rfl rfl rfl trivial rfl ?_
 refine rvc_nil ?_
 refine Awp.consP C ?_
 refine rvc_prim C rfl rfl rfl rfl trivial rfl ?_
 refine rvc_prim C rfl rfl rfl rfl trivial rfl ?_
 refine rvc_prim C rfl rfl rfl rfl h rfl ?_
 refine rvc_prim C rfl rfl rfl rfl trivial rfl ?_
 refine rvc_prim C rfl rfl rfl rfl trivial rfl ?_
 refine rvc_prim C rfl rfl rfl rfl trivial rfl ?_
 refine rvc_prim C rfl rfl rfl rfl h2 rfl ?_
 refine rvc_prim C rfl rfl rfl rfl trivial rfl ?_
 refine rvc_prim C rfl rfl rfl rfl trivial rfl ?_
 refine rvc_nil (Awp.ret ?_)
 exact ⟨.inl rfl, rfl⟩
def rndF (s : Nat → Int) : Nat → Int :=
  let a1 := IntKind.u32.wrap (s 0 + s 1)
  let c1 := IntKind.u32.wrap (s 2 + s 3)
  let b1 := bitI .xor .u32 (leftF (s 1) 5) a1
  let d1 := bitI .xor .u32 (leftF (s 3) 8) c1
  let a2 := IntKind.u32.wrap (leftF a1 16 + d1)
  let c2 := IntKind.u32.wrap (c1 + b1)
  let b2 := bitI .xor .u32 (leftF b1 7) c2
  let d2 := bitI .xor .u32 (leftF d1 13) a2
  let c3 := leftF c2 16
  fun t => match t with | 0 => a2 | 1 => b2 | 2 => c3 | _ => d2
def stirN (s : Nat → Int) : Nat → Nat → Int
  | 0 => s
  | n + 1 => rndF (stirN s n)
def stirF (s : Nat → Int) : Nat → Int := stirN s 12
theorem stir_calls (s : Nat → Int) : PCalls Tryd.prog 79 [.agg (cI .u32 (tb 4 s))] (.agg (cI .u32 (tb 4 (stirF s)))) := by
  refine PCalls.of_body tabOk Tryd.func79 rfl rfl rfl (by simp [AV.withinL, AV.within, cI_within]) (by simp [AV.within, cI_within]) mixed fun E hP C hI => ?_
  refine Awp.cons C (fun _ => .pure) (by kernel_rfl) ?_ -- region 0 false
  refine rvc_prim C rfl rfl rfl rfl trivial rfl ?_
  refine rvc_prim C rfl rfl rfl rfl trivial rfl ?_
  refine rvc_nil ?_
  refine Awp.consP C ?_
  refine rvc_prim C rfl rfl rfl rfl ⟨by decide, by decide⟩ rfl ?_
  refine rvc_prim C rfl rfl rfl rfl trivial rfl ?_
  refine rvc_prim C rfl rfl rfl rfl ⟨by decide, by decide⟩ rfl ?_
  refine rvc_prim C rfl rfl rfl rfl trivial rfl ?_
  refine rvc_prim C rfl rfl rfl rfl ⟨by decide, by decide⟩ rfl ?_
  refine rvc_prim C rfl rfl rfl rfl trivial rfl ?_
  refine rvc_prim C rfl rfl rfl rfl ⟨by decide, by decide⟩ rfl ?_
  refine rvc_prim C rfl rfl rfl rfl trivial rfl ?_
  refine rvc_prim C rfl rfl rfl rfl trivial rfl ?_
  refine rvc_prim C rfl rfl rfl rfl trivial rfl ?_
  refine rvc_prim C rfl rfl rfl rfl trivial rfl ?_
  refine rvc_prim C rfl rfl rfl rfl trivial rfl ?_
  refine rvc_nil ?_
  refine Awp.seq ?_
  refine Awp.cons C (fun _ => .pure) (by kernel_rfl) ?_ -- region 2 false
  refine rvc_prim C rfl rfl rfl rfl trivial rfl ?_
  refine rvc_nil ?_
  refine Awp.block ?_ -- 0
  refine Awp.forN 12 (fun i => [(2, .ptr 2 0), (3, .pv (.lit (.int .u32 (stirN s i 0)))), (4, .pv (.lit (.int .u32 (stirN s i 1)))), (5, .pv (.lit (.int .u32 (stirN s i 2)))), (6, .pv (.lit (.int .u32 (stirN s i 3)))), (15, .pv (.lit (.int .i64 i)))]) (fun i => [(2, .cells (cI .u32 (tb 4 fun _ => 0)))]) [2] ?_ (fun i hi => ?_) ?_
  · exact Weaker.of hI ⟨rfl, rfl, rfl, rfl, rfl, rfl, trivial⟩ ⟨rfl, trivial⟩ rfl (by simp [Blk.within, cI_within])
  · refine Awp.cons C (fun _ => .pure) (by kernel_rfl) ?_ -- region 3 false
    refine rvc_prim C rfl rfl rfl rfl trivial rfl ?_
    refine rvc_nil ?_
    refine Awp.seq ?_
    refine Awp.condT rfl (by simpa using (by omega : (i : Int) < 12)) (Awp.skip ?_)
    refine Awp.seq ?_
    refine Awp.block ?_ -- 1
    refine Awp.cons C (fun _ => .pure) (by kernel_rfl) ?_ -- region 4 false
    refine rvc_prim C rfl rfl rfl rfl trivial rfl ?_
    refine rvc_prim C rfl rfl rfl rfl trivial rfl ?_
    refine rvc_prim C rfl rfl rfl rfl trivial rfl ?_
    refine rvc_prim C rfl rfl rfl rfl trivial rfl ?_
    refine rvc_prim C rfl rfl rfl rfl trivial rfl ?_
    refine rvc_prim C rfl rfl rfl rfl trivial rfl ?_
    refine rvc_prim C rfl rfl rfl rfl trivial rfl ?_
    refine rvc_prim C rfl rfl rfl rfl trivial rfl ?_
    refine rvc_nil ?_
    refine Awp.cons C (fun _ => .pure) (by kernel_rfl) ?_ -- region 5 false
    refine rvc_prim C rfl rfl rfl rfl trivial rfl ?_
    refine rvc_call hP C rfl rfl rfl (left_calls _ 5 (by decide) (by decide)) ?_
    refine rvc_prim C rfl rfl rfl rfl trivial rfl ?_
    refine rvc_prim C rfl rfl rfl rfl trivial rfl ?_
    refine rvc_prim C rfl rfl rfl rfl trivial rfl ?_
    refine rvc_call hP C rfl rfl rfl (left_calls _ 8 (by decide) (by decide)) ?_
    refine rvc_prim C rfl rfl rfl rfl trivial rfl ?_
    refine rvc_prim C rfl rfl rfl rfl trivial rfl ?_
    refine rvc_prim C rfl rfl rfl rfl trivial rfl ?_
    refine rvc_prim C rfl rfl rfl rfl trivial rfl ?_
    refine rvc_nil ?_
    refine Awp.cons C (fun _ => .pure) (by kernel_rfl) ?_ -- region 6 false
    refine rvc_prim C rfl rfl rfl rfl trivial rfl ?_
    refine rvc_call hP C rfl rfl rfl (left_calls _ 16 (by decide) (by decide)) ?_
    refine rvc_prim C rfl rfl rfl rfl trivial rfl ?_
    refine rvc_prim C rfl rfl rfl rfl trivial rfl ?_
    refine rvc_prim C rfl rfl rfl rfl trivial rfl ?_
    refine rvc_prim C rfl rfl rfl rfl trivial rfl ?_
    refine rvc_prim C rfl rfl rfl rfl trivial rfl ?_
    refine rvc_prim C rfl rfl rfl rfl trivial rfl ?_
    refine rvc_prim C rfl rfl rfl rfl trivial rfl ?_
    refine rvc_nil ?_
    refine Awp.cons C (fun _ => .pure) (by kernel_rfl) ?_ -- region 7 false
    refine rvc_prim C rfl rfl rfl rfl trivial rfl ?_
    refine rvc_call hP C rfl rfl rfl (left_calls _ 7 (by decide) (by decide)) ?_
    refine rvc_prim C rfl rfl rfl rfl trivial rfl ?_
    refine rvc_prim C rfl rfl rfl rfl trivial rfl ?_
    refine rvc_prim C rfl rfl rfl rfl trivial rfl ?_
    refine rvc_call hP C rfl rfl rfl (left_calls _ 13 (by decide) (by decide)) ?_
    refine rvc_prim C rfl rfl rfl rfl trivial rfl ?_
    refine rvc_prim C rfl rfl rfl rfl trivial rfl ?_
    refine rvc_prim C rfl rfl rfl rfl trivial rfl ?_
    refine rvc_prim C rfl rfl rfl rfl trivial rfl ?_
    refine rvc_nil ?_
    refine Awp.region C (fun _ => .pure) (by kernel_rfl) ?_ -- region 8 false
    refine rvc_prim C rfl rfl rfl rfl trivial rfl ?_
    refine rvc_call hP C rfl rfl rfl (left_calls _ 16 (by decide) (by decide)) ?_
    refine rvc_prim C rfl rfl rfl rfl trivial rfl ?_
    refine rvc_nil ?_
    refine Awp.region C (fun _ => .pure) (by kernel_rfl) ?_ -- region 9 false
    refine rvc_prim C rfl rfl rfl rfl trivial rfl ?_
    refine rvc_prim C rfl rfl rfl rfl trivial rfl ?_
    refine rvc_nil ?_
    exact Weaker.of hI ⟨rfl, rfl, rfl, rfl, rfl, lit_cast (wrap_i64 (by omega) (by omega)), trivial⟩ ⟨rfl, trivial⟩ rfl (by simp [Blk.within, cI_within])
  · refine Awp.cons C (fun _ => .pure) (by kernel_rfl) ?_ -- region 3 false
    refine rvc_prim C rfl rfl rfl rfl trivial rfl ?_
    refine rvc_nil ?_
    refine Awp.seq ?_
    refine Awp.condF rfl rfl (Awp.exit ?_)
    refine Awp.cons C (fun _ => .pure) (by kernel_rfl) ?_ -- region 10 false
    refine rvc_prim C rfl rfl rfl rfl trivial rfl ?_
    refine rvc_prim C rfl rfl rfl rfl trivial rfl ?_
    refine rvc_prim C rfl rfl rfl rfl trivial rfl ?_
    refine rvc_prim C rfl rfl rfl rfl trivial rfl ?_
    refine rvc_prim C rfl rfl rfl rfl trivial rfl ?_
    refine rvc_prim C rfl rfl rfl rfl trivial rfl ?_ -- t_ store 
    refine rvc_nil ?_
    refine Awp.ret ?_
    exact ⟨.inl rfl, rfl⟩
end Go.Proofs.YthnghkkbnhjlgaaDoor
namespace Go.Proofs.YthnghkkbnhjlgaaDoor
open Go.Am
def bytesF (k : Nat → Int) (t : Nat) : Int := IntKind.u8.wrap (shrI .u32 (k (t / 4)) ((8 * (t % 4) : Nat) : Int))
def bTab (k : Nat → Int) (m t : Nat) : Int := if t < m then bytesF k t else 0
theorem bytes_calls (k : Nat → Int) : PCalls Tryd.prog 80 [.agg (cI .u32 (tb 4 k))] (.agg (cI .u8 (tb 16 (bytesF k)))) := by
  refine PCalls.of_body tabOk Tryd.func80 rfl rfl rfl (by simp [AV.withinL, AV.within, cI_within]) (by simp [AV.within, cI_within]) mixed fun E hP C hI => ?_
  refine Awp.cons C (fun _ => .pure) (by kernel_rfl) ?_ -- region 0 false
  refine rvc_prim C rfl rfl rfl rfl trivial rfl ?_
  refine rvc_prim C rfl rfl rfl rfl trivial rfl ?_
  refine rvc_nil ?_
  refine Awp.cons C (fun _ => .pure) (by kernel_rfl) ?_ -- region 1 false
  refine rvc_prim C rfl rfl rfl rfl trivial rfl ?_
  refine rvc_nil ?_
  refine Awp.seq ?_
  refine Awp.cons C (fun _ => .pure) (by kernel_rfl) ?_ -- region 2 false
  refine rvc_prim C rfl rfl rfl rfl trivial rfl ?_
  refine rvc_prim C rfl rfl rfl rfl trivial rfl ?_
  refine rvc_nil ?_
  refine Awp.block ?_ -- 0
  refine Awp.forN 4 (fun i => [(2, .ptr 2 0), (3, .ptr 3 0), (7, .agg (cI .u32 (tb 4 k))), (8, .pv (.lit (.int .i64 i)))]) (fun i => [(2, .cells (cI .u8 (tb 16 fun _ => 0))), (3, .cells (cI .u8 (tb 16 (bTab k (4 * i)))))]) [2, 3] ?_ (fun i hi => ?_) ?_
  · exact Weaker.of hI ⟨rfl, rfl, rfl, rfl, trivial⟩ ⟨rfl, rfl, trivial⟩ (by simp [AV.within, cI_within]) (by simp [Blk.within, cI_within])
  · refine Awp.cons C (fun _ => .pure) (by kernel_rfl) ?_ -- region 3 false
    refine rvc_prim C rfl rfl rfl rfl trivial rfl ?_
    refine rvc_nil ?_
    refine Awp.seq ?_
    refine Awp.condT rfl (by simpa using (by omega : (i : Int) < 4)) (Awp.skip ?_)
    refine Awp.seq ?_
    refine Awp.block ?_ -- 1
    refine Awp.cons C (fun _ => .pure) (by kernel_rfl) ?_ -- region 4 false
    refine rvc_prim C rfl rfl rfl rfl trivial rfl ?_
    refine rvc_index C rfl rfl rfl rfl rfl rfl ⟨by omega, by omega⟩ (cI_at i (by show (i : Int).toNat * 1 = i; omega) (by omega)) ?_
    refine rvc_prim C rfl rfl rfl rfl trivial rfl ?_
    refine rvc_prim C rfl rfl rfl rfl trivial rfl ?_
    refine rvc_nil ?_
    refine Awp.cons C (fun _ => .pure) (by kernel_rfl) ?_ -- region 5 false
    refine rvc_prim C rfl rfl rfl rfl trivial rfl ?_
    refine rvc_nil ?_
    refine Awp.block ?_ -- 2
    refine Awp.forN 4 (fun j => [(2, .ptr 2 0), (3, .ptr 3 0), (4, .pv (.lit (.int .i64 i))), (5, .pv (.lit (.int .u32 (k i)))), (7, .agg (cI .u32 (tb 4 k))), (8, .pv (.lit (.int .i64 i))), (12, .pv (.lit (.int .i64 j)))]) (fun j => [(2, .cells (cI .u8 (tb 16 fun _ => 0))), (3, .cells (cI .u8 (tb 16 (bTab k (4 * i + j)))))]) [2, 3] ?_ (fun j hj => ?_) ?_
    · exact Weaker.of hI ⟨rfl, rfl, rfl, rfl, rfl, rfl, rfl, trivial⟩ ⟨rfl, rfl, trivial⟩ (by simp [AV.within, cI_within]) (by simp [Blk.within, cI_within])
    · have m1 : IntKind.i64.wrap (4 * (i : Int)) = ((4 * i : Nat) : Int) := wrap_i64 (by omega) (by omega)
      have m2 : IntKind.i64.wrap (IntKind.i64.wrap (4 * (i : Int)) + (j : Int)) = ((4 * i + j : Nat) : Int) := by rw [m1]; exact wrap_i64 (by omega) (by omega)
      have m3 : IntKind.i64.wrap (8 * (j : Int)) = ((8 * j : Nat) : Int) := wrap_i64 (by omega) (by omega)
      refine Awp.cons C (fun _ => .pure) (by kernel_rfl) ?_ -- region 6 false
      refine rvc_prim C rfl rfl rfl rfl trivial rfl ?_
      refine rvc_nil ?_
      refine Awp.seq ?_
      refine Awp.condT rfl (by simpa using (by omega : (j : Int) < 4)) (Awp.skip ?_)
      refine Awp.seq ?_
      refine Awp.block ?_ -- 3
      refine Awp.cons C (fun _ => .pure) (by kernel_rfl) ?_ -- region 7 false
      refine rvc_prim C rfl rfl rfl rfl trivial rfl ?_
      refine rvc_prim C rfl rfl rfl rfl trivial rfl ?_
      refine rvc_nil ?_
      refine Awp.region C (fun _ => .pure) (by kernel_rfl) ?_ -- region 8 false
      refine rvc_prim C rfl rfl rfl rfl trivial rfl ?_
      refine rvc_prim C rfl rfl rfl rfl trivial rfl ?_
      refine rvc_prim C rfl rfl rfl rfl trivial rfl ?_
      refine rvc_prim C rfl rfl rfl rfl trivial rfl ?_
      refine rvc_prim C rfl rfl rfl rfl trivial rfl ?_
      refine rvc_prim C rfl rfl rfl rfl trivial rfl ?_
      refine rvc_prim C rfl rfl rfl rfl trivial rfl ?_
      refine rvc_prim C rfl rfl rfl rfl (by rw [m3]; omega) rfl ?_
      refine rvc_prim C rfl rfl rfl rfl trivial rfl ?_
      refine rvc_prim C rfl rfl rfl rfl ⟨by rw [m2]; omega, by rw [m2]; omega⟩ rfl ?_
      refine rvc_store C rfl rfl rfl rfl rfl (by rw [cI_len, tb_len, m2]; show 0 + ((4 * i + j : Nat) : Int).toNat * 1 < 16; omega) ?_ -- t_ store 
      refine rvc_nil ?_
      refine Awp.region C (fun _ => .pure) (by kernel_rfl) ?_ -- region 9 false
      refine rvc_prim C rfl rfl rfl rfl trivial rfl ?_
      refine rvc_prim C rfl rfl rfl rfl trivial rfl ?_
      refine rvc_nil ?_
      refine Weaker.of hI ⟨rfl, rfl, rfl, rfl, rfl, rfl, lit_cast (wrap_i64 (by omega) (by omega)), trivial⟩ ⟨rfl, ?_, trivial⟩ (by simp [AV.within, cI_within]) (by simp [Blk.within, cI_within])
      refine (congrArg (fun x => some (Blk.cells x)) (cI_set (4 * i + j) (by rw [m2]; show 0 + ((4 * i + j : Nat) : Int).toNat * 1 = _; omega))).trans (cells_cast fun t ht => ?_)
      simp only [bTab, m3]
      by_cases h1 : t = 4 * i + j
      · subst h1
        have e1 : (4 * i + j) / 4 = i := by omega
        have e2 : (4 * i + j) % 4 = j := by omega
        rw [if_pos rfl, if_pos (by omega)]
        simp only [bytesF, e1, e2]
      · rw [if_neg h1]
        by_cases h2 : t < 4 * i + j
        · rw [if_pos h2, if_pos (by omega)]
        · rw [if_neg h2, if_neg (by omega)]
    · refine Awp.cons C (fun _ => .pure) (by kernel_rfl) ?_ -- region 6 false
      refine rvc_prim C rfl rfl rfl rfl trivial rfl ?_
      refine rvc_nil ?_
      refine Awp.seq ?_
      refine Awp.condF rfl rfl (Awp.exit ?_)
      refine Awp.region C (fun _ => .pure) (by kernel_rfl) ?_ -- region 10 false
      refine rvc_prim C rfl rfl rfl rfl trivial rfl ?_
      refine rvc_prim C rfl rfl rfl rfl trivial rfl ?_
      refine rvc_nil ?_
      exact Weaker.of hI ⟨rfl, rfl, rfl, lit_cast (wrap_i64 (by omega) (by omega)), trivial⟩ ⟨rfl, rfl, trivial⟩ (by simp [AV.within, cI_within]) (by simp [Blk.within, cI_within])
  · refine Awp.cons C (fun _ => .pure) (by kernel_rfl) ?_ -- region 3 false
    refine rvc_prim C rfl rfl rfl rfl trivial rfl ?_
    refine rvc_nil ?_
    refine Awp.seq ?_
    refine Awp.condF rfl rfl (Awp.exit ?_)
    refine Awp.cons C (fun _ => .pure) (by kernel_rfl) ?_ -- region 11 false
    refine rvc_prim C rfl rfl rfl rfl trivial rfl ?_
    refine rvc_prim C rfl rfl rfl rfl trivial rfl ?_ -- t_ store 
    refine rvc_nil ?_
    refine Awp.ret ?_
    exact ⟨.inl rfl, rfl⟩
def blkF (D : List Int) (i t : Nat) : Int := D.getD (16 * i + t) 0
def stN (k : Nat → Int) (D : List Int) : Nat → Nat → Int
  | 0 => k
  | i + 1 => stirF (xorF (stN k D i) (wordsF (blkF D i)))
def lastF (D : List Int) (t : Nat) : Int :=
  let m := (D.length - 1) / 16
  let r := D.length - 16 * m
  if t = r then 1 else if t < r then blkF D m t else 0
def endF (k : Nat → Int) (D : List Int) : Nat → Int :=
  if D.length - 16 * ((D.length - 1) / 16) < 16 then doubleF (doubleF k) else doubleF k
def ofF (K D : List Int) : Nat → Int :=
  let k := wordsF fun t => K.getD t 0
  bytesF (xorF (stirF (xorF (xorF (stN k D ((D.length - 1) / 16)) (wordsF (lastF D))) (endF k D))) (endF k D))
theorem of_bad (fK fD : Option Bool) (K D : List Int) (h : K.length ≠ 16) : PCalls Tryd.prog 71 [sI fK .u8 K, sI fD .u8 D] (.tup [.agg (cI .u8 (tb 16 fun _ => 0)), .pv (.lit (.int .i64 1))]) := by
  refine PCalls.of_body tabOk Tryd.func71 rfl rfl rfl rfl rfl mixed fun E hP C hI => ?_
  refine Awp.cons C (fun _ => .pure) (by kernel_rfl) ?_ -- region 0 false
  refine rvc_prim C rfl rfl rfl rfl trivial rfl ?_
  refine rvc_prim C rfl rfl rfl rfl trivial rfl ?_
  refine rvc_nil ?_
  refine Awp.seq ?_
  refine Awp.cons C (fun _ => .pure) (by kernel_rfl) ?_ -- region 1 false
  refine rvc_prim C rfl rfl rfl rfl trivial rfl ?_
  refine rvc_prim C rfl rfl rfl rfl trivial rfl ?_
  refine rvc_prim C rfl rfl rfl rfl trivial rfl ?_
  refine rvc_nil ?_
  refine Awp.condT rfl (by simpa using (by omega : (K.length : Int) ≠ 16)) ?_
  refine Awp.cons C (fun _ => .pure) (by kernel_rfl) ?_ -- region 2 false
  refine rvc_prim C rfl rfl rfl rfl trivial rfl ?_
  refine rvc_prim C rfl rfl rfl rfl trivial rfl ?_ -- t_ store 
  refine rvc_prim C rfl rfl rfl rfl trivial rfl ?_
  refine rvc_nil ?_
  refine Awp.ret ?_
  exact ⟨.inl rfl, rfl⟩
end Go.Proofs.YthnghkkbnhjlgaaDoor
namespace Go.Proofs.YthnghkkbnhjlgaaDoor
open Go.Am
theorem blk_take {D : List Int} {i : Nat} (h : 16 * i + 16 ≤ D.length) : cI .u8 ((D.drop (16 * i)).take 16) = cI .u8 (tb 16 (blkF D i)) := by
  rw [cI_take (by simp; omega)]
  congr 1
  exact tb_congr fun t _ => by simp [blkF, List.getD_eq_getElem?_getD]
theorem of_good (fK fD : Option Bool) (K D : List Int) (h : K.length = 16) (hD : D.length ≤ 1000000000) : PCalls Tryd.prog 71 [sI fK .u8 K, sI fD .u8 D] (.tup [.agg (cI .u8 (tb 16 (ofF K D))), .pv (.lit (.int .i64 0))]) := by
  refine PCalls.of_body tabOk Tryd.func71 rfl rfl rfl rfl (by simp [AV.within, AV.withinL, cI_within]) mixed fun E hP C hI => ?_
  refine Awp.cons C (fun _ => .pure) (by kernel_rfl) ?_ -- region 0 false
  refine rvc_prim C rfl rfl rfl rfl trivial rfl ?_
  refine rvc_prim C rfl rfl rfl rfl trivial rfl ?_
  refine rvc_nil ?_
  refine Awp.seq ?_
  refine Awp.cons C (fun _ => .pure) (by kernel_rfl) ?_ -- region 1 false
  refine rvc_prim C rfl rfl rfl rfl trivial rfl ?_
  refine rvc_prim C rfl rfl rfl rfl trivial rfl ?_
  refine rvc_prim C rfl rfl rfl rfl trivial rfl ?_
  refine rvc_nil ?_
  refine Awp.condF rfl (by simpa using (by omega : (K.length : Int) = 16)) (Awp.skip ?_)
  refine Awp.cons C (fun _ => .pure) (by kernel_rfl) ?_ -- region 3 false
  refine rvc_prim C rfl rfl rfl rfl trivial rfl ?_
  refine rvc_primv C (.rp (pI .u8 (K.take 16))) rfl rfl rfl rfl ⟨by omega, by omega⟩ rfl (by simp [pI, List.map_take]) ?_
  refine rvc_loadArr C (cI .u8 (tb 16 fun t => K.getD t 0)) rfl rfl rfl rfl (by rw [pI_pv]; exact cI_take (by omega)) rfl (by decide) ?_
  refine rvc_call hP C rfl rfl rfl (words_calls _) ?_
  refine rvc_prim C rfl rfl rfl rfl trivial rfl ?_
  refine rvc_prim C rfl rfl rfl rfl trivial rfl ?_ -- t_ store 
  refine rvc_nil ?_
  refine Awp.cons C (fun _ => .pure) (by kernel_rfl) ?_ -- region 4 false
  refine rvc_prim C rfl rfl rfl rfl trivial rfl ?_
  refine rvc_call hP C rfl rfl rfl (double_calls _) ?_
  refine rvc_prim C rfl rfl rfl rfl trivial rfl ?_
  refine rvc_prim C rfl rfl rfl rfl trivial rfl ?_ -- t_ store 
  refine rvc_nil ?_
  refine Awp.cons C (fun _ => .pure) (by kernel_rfl) ?_ -- region 5 false
  refine rvc_prim C rfl rfl rfl rfl trivial rfl ?_
  refine rvc_call hP C rfl rfl rfl (double_calls _) ?_
  refine rvc_prim C rfl rfl rfl rfl trivial rfl ?_
  refine rvc_prim C rfl rfl rfl rfl trivial rfl ?_ -- t_ store 
  refine rvc_nil ?_
  refine Awp.cons C (fun _ => .pure) (by kernel_rfl) ?_ -- region 6 false
  refine rvc_prim C rfl rfl rfl rfl trivial rfl ?_
  refine rvc_prim C rfl rfl rfl rfl trivial rfl ?_
  refine rvc_prim C rfl rfl rfl rfl trivial rfl ?_ -- t_ store 
  refine rvc_nil ?_
  let k : Nat → Int := wordsF fun t => K.getD t 0
  refine Awp.seq ?_
  refine Awp.block ?_ -- 0
  refine Awp.forN ((D.length - 1) / 16) (fun i => [(1, sI fD .u8 (D.drop (16 * i))), (4, .ptr 4 0), (7, .ptr 7 0), (8, .ptr 8 0), (9, .ptr 9 0)]) (fun i => [(4, .cells (cI .u8 (tb 16 fun _ => 0))), (7, .cells (cI .u32 (tb 4 (doubleF k)))), (8, .cells (cI .u32 (tb 4 (doubleF (doubleF k))))), (9, .cells (cI .u32 (tb 4 (stN k D i))))]) [4, 7, 8, 9] ?_ (fun i hi => ?_) ?_
  · exact Weaker.of hI ⟨rfl, rfl, rfl, rfl, rfl, trivial⟩ ⟨rfl, rfl, rfl, rfl, trivial⟩ rfl (by simp [Blk.within, cI_within])
  · have hlen : (D.drop (16 * i)).length = D.length - 16 * i := by simp
    refine Awp.seq ?_
    refine Awp.cons C (fun _ => .pure) (by kernel_rfl) ?_ -- region 7 false
    refine rvc_prim C rfl rfl rfl rfl trivial rfl ?_
    refine rvc_prim C rfl rfl rfl rfl trivial rfl ?_
    refine rvc_prim C rfl rfl rfl rfl trivial rfl ?_
    refine rvc_nil ?_
    refine Awp.condT rfl (by rw [hlen]; simp; omega) (Awp.skip ?_)
    refine Awp.block ?_ -- 1
    refine Awp.consP C ?_
    refine rvc_prim C rfl rfl rfl rfl trivial rfl ?_
    refine rvc_prim C rfl rfl rfl rfl trivial rfl ?_
    refine rvc_primv C (sI fD .u8 ((D.drop (16 * i)).take 16)) rfl rfl rfl rfl ⟨by decide, by decide, by rw [hlen]; omega⟩ rfl (sI_cut 0 16 (by omega) (by rw [hlen]; omega) rfl rfl rfl) ?_
    refine rvc_primv C (.rp (pI .u8 ((D.drop (16 * i)).take 16))) rfl rfl rfl rfl ⟨by simp; omega, by omega⟩ rfl (by simp [pI, List.take_take]) ?_
    refine rvc_loadArr C (cI .u8 (tb 16 (blkF D i))) rfl rfl rfl rfl (by rw [pI_pv]; exact blk_take (by omega)) rfl (by decide) ?_
    refine rvc_call hP C rfl rfl rfl (words_calls _) ?_
    refine rvc_call hP C rfl rfl rfl (xor_calls _ _) ?_
    refine rvc_call hP C rfl rfl rfl (stir_calls _) ?_
    refine rvc_prim C rfl rfl rfl rfl trivial rfl ?_ -- t_ store 
    refine rvc_nil ?_
    refine Awp.region C (fun _ => .pure) (by kernel_rfl) ?_ -- region 9 false
    refine rvc_prim C rfl rfl rfl rfl trivial rfl ?_
    refine rvc_primv C (sI fD .u8 (D.drop (16 * (i + 1)))) rfl rfl rfl rfl ⟨by decide, by show (16 : Int) ≤ ((D.drop (16 * i)).length : Int); rw [hlen]; omega⟩ rfl ?_ ?_
    · refine (sI_cut 16 (D.drop (16 * i)).length (by rw [hlen]; omega) (by omega) rfl rfl rfl).trans ?_
      congr 1
      rw [List.take_of_length_le (by simp; omega), List.drop_drop]
      congr 1
    refine rvc_prim C rfl rfl rfl rfl trivial rfl ?_
    refine rvc_nil ?_
    exact Weaker.of hI ⟨rfl, rfl, rfl, rfl, rfl, trivial⟩ ⟨rfl, rfl, rfl, rfl, trivial⟩ rfl (by simp [Blk.within, cI_within])
  · have hlen : (D.drop (16 * ((D.length - 1) / 16))).length = D.length - 16 * ((D.length - 1) / 16) := by simp
    refine Awp.seq ?_
    refine Awp.cons C (fun _ => .pure) (by kernel_rfl) ?_ -- region 7 false
    refine rvc_prim C rfl rfl rfl rfl trivial rfl ?_
    refine rvc_prim C rfl rfl rfl rfl trivial rfl ?_
    refine rvc_prim C rfl rfl rfl rfl trivial rfl ?_
    refine rvc_nil ?_
    refine Awp.condF rfl (by rw [hlen]; simp; omega) (Awp.exit ?_)
    refine Awp.cons C (fun _ => .pure) (by kernel_rfl) ?_ -- region 10 false
    refine rvc_prim C rfl rfl rfl rfl trivial rfl ?_
    refine rvc_nil ?_
    refine Awp.cons C (fun _ => .pure) (by kernel_rfl) ?_ -- region 11 false
    refine rvc_prim C rfl rfl rfl rfl ⟨⟨by decide, by decide⟩, by decide, .inl rfl⟩ rfl ?_
    refine rvc_prim C rfl rfl rfl rfl trivial rfl ?_
    refine rvc_copy C rfl rfl rfl rfl rfl rfl rfl rfl (by rw [pI_len]; exact (Nat.mul_one _).symm) (by show 0 + min _ 16 * 1 ≤ 16; omega) ?_ ?_
    · rw [pI_pv]; exact flat_take _ _ _
    refine rvc_nil ?_
    refine Awp.weaken (S := [(1, sI fD .u8 (D.drop (16 * ((D.length - 1) / 16)))), (4, .ptr 4 0), (7, .ptr 7 0), (8, .ptr 8 0), (9, .ptr 9 0), (10, .ptr 10 0)]) (H := [(4, .cells (cI .u8 (tb 16 fun _ => 0))), (7, .cells (cI .u32 (tb 4 (doubleF k)))), (8, .cells (cI .u32 (tb 4 (doubleF (doubleF k))))), (9, .cells (cI .u32 (tb 4 (stN k D ((D.length - 1) / 16))))), (10, .cells (cI .u8 (tb 16 fun t => if t < D.length - 16 * ((D.length - 1) / 16) then blkF D ((D.length - 1) / 16) t else 0)))]) (U := [4, 7, 8, 9, 10]) (Weaker.of hI ⟨rfl, rfl, rfl, rfl, rfl, rfl, trivial⟩ ⟨rfl, rfl, rfl, rfl, ?_, trivial⟩ rfl (by simp [Blk.within, cI_within])) ?_
    · refine congrArg (fun x => some (Blk.cells x)) ?_
      rw [pI_pv]
      refine (cI_copy (k := .u8) (m := 16) (f := fun _ => 0) (R := D.drop (16 * ((D.length - 1) / 16))) (j := min (D.drop (16 * ((D.length - 1) / 16))).length 16 * 1) (by omega) (by omega)).trans ?_
      congr 1
      refine tb_congr fun t ht => ?_
      rw [hlen]
      by_cases h1 : t < D.length - 16 * ((D.length - 1) / 16)
      · rw [if_pos (by omega), if_pos h1]; simp [blkF, List.getD_eq_getElem?_getD]
      · rw [if_neg (by omega), if_neg h1]
    have hrle : D.length - 16 * ((D.length - 1) / 16) ≤ 16 := by omega
    have hend : endF k D = if D.length - 16 * ((D.length - 1) / 16) < 16 then doubleF (doubleF k) else doubleF k := rfl
    have hlast : ∀ t, lastF D t = if t = D.length - 16 * ((D.length - 1) / 16) then 1 else if t < D.length - 16 * ((D.length - 1) / 16) then blkF D ((D.length - 1) / 16) t else 0 := fun _ => rfl
    have hof : ofF K D = bytesF (xorF (stirF (xorF (xorF (stN k D ((D.length - 1) / 16)) (wordsF (lastF D))) (endF k D))) (endF k D)) := rfl
    rw [hof]
    generalize (D.length - 1) / 16 = m at *
    refine Awp.cons C (fun _ => .pure) (by kernel_rfl) ?_ -- region 12 false
    refine rvc_prim C rfl rfl rfl rfl trivial rfl ?_
    refine rvc_prim C rfl rfl rfl rfl trivial rfl ?_
    refine rvc_prim C rfl rfl rfl rfl trivial rfl ?_ -- t_ store 
    refine rvc_nil ?_
    refine Awp.seq_mid [(4, .ptr 4 0), (9, .ptr 9 0), (10, .ptr 10 0), (11, .ptr 11 0)] [(4, .cells (cI .u8 (tb 16 fun _ => 0))), (9, .cells (cI .u32 (tb 4 (stN k D m)))), (10, .cells (cI .u8 (tb 16 (lastF D)))), (11, .cells (cI .u32 (tb 4 (endF k D))))] [4, 9, 10, 11] ?_ ?_
    · refine Awp.cons C (fun _ => .pure) (by kernel_rfl) ?_ -- region 13 false
      refine rvc_prim C rfl rfl rfl rfl trivial rfl ?_
      refine rvc_prim C rfl rfl rfl rfl trivial rfl ?_
      refine rvc_prim C rfl rfl rfl rfl trivial rfl ?_
      refine rvc_nil ?_
      refine Awp.cond rfl (fun hc => ?_) (fun hc => ?_)
      · have hr : D.length - 16 * m < 16 := by rw [hlen] at hc; simp at hc; omega
        refine Awp.cons C (fun _ => .pure) (by kernel_rfl) ?_ -- region 14 false
        refine rvc_prim C rfl rfl rfl rfl trivial rfl ?_
        refine rvc_prim C rfl rfl rfl rfl trivial rfl ?_
        refine rvc_prim C rfl rfl rfl rfl ⟨by omega, by rw [hlen]; omega⟩ rfl ?_
        refine rvc_store C rfl rfl rfl rfl rfl (by rw [cI_len, tb_len, hlen]; show 0 + ((D.length - 16 * m : Nat) : Int).toNat * 1 < 16; omega) ?_ -- t_ store 
        refine rvc_nil ?_
        refine Awp.region C (fun _ => .pure) (by kernel_rfl) ?_ -- region 15 false
        refine rvc_prim C rfl rfl rfl rfl trivial rfl ?_
        refine rvc_prim C rfl rfl rfl rfl trivial rfl ?_ -- t_ store 
        refine rvc_nil ?_
        refine Weaker.of hI ⟨rfl, rfl, rfl, rfl, trivial⟩ ⟨rfl, rfl, ?_, ?_, trivial⟩ rfl (by simp [Blk.within, cI_within])
        · refine (congrArg (fun x => some (Blk.cells x)) (cI_set (D.length - 16 * m) (by rw [hlen]; show 0 + ((D.length - 16 * m : Nat) : Int).toNat * 1 = _; omega))).trans (cells_cast fun t ht => ?_)
          rw [hlast]
        · rw [hend, if_pos hr]; rfl
      · have hr : D.length - 16 * m = 16 := by rw [hlen] at hc; simp at hc; omega
        refine Awp.skip ?_
        refine Weaker.of hI ⟨rfl, rfl, rfl, rfl, trivial⟩ ⟨rfl, rfl, ?_, ?_, trivial⟩ rfl (by simp [Blk.within, cI_within])
        · refine cells_cast fun t ht => ?_
          rw [hlast, hr]
          have : t ≠ 16 := by omega
          simp [this]
        · rw [hend, if_neg (by omega)]; rfl
    refine Awp.consP C ?_
    refine rvc_prim C rfl rfl rfl rfl trivial rfl ?_
    refine rvc_prim C rfl rfl rfl rfl trivial rfl ?_
    refine rvc_call hP C rfl rfl rfl (words_calls _) ?_
    refine rvc_call hP C rfl rfl rfl (xor_calls _ _) ?_
    refine rvc_prim C rfl rfl rfl rfl trivial rfl ?_
    refine rvc_call hP C rfl rfl rfl (xor_calls _ _) ?_
    refine rvc_call hP C rfl rfl rfl (stir_calls _) ?_
    refine rvc_prim C rfl rfl rfl rfl trivial rfl ?_
    refine rvc_call hP C rfl rfl rfl (xor_calls _ _) ?_
    refine rvc_call hP C rfl rfl rfl (bytes_calls _) ?_
    refine rvc_prim C rfl rfl rfl rfl trivial rfl ?_ -- t_ store 
    refine rvc_prim C rfl rfl rfl rfl trivial rfl ?_
    refine rvc_nil ?_
    refine Awp.ret ?_
    exact ⟨.inl rfl, rfl⟩
end Go.Proofs.YthnghkkbnhjlgaaDoor
namespace Go.Proofs.YthnghkkbnhjlgaaDoor
open Go.Am
theorem wrap_u32 (n : Int) : IntKind.u32.wrap n = n % 4294967296 := by
  simp [IntKind.wrap, IntKind.bits, IntKind.signed]
theorem wrap_u8 (n : Int) : IntKind.u8.wrap n = n % 256 := by
  simp [IntKind.wrap, IntKind.bits, IntKind.signed]
theorem wrap_u64 (n : Int) : IntKind.u64.wrap n = n % 18446744073709551616 := by
  simp [IntKind.wrap, IntKind.bits, IntKind.signed]
def R32 (x : Int) : Prop := 0 ≤ x ∧ x < 4294967296
def R8 (x : Int) : Prop := 0 ≤ x ∧ x < 256
theorem R32.wrap (n : Int) : R32 (IntKind.u32.wrap n) := by
  rw [wrap_u32]; constructor <;> omega
theorem R32.bit (op : BinOp) (x y : Int) : R32 (bitI op .u32 x y) := R32.wrap _
theorem R32.nat {x : Int} (h : R32 x) : ∃ m : Nat, x = m ∧ m < 4294967296 := ⟨x.toNat, by have := h.1; omega, by have := h.1; have := h.2; omega⟩
theorem bv32 (a : Nat) (h : a < 4294967296) : (BitVec.ofInt 32 (a : Int)).toNat = a := by
  rw [BitVec.toNat_ofInt]
  have : ((2 ^ 32 : Nat) : Int) = 4294967296 := by decide
  rw [this]; omega
theorem or_u32 {a b : Nat} (ha : a < 4294967296) (hb : b < 4294967296) : bitI .or .u32 a b = ((a ||| b : Nat) : Int) := by
  have : a ||| b < 4294967296 := Nat.or_lt_two_pow (n := 32) ha hb
  show IntKind.u32.wrap (((BitVec.ofInt 32 (a : Int) ||| BitVec.ofInt 32 (b : Int) : BitVec 32).toNat : Nat) : Int) = _
  rw [BitVec.toNat_or, bv32 a ha, bv32 b hb, wrap_u32]; omega
theorem xor_u32 {a b : Nat} (ha : a < 4294967296) (hb : b < 4294967296) : bitI .xor .u32 a b = ((a ^^^ b : Nat) : Int) := by
  have : a ^^^ b < 4294967296 := Nat.xor_lt_two_pow (n := 32) ha hb
  show IntKind.u32.wrap (((BitVec.ofInt 32 (a : Int) ^^^ BitVec.ofInt 32 (b : Int) : BitVec 32).toNat : Nat) : Int) = _
  rw [BitVec.toNat_xor, bv32 a ha, bv32 b hb, wrap_u32]; omega
/-- Or of what has no bit in common is a sum. -/
theorem or_add (i a b : Nat) (hb : b < 2 ^ i) : (2 ^ i * a ||| b) = 2 ^ i * a + b := (Nat.two_pow_add_eq_or_of_lt hb a).symm
/-- A word turned left, by numbers. -/
theorem left_eq {x : Int} (hx : R32 x) (p q : Nat) (n : Nat) (hn : n ≤ 32) (hp : p = 2 ^ n) (hq : q = 2 ^ (32 - n)) : leftF x n = (x % q) * p + x / q := by
  obtain ⟨m, rfl, hm⟩ := hx.nat
  subst hp hq
  have e0 : IntKind.i64.wrap (32 - (n : Int)) = ((32 - n : Nat) : Int) := by
    rw [wrap_i64 (by omega) (by omega)]; omega
  have hpq : 2 ^ (32 - n) * 2 ^ n = 4294967296 := by rw [← Nat.pow_add, Nat.sub_add_cancel hn]
  have e1 : shlI .u32 (m : Int) n = ((2 ^ n * (m % 2 ^ (32 - n)) : Nat) : Int) := by
    simp only [shlI, IntKind.bits, Int.toNat_natCast, Nat.min_eq_left hn, wrap_u32]
    have : ((m : Int) * 2 ^ n) = ((m * 2 ^ n : Nat) : Int) := by simp
    rw [this, show (4294967296 : Int) = ((4294967296 : Nat) : Int) by rfl, ← Int.natCast_emod, ← hpq, Nat.mul_mod_mul_right, Nat.mul_comm]
  have e2 : shrI .u32 (m : Int) (IntKind.i64.wrap (32 - (n : Int))) = ((m / 2 ^ (32 - n) : Nat) : Int) := by
    rw [e0]
    simp only [shrI, IntKind.bits, Int.toNat_natCast]
    rw [Nat.min_eq_left (by omega)]; simp
  have h1 : m / 2 ^ (32 - n) < 2 ^ n := by
    rw [Nat.div_lt_iff_lt_mul (Nat.two_pow_pos _), Nat.mul_comm, hpq]; exact hm
  have h2 : 2 ^ n * (m % 2 ^ (32 - n)) < 4294967296 := by
    rw [← hpq, Nat.mul_comm]
    exact Nat.mul_lt_mul_of_pos_right (Nat.mod_lt _ (Nat.two_pow_pos _)) (Nat.two_pow_pos _)
  have h3 : 2 ^ n ≤ 4294967296 := by rw [← hpq]; exact Nat.le_mul_of_pos_left _ (Nat.two_pow_pos _)
  rw [leftF, e1, e2, or_u32 h2 (by omega), or_add n _ _ h1]
  simp only [Int.natCast_add, Int.natCast_mul, Int.natCast_emod, Int.natCast_ediv]
  rw [Int.mul_comm]
/-- The document's turning: one step. -/
def turn1 (x : Int) : Int := IntKind.u32.wrap (IntKind.u32.wrap (2 * x) + IntKind.u32.wrap (x.tdiv 2147483648))
def turnN (x : Int) : Nat → Int
  | 0 => x
  | i + 1 => turn1 (turnN x i)
theorem turn1_eq {x : Int} (hx : R32 x) : turn1 x = (2 * x) % 4294967296 + x / 2147483648 := by
  obtain ⟨h0, h1⟩ := hx
  simp only [turn1, wrap_u32]
  rw [Int.tdiv_eq_ediv_of_nonneg h0]
  omega
theorem turn1_lo {x : Int} (hx : R32 x) (h : x < 2147483648) : turn1 x = 2 * x := by
  rw [turn1_eq hx]; obtain ⟨h0, h1⟩ := hx
  have : x / 2147483648 = 0 := by omega
  rw [this]; omega
theorem turn1_hi {x : Int} (hx : R32 x) (h : 2147483648 ≤ x) : turn1 x = 2 * x - 4294967295 := by
  rw [turn1_eq hx]; obtain ⟨h0, h1⟩ := hx
  have : x / 2147483648 = 1 := by omega
  rw [this]; omega
theorem R32.turn_1 (x : Int) : R32 (turn1 x) := R32.wrap _
theorem R32.turnN {x : Int} (hx : R32 x) : ∀ i, R32 (turnN x i)
  | 0 => hx
  | _ + 1 => R32.turn_1 _
theorem turn_0 {x : Int} (hx : R32 x) : turnN x 0 = (x % 4294967296) * 1 + x / 4294967296 := by
  obtain ⟨h0, h1⟩ := hx
  simp only [YthnghkkbnhjlgaaDoor.turnN]; omega
theorem turn_1 {x : Int} (hx : R32 x) : turnN x 1 = (x % 2147483648) * 2 + x / 2147483648 := by
  show turn1 (turnN x 0) = _
  have hr := hx.turnN 0
  have hy := turn_0 hx
  obtain ⟨h0, h1⟩ := hx
  have e1 : x % 4294967296 = (x / 2147483648 % 2) * 2147483648 + x % 2147483648 := by omega
  have e2 : x / 4294967296 = x / 2147483648 / 2 := by omega
  rw [e1, e2] at hy
  have b1 : 0 ≤ x % 2147483648 ∧ x % 2147483648 < 2147483648 := by omega
  have b2 : 0 ≤ x / 2147483648 ∧ x / 2147483648 < 2 := by omega
  generalize x % 2147483648 = l at *
  generalize x / 2147483648 = a at *
  rcases (by omega : a % 2 = 0 ∨ a % 2 = 1) with h | h
  · rw [h] at hy; rw [turn1_lo hr (by omega)]; omega
  · rw [h] at hy; rw [turn1_hi hr (by omega)]; omega
theorem turn_2 {x : Int} (hx : R32 x) : turnN x 2 = (x % 1073741824) * 4 + x / 1073741824 := by
  show turn1 (turnN x 1) = _
  have hr := hx.turnN 1
  have hy := turn_1 hx
  obtain ⟨h0, h1⟩ := hx
  have e1 : x % 2147483648 = (x / 1073741824 % 2) * 1073741824 + x % 1073741824 := by omega
  have e2 : x / 2147483648 = x / 1073741824 / 2 := by omega
  rw [e1, e2] at hy
  have b1 : 0 ≤ x % 1073741824 ∧ x % 1073741824 < 1073741824 := by omega
  have b2 : 0 ≤ x / 1073741824 ∧ x / 1073741824 < 4 := by omega
  generalize x % 1073741824 = l at *
  generalize x / 1073741824 = a at *
  rcases (by omega : a % 2 = 0 ∨ a % 2 = 1) with h | h
  · rw [h] at hy; rw [turn1_lo hr (by omega)]; omega
  · rw [h] at hy; rw [turn1_hi hr (by omega)]; omega
theorem turn_3 {x : Int} (hx : R32 x) : turnN x 3 = (x % 536870912) * 8 + x / 536870912 := by
  show turn1 (turnN x 2) = _
  have hr := hx.turnN 2
  have hy := turn_2 hx
  obtain ⟨h0, h1⟩ := hx
  have e1 : x % 1073741824 = (x / 536870912 % 2) * 536870912 + x % 536870912 := by omega
  have e2 : x / 1073741824 = x / 536870912 / 2 := by omega
  rw [e1, e2] at hy
  have b1 : 0 ≤ x % 536870912 ∧ x % 536870912 < 536870912 := by omega
  have b2 : 0 ≤ x / 536870912 ∧ x / 536870912 < 8 := by omega
  generalize x % 536870912 = l at *
  generalize x / 536870912 = a at *
  rcases (by omega : a % 2 = 0 ∨ a % 2 = 1) with h | h
  · rw [h] at hy; rw [turn1_lo hr (by omega)]; omega
  · rw [h] at hy; rw [turn1_hi hr (by omega)]; omega
theorem turn_4 {x : Int} (hx : R32 x) : turnN x 4 = (x % 268435456) * 16 + x / 268435456 := by
  show turn1 (turnN x 3) = _
  have hr := hx.turnN 3
  have hy := turn_3 hx
  obtain ⟨h0, h1⟩ := hx
  have e1 : x % 536870912 = (x / 268435456 % 2) * 268435456 + x % 268435456 := by omega
  have e2 : x / 536870912 = x / 268435456 / 2 := by omega
  rw [e1, e2] at hy
  have b1 : 0 ≤ x % 268435456 ∧ x % 268435456 < 268435456 := by omega
  have b2 : 0 ≤ x / 268435456 ∧ x / 268435456 < 16 := by omega
  generalize x % 268435456 = l at *
  generalize x / 268435456 = a at *
  rcases (by omega : a % 2 = 0 ∨ a % 2 = 1) with h | h
  · rw [h] at hy; rw [turn1_lo hr (by omega)]; omega
  · rw [h] at hy; rw [turn1_hi hr (by omega)]; omega
theorem turn_5 {x : Int} (hx : R32 x) : turnN x 5 = (x % 134217728) * 32 + x / 134217728 := by
  show turn1 (turnN x 4) = _
  have hr := hx.turnN 4
  have hy := turn_4 hx
  obtain ⟨h0, h1⟩ := hx
  have e1 : x % 268435456 = (x / 134217728 % 2) * 134217728 + x % 134217728 := by omega
  have e2 : x / 268435456 = x / 134217728 / 2 := by omega
  rw [e1, e2] at hy
  have b1 : 0 ≤ x % 134217728 ∧ x % 134217728 < 134217728 := by omega
  have b2 : 0 ≤ x / 134217728 ∧ x / 134217728 < 32 := by omega
  generalize x % 134217728 = l at *
  generalize x / 134217728 = a at *
  rcases (by omega : a % 2 = 0 ∨ a % 2 = 1) with h | h
  · rw [h] at hy; rw [turn1_lo hr (by omega)]; omega
  · rw [h] at hy; rw [turn1_hi hr (by omega)]; omega
theorem turn_6 {x : Int} (hx : R32 x) : turnN x 6 = (x % 67108864) * 64 + x / 67108864 := by
  show turn1 (turnN x 5) = _
  have hr := hx.turnN 5
  have hy := turn_5 hx
  obtain ⟨h0, h1⟩ := hx
  have e1 : x % 134217728 = (x / 67108864 % 2) * 67108864 + x % 67108864 := by omega
  have e2 : x / 134217728 = x / 67108864 / 2 := by omega
  rw [e1, e2] at hy
  have b1 : 0 ≤ x % 67108864 ∧ x % 67108864 < 67108864 := by omega
  have b2 : 0 ≤ x / 67108864 ∧ x / 67108864 < 64 := by omega
  generalize x % 67108864 = l at *
  generalize x / 67108864 = a at *
  rcases (by omega : a % 2 = 0 ∨ a % 2 = 1) with h | h
  · rw [h] at hy; rw [turn1_lo hr (by omega)]; omega
  · rw [h] at hy; rw [turn1_hi hr (by omega)]; omega
theorem turn_7 {x : Int} (hx : R32 x) : turnN x 7 = (x % 33554432) * 128 + x / 33554432 := by
  show turn1 (turnN x 6) = _
  have hr := hx.turnN 6
  have hy := turn_6 hx
  obtain ⟨h0, h1⟩ := hx
  have e1 : x % 67108864 = (x / 33554432 % 2) * 33554432 + x % 33554432 := by omega
  have e2 : x / 67108864 = x / 33554432 / 2 := by omega
  rw [e1, e2] at hy
  have b1 : 0 ≤ x % 33554432 ∧ x % 33554432 < 33554432 := by omega
  have b2 : 0 ≤ x / 33554432 ∧ x / 33554432 < 128 := by omega
  generalize x % 33554432 = l at *
  generalize x / 33554432 = a at *
  rcases (by omega : a % 2 = 0 ∨ a % 2 = 1) with h | h
  · rw [h] at hy; rw [turn1_lo hr (by omega)]; omega
  · rw [h] at hy; rw [turn1_hi hr (by omega)]; omega
theorem turn_8 {x : Int} (hx : R32 x) : turnN x 8 = (x % 16777216) * 256 + x / 16777216 := by
  show turn1 (turnN x 7) = _
  have hr := hx.turnN 7
  have hy := turn_7 hx
  obtain ⟨h0, h1⟩ := hx
  have e1 : x % 33554432 = (x / 16777216 % 2) * 16777216 + x % 16777216 := by omega
  have e2 : x / 33554432 = x / 16777216 / 2 := by omega
  rw [e1, e2] at hy
  have b1 : 0 ≤ x % 16777216 ∧ x % 16777216 < 16777216 := by omega
  have b2 : 0 ≤ x / 16777216 ∧ x / 16777216 < 256 := by omega
  generalize x % 16777216 = l at *
  generalize x / 16777216 = a at *
  rcases (by omega : a % 2 = 0 ∨ a % 2 = 1) with h | h
  · rw [h] at hy; rw [turn1_lo hr (by omega)]; omega
  · rw [h] at hy; rw [turn1_hi hr (by omega)]; omega
theorem turn_9 {x : Int} (hx : R32 x) : turnN x 9 = (x % 8388608) * 512 + x / 8388608 := by
  show turn1 (turnN x 8) = _
  have hr := hx.turnN 8
  have hy := turn_8 hx
  obtain ⟨h0, h1⟩ := hx
  have e1 : x % 16777216 = (x / 8388608 % 2) * 8388608 + x % 8388608 := by omega
  have e2 : x / 16777216 = x / 8388608 / 2 := by omega
  rw [e1, e2] at hy
  have b1 : 0 ≤ x % 8388608 ∧ x % 8388608 < 8388608 := by omega
  have b2 : 0 ≤ x / 8388608 ∧ x / 8388608 < 512 := by omega
  generalize x % 8388608 = l at *
  generalize x / 8388608 = a at *
  rcases (by omega : a % 2 = 0 ∨ a % 2 = 1) with h | h
  · rw [h] at hy; rw [turn1_lo hr (by omega)]; omega
  · rw [h] at hy; rw [turn1_hi hr (by omega)]; omega
theorem turn_10 {x : Int} (hx : R32 x) : turnN x 10 = (x % 4194304) * 1024 + x / 4194304 := by
  show turn1 (turnN x 9) = _
  have hr := hx.turnN 9
  have hy := turn_9 hx
  obtain ⟨h0, h1⟩ := hx
  have e1 : x % 8388608 = (x / 4194304 % 2) * 4194304 + x % 4194304 := by omega
  have e2 : x / 8388608 = x / 4194304 / 2 := by omega
  rw [e1, e2] at hy
  have b1 : 0 ≤ x % 4194304 ∧ x % 4194304 < 4194304 := by omega
  have b2 : 0 ≤ x / 4194304 ∧ x / 4194304 < 1024 := by omega
  generalize x % 4194304 = l at *
  generalize x / 4194304 = a at *
  rcases (by omega : a % 2 = 0 ∨ a % 2 = 1) with h | h
  · rw [h] at hy; rw [turn1_lo hr (by omega)]; omega
  · rw [h] at hy; rw [turn1_hi hr (by omega)]; omega
theorem turn_11 {x : Int} (hx : R32 x) : turnN x 11 = (x % 2097152) * 2048 + x / 2097152 := by
  show turn1 (turnN x 10) = _
  have hr := hx.turnN 10
  have hy := turn_10 hx
  obtain ⟨h0, h1⟩ := hx
  have e1 : x % 4194304 = (x / 2097152 % 2) * 2097152 + x % 2097152 := by omega
  have e2 : x / 4194304 = x / 2097152 / 2 := by omega
  rw [e1, e2] at hy
  have b1 : 0 ≤ x % 2097152 ∧ x % 2097152 < 2097152 := by omega
  have b2 : 0 ≤ x / 2097152 ∧ x / 2097152 < 2048 := by omega
  generalize x % 2097152 = l at *
  generalize x / 2097152 = a at *
  rcases (by omega : a % 2 = 0 ∨ a % 2 = 1) with h | h
  · rw [h] at hy; rw [turn1_lo hr (by omega)]; omega
  · rw [h] at hy; rw [turn1_hi hr (by omega)]; omega
theorem turn_12 {x : Int} (hx : R32 x) : turnN x 12 = (x % 1048576) * 4096 + x / 1048576 := by
  show turn1 (turnN x 11) = _
  have hr := hx.turnN 11
  have hy := turn_11 hx
  obtain ⟨h0, h1⟩ := hx
  have e1 : x % 2097152 = (x / 1048576 % 2) * 1048576 + x % 1048576 := by omega
  have e2 : x / 2097152 = x / 1048576 / 2 := by omega
  rw [e1, e2] at hy
  have b1 : 0 ≤ x % 1048576 ∧ x % 1048576 < 1048576 := by omega
  have b2 : 0 ≤ x / 1048576 ∧ x / 1048576 < 4096 := by omega
  generalize x % 1048576 = l at *
  generalize x / 1048576 = a at *
  rcases (by omega : a % 2 = 0 ∨ a % 2 = 1) with h | h
  · rw [h] at hy; rw [turn1_lo hr (by omega)]; omega
  · rw [h] at hy; rw [turn1_hi hr (by omega)]; omega
theorem turn_13 {x : Int} (hx : R32 x) : turnN x 13 = (x % 524288) * 8192 + x / 524288 := by
  show turn1 (turnN x 12) = _
  have hr := hx.turnN 12
  have hy := turn_12 hx
  obtain ⟨h0, h1⟩ := hx
  have e1 : x % 1048576 = (x / 524288 % 2) * 524288 + x % 524288 := by omega
  have e2 : x / 1048576 = x / 524288 / 2 := by omega
  rw [e1, e2] at hy
  have b1 : 0 ≤ x % 524288 ∧ x % 524288 < 524288 := by omega
  have b2 : 0 ≤ x / 524288 ∧ x / 524288 < 8192 := by omega
  generalize x % 524288 = l at *
  generalize x / 524288 = a at *
  rcases (by omega : a % 2 = 0 ∨ a % 2 = 1) with h | h
  · rw [h] at hy; rw [turn1_lo hr (by omega)]; omega
  · rw [h] at hy; rw [turn1_hi hr (by omega)]; omega
theorem turn_14 {x : Int} (hx : R32 x) : turnN x 14 = (x % 262144) * 16384 + x / 262144 := by
  show turn1 (turnN x 13) = _
  have hr := hx.turnN 13
  have hy := turn_13 hx
  obtain ⟨h0, h1⟩ := hx
  have e1 : x % 524288 = (x / 262144 % 2) * 262144 + x % 262144 := by omega
  have e2 : x / 524288 = x / 262144 / 2 := by omega
  rw [e1, e2] at hy
  have b1 : 0 ≤ x % 262144 ∧ x % 262144 < 262144 := by omega
  have b2 : 0 ≤ x / 262144 ∧ x / 262144 < 16384 := by omega
  generalize x % 262144 = l at *
  generalize x / 262144 = a at *
  rcases (by omega : a % 2 = 0 ∨ a % 2 = 1) with h | h
  · rw [h] at hy; rw [turn1_lo hr (by omega)]; omega
  · rw [h] at hy; rw [turn1_hi hr (by omega)]; omega
theorem turn_15 {x : Int} (hx : R32 x) : turnN x 15 = (x % 131072) * 32768 + x / 131072 := by
  show turn1 (turnN x 14) = _
  have hr := hx.turnN 14
  have hy := turn_14 hx
  obtain ⟨h0, h1⟩ := hx
  have e1 : x % 262144 = (x / 131072 % 2) * 131072 + x % 131072 := by omega
  have e2 : x / 262144 = x / 131072 / 2 := by omega
  rw [e1, e2] at hy
  have b1 : 0 ≤ x % 131072 ∧ x % 131072 < 131072 := by omega
  have b2 : 0 ≤ x / 131072 ∧ x / 131072 < 32768 := by omega
  generalize x % 131072 = l at *
  generalize x / 131072 = a at *
  rcases (by omega : a % 2 = 0 ∨ a % 2 = 1) with h | h
  · rw [h] at hy; rw [turn1_lo hr (by omega)]; omega
  · rw [h] at hy; rw [turn1_hi hr (by omega)]; omega
theorem turn_16 {x : Int} (hx : R32 x) : turnN x 16 = (x % 65536) * 65536 + x / 65536 := by
  show turn1 (turnN x 15) = _
  have hr := hx.turnN 15
  have hy := turn_15 hx
  obtain ⟨h0, h1⟩ := hx
  have e1 : x % 131072 = (x / 65536 % 2) * 65536 + x % 65536 := by omega
  have e2 : x / 131072 = x / 65536 / 2 := by omega
  rw [e1, e2] at hy
  have b1 : 0 ≤ x % 65536 ∧ x % 65536 < 65536 := by omega
  have b2 : 0 ≤ x / 65536 ∧ x / 65536 < 65536 := by omega
  generalize x % 65536 = l at *
  generalize x / 65536 = a at *
  rcases (by omega : a % 2 = 0 ∨ a % 2 = 1) with h | h
  · rw [h] at hy; rw [turn1_lo hr (by omega)]; omega
  · rw [h] at hy; rw [turn1_hi hr (by omega)]; omega
theorem turn_left5 {x : Int} (hx : R32 x) : turnN x 5 = leftF x 5 := (turn_5 hx).trans (left_eq hx 32 134217728 5 (by decide) (by decide) (by decide)).symm
theorem turn_left7 {x : Int} (hx : R32 x) : turnN x 7 = leftF x 7 := (turn_7 hx).trans (left_eq hx 128 33554432 7 (by decide) (by decide) (by decide)).symm
theorem turn_left8 {x : Int} (hx : R32 x) : turnN x 8 = leftF x 8 := (turn_8 hx).trans (left_eq hx 256 16777216 8 (by decide) (by decide) (by decide)).symm
theorem turn_left13 {x : Int} (hx : R32 x) : turnN x 13 = leftF x 13 := (turn_13 hx).trans (left_eq hx 8192 524288 13 (by decide) (by decide) (by decide)).symm
theorem turn_left16 {x : Int} (hx : R32 x) : turnN x 16 = leftF x 16 := (turn_16 hx).trans (left_eq hx 65536 65536 16 (by decide) (by decide) (by decide)).symm
end Go.Proofs.YthnghkkbnhjlgaaDoor
namespace Go.Proofs.YthnghkkbnhjlgaaDoor
open Go.Am
theorem turn_calls (x : Int) (m : Nat) (hm : m ≤ 64) : PCalls Tryd.prog 73 [.pv (.int .u32 x), .pv (.int .i64 m)] (.pv (.int .u32 (turnN x m))) := by
  refine PCalls.of_body tabOk Tryd.func73 rfl rfl rfl rfl rfl mixed fun E hP C hI => ?_
  refine Awp.cons C (fun _ => .pure) (by kernel_rfl) ?_ -- region 0 false
  refine rvc_prim C rfl rfl rfl rfl trivial rfl ?_
  refine rvc_nil ?_
  refine Awp.seq ?_
  refine Awp.cons C (fun _ => .pure) (by kernel_rfl) ?_ -- region 1 false
  refine rvc_prim C rfl rfl rfl rfl trivial rfl ?_
  refine rvc_prim C rfl rfl rfl rfl trivial rfl ?_
  refine rvc_nil ?_
  refine Awp.block ?_ -- 0
  refine Awp.forN m (fun i => [(0, .pv (.int .u32 (turnN x i))), (5, .pv (.int .i64 m)), (6, .pv (.int .i64 i))]) (fun i => []) [] ?_ (fun i hi => ?_) ?_
  · exact Weaker.of hI ⟨rfl, rfl, rfl, trivial⟩ trivial rfl rfl
  · refine Awp.cons C (fun _ => .pure) (by kernel_rfl) ?_ -- region 2 false
    refine rvc_prim C rfl rfl rfl rfl trivial rfl ?_
    refine rvc_nil ?_
    refine Awp.seq ?_
    refine Awp.condT rfl (by simp; omega) (Awp.skip ?_)
    refine Awp.seq ?_
    refine Awp.block ?_ -- 1
    refine Awp.region C (fun _ => .pure) (by kernel_rfl) ?_ -- region 3 false
    refine rvc_prim C rfl rfl rfl rfl trivial rfl ?_
    refine rvc_prim C rfl rfl rfl rfl trivial rfl ?_
    refine rvc_prim C rfl rfl rfl rfl trivial rfl ?_
    refine rvc_prim C rfl rfl rfl rfl (by decide) rfl ?_
    refine rvc_prim C rfl rfl rfl rfl trivial rfl ?_
    refine rvc_prim C rfl rfl rfl rfl trivial rfl ?_
    refine rvc_nil ?_
    refine Awp.region C (fun _ => .pure) (by kernel_rfl) ?_ -- region 4 false
    refine rvc_prim C rfl rfl rfl rfl trivial rfl ?_
    refine rvc_prim C rfl rfl rfl rfl trivial rfl ?_
    refine rvc_nil ?_
    exact Weaker.of hI ⟨rfl, rfl, lit_cast (wrap_i64 (by omega) (by omega)), trivial⟩ trivial rfl rfl
  · refine Awp.cons C (fun _ => .pure) (by kernel_rfl) ?_ -- region 2 false
    refine rvc_prim C rfl rfl rfl rfl trivial rfl ?_
    refine rvc_nil ?_
    refine Awp.seq ?_
    refine Awp.condF rfl (by simp) (Awp.exit ?_)
    refine Awp.cons C (fun _ => .pure) (by kernel_rfl) ?_ -- region 5 false
    refine rvc_prim C rfl rfl rfl rfl trivial rfl ?_
    refine rvc_prim C rfl rfl rfl rfl trivial rfl ?_
    refine rvc_nil ?_
    refine Awp.ret ?_
    exact ⟨.inl rfl, rfl⟩
def R32s (s : Nat → Int) : Prop := ∀ t, R32 (s t)
theorem R32s.rnd (s : Nat → Int) : R32s (rndF s) := fun t => by
  simp only [rndF]
  split
  · exact R32.wrap _
  · exact R32.bit _ _ _
  · exact R32.bit _ _ _
  · exact R32.bit _ _ _
theorem R32s.stirN {s : Nat → Int} (h : R32s s) : ∀ i, R32s (YthnghkkbnhjlgaaDoor.stirN s i)
  | 0 => h
  | _ + 1 => R32s.rnd _
theorem left_ref {x : Int} (h : R32 x) (m : Nat) (hm : m = 5 ∨ m = 7 ∨ m = 8 ∨ m = 13 ∨ m = 16) : PCalls Tryd.prog 73 [.pv (.int .u32 x), .pv (.int .i64 m)] (.pv (.int .u32 (leftF x m))) := by
  have := turn_calls x m (by omega)
  rcases hm with rfl | rfl | rfl | rfl | rfl
  · rwa [turn_left5 h] at this
  · rwa [turn_left7 h] at this
  · rwa [turn_left8 h] at this
  · rwa [turn_left13 h] at this
  · rwa [turn_left16 h] at this
theorem refStir_calls (s : Nat → Int) (hs : R32s s) : PCalls Tryd.prog 56 [.agg (cI .u32 (tb 4 s))] (.agg (cI .u32 (tb 4 (stirF s)))) := by
  refine PCalls.of_body tabOk Tryd.func56 rfl rfl rfl (by simp [AV.withinL, AV.within, cI_within]) (by simp [AV.within, cI_within]) mixed fun E hP C hI => ?_
  refine Awp.cons C (fun _ => .pure) (by kernel_rfl) ?_ -- region 0 false
  refine rvc_prim C rfl rfl rfl rfl trivial rfl ?_
  refine rvc_prim C rfl rfl rfl rfl trivial rfl ?_
  refine rvc_nil ?_
  refine Awp.seq ?_
  refine Awp.cons C (fun _ => .pure) (by kernel_rfl) ?_ -- region 1 false
  refine rvc_prim C rfl rfl rfl rfl trivial rfl ?_
  refine rvc_nil ?_
  refine Awp.block ?_ -- 0
  refine Awp.forN 12 (fun i => [(1, .ptr 1 0), (2, .ptr 2 0), (3, .pv (.int .i64 i))]) (fun i => [(1, .cells (cI .u32 (tb 4 (YthnghkkbnhjlgaaDoor.stirN s i)))), (2, .cells (cI .u32 (tb 4 fun _ => 0)))]) [1, 2] ?_ (fun i hi => ?_) ?_
  · exact Weaker.of hI ⟨rfl, rfl, rfl, trivial⟩ ⟨rfl, rfl, trivial⟩ rfl (by simp [Blk.within, cI_within])
  · have hst := hs.stirN i
    refine Awp.cons C (fun _ => .pure) (by kernel_rfl) ?_ -- region 2 false
    refine rvc_prim C rfl rfl rfl rfl trivial rfl ?_
    refine rvc_nil ?_
    refine Awp.seq ?_
    refine Awp.condT rfl (by simp; omega) (Awp.skip ?_)
    refine Awp.seq ?_
    refine Awp.block ?_ -- 1
    refine Awp.cons C (fun _ => .pure) (by kernel_rfl) ?_ -- region 3 false
    refine rvc_prim C rfl rfl rfl rfl ⟨by decide, by decide⟩ rfl ?_
    refine rvc_prim C rfl rfl rfl rfl trivial rfl ?_
    refine rvc_prim C rfl rfl rfl rfl ⟨by decide, by decide⟩ rfl ?_
    refine rvc_prim C rfl rfl rfl rfl trivial rfl ?_
    refine rvc_prim C rfl rfl rfl rfl trivial rfl ?_
    refine rvc_prim C rfl rfl rfl rfl ⟨by decide, by decide⟩ rfl ?_
    refine rvc_prim C rfl rfl rfl rfl trivial rfl ?_ -- t_ store
    refine rvc_nil ?_
    refine Awp.cons C (fun _ => .pure) (by kernel_rfl) ?_ -- region 4 false
    refine rvc_prim C rfl rfl rfl rfl ⟨by decide, by decide⟩ rfl ?_
    refine rvc_prim C rfl rfl rfl rfl trivial rfl ?_
    refine rvc_prim C rfl rfl rfl rfl ⟨by decide, by decide⟩ rfl ?_
    refine rvc_prim C rfl rfl rfl rfl trivial rfl ?_
    refine rvc_prim C rfl rfl rfl rfl trivial rfl ?_
    refine rvc_prim C rfl rfl rfl rfl ⟨by decide, by decide⟩ rfl ?_
    refine rvc_prim C rfl rfl rfl rfl trivial rfl ?_ -- t_ store
    refine rvc_nil ?_
    refine Awp.consP C ?_
    refine rvc_prim C rfl rfl rfl rfl ⟨by decide, by decide⟩ rfl ?_
    refine rvc_prim C rfl rfl rfl rfl trivial rfl ?_
    refine rvc_call hP C rfl rfl rfl (left_ref (by first | exact hst _ | exact R32.wrap _ | exact R32.bit _ _ _) 5 (by decide)) ?_
    refine rvc_prim C rfl rfl rfl rfl ⟨by decide, by decide⟩ rfl ?_
    refine rvc_prim C rfl rfl rfl rfl trivial rfl ?_
    refine rvc_prim C rfl rfl rfl rfl trivial rfl ?_
    refine rvc_prim C rfl rfl rfl rfl ⟨by decide, by decide⟩ rfl ?_
    refine rvc_prim C rfl rfl rfl rfl trivial rfl ?_ -- t_ store
    refine rvc_nil ?_
    refine Awp.consP C ?_
    refine rvc_prim C rfl rfl rfl rfl ⟨by decide, by decide⟩ rfl ?_
    refine rvc_prim C rfl rfl rfl rfl trivial rfl ?_
    refine rvc_call hP C rfl rfl rfl (left_ref (by first | exact hst _ | exact R32.wrap _ | exact R32.bit _ _ _) 8 (by decide)) ?_
    refine rvc_prim C rfl rfl rfl rfl ⟨by decide, by decide⟩ rfl ?_
    refine rvc_prim C rfl rfl rfl rfl trivial rfl ?_
    refine rvc_prim C rfl rfl rfl rfl trivial rfl ?_
    refine rvc_prim C rfl rfl rfl rfl ⟨by decide, by decide⟩ rfl ?_
    refine rvc_prim C rfl rfl rfl rfl trivial rfl ?_ -- t_ store
    refine rvc_nil ?_
    refine Awp.consP C ?_
    refine rvc_prim C rfl rfl rfl rfl ⟨by decide, by decide⟩ rfl ?_
    refine rvc_prim C rfl rfl rfl rfl trivial rfl ?_
    refine rvc_call hP C rfl rfl rfl (left_ref (by first | exact hst _ | exact R32.wrap _ | exact R32.bit _ _ _) 16 (by decide)) ?_
    refine rvc_prim C rfl rfl rfl rfl ⟨by decide, by decide⟩ rfl ?_
    refine rvc_prim C rfl rfl rfl rfl trivial rfl ?_
    refine rvc_prim C rfl rfl rfl rfl trivial rfl ?_
    refine rvc_prim C rfl rfl rfl rfl ⟨by decide, by decide⟩ rfl ?_
    refine rvc_prim C rfl rfl rfl rfl trivial rfl ?_ -- t_ store
    refine rvc_nil ?_
    refine Awp.cons C (fun _ => .pure) (by kernel_rfl) ?_ -- region 8 false
    refine rvc_prim C rfl rfl rfl rfl ⟨by decide, by decide⟩ rfl ?_
    refine rvc_prim C rfl rfl rfl rfl trivial rfl ?_
    refine rvc_prim C rfl rfl rfl rfl ⟨by decide, by decide⟩ rfl ?_
    refine rvc_prim C rfl rfl rfl rfl trivial rfl ?_
    refine rvc_prim C rfl rfl rfl rfl trivial rfl ?_
    refine rvc_prim C rfl rfl rfl rfl ⟨by decide, by decide⟩ rfl ?_
    refine rvc_prim C rfl rfl rfl rfl trivial rfl ?_ -- t_ store
    refine rvc_nil ?_
    refine Awp.consP C ?_
    refine rvc_prim C rfl rfl rfl rfl ⟨by decide, by decide⟩ rfl ?_
    refine rvc_prim C rfl rfl rfl rfl trivial rfl ?_
    refine rvc_call hP C rfl rfl rfl (left_ref (by first | exact hst _ | exact R32.wrap _ | exact R32.bit _ _ _) 7 (by decide)) ?_
    refine rvc_prim C rfl rfl rfl rfl ⟨by decide, by decide⟩ rfl ?_
    refine rvc_prim C rfl rfl rfl rfl trivial rfl ?_
    refine rvc_prim C rfl rfl rfl rfl trivial rfl ?_
    refine rvc_prim C rfl rfl rfl rfl ⟨by decide, by decide⟩ rfl ?_
    refine rvc_prim C rfl rfl rfl rfl trivial rfl ?_ -- t_ store
    refine rvc_nil ?_
    refine Awp.consP C ?_
    refine rvc_prim C rfl rfl rfl rfl ⟨by decide, by decide⟩ rfl ?_
    refine rvc_prim C rfl rfl rfl rfl trivial rfl ?_
    refine rvc_call hP C rfl rfl rfl (left_ref (by first | exact hst _ | exact R32.wrap _ | exact R32.bit _ _ _) 13 (by decide)) ?_
    refine rvc_prim C rfl rfl rfl rfl ⟨by decide, by decide⟩ rfl ?_
    refine rvc_prim C rfl rfl rfl rfl trivial rfl ?_
    refine rvc_prim C rfl rfl rfl rfl trivial rfl ?_
    refine rvc_prim C rfl rfl rfl rfl ⟨by decide, by decide⟩ rfl ?_
    refine rvc_prim C rfl rfl rfl rfl trivial rfl ?_ -- t_ store
    refine rvc_nil ?_
    refine Awp.region C (fun _ => .pure) (by kernel_rfl) ?_ -- region 11 false
    refine rvc_prim C rfl rfl rfl rfl ⟨by decide, by decide⟩ rfl ?_
    refine rvc_prim C rfl rfl rfl rfl trivial rfl ?_
    refine rvc_call hP C rfl rfl rfl (left_ref (by first | exact hst _ | exact R32.wrap _ | exact R32.bit _ _ _) 16 (by decide)) ?_
    refine rvc_prim C rfl rfl rfl rfl ⟨by decide, by decide⟩ rfl ?_
    refine rvc_prim C rfl rfl rfl rfl trivial rfl ?_ -- t_ store
    refine rvc_nil ?_
    refine Awp.region C (fun _ => .pure) (by kernel_rfl) ?_ -- region 12 false
    refine rvc_prim C rfl rfl rfl rfl trivial rfl ?_
    refine rvc_prim C rfl rfl rfl rfl trivial rfl ?_
    refine rvc_nil ?_
    exact Weaker.of hI ⟨rfl, rfl, lit_cast (wrap_i64 (by omega) (by omega)), trivial⟩ ⟨rfl, rfl, trivial⟩ rfl (by simp [Blk.within, cI_within])
  · refine Awp.cons C (fun _ => .pure) (by kernel_rfl) ?_ -- region 2 false
    refine rvc_prim C rfl rfl rfl rfl trivial rfl ?_
    refine rvc_nil ?_
    refine Awp.seq ?_
    refine Awp.condF rfl (by simp) (Awp.exit ?_)
    refine Awp.cons C (fun _ => .pure) (by kernel_rfl) ?_ -- region 13 false
    refine rvc_prim C rfl rfl rfl rfl trivial rfl ?_
    refine rvc_prim C rfl rfl rfl rfl trivial rfl ?_ -- t_ store
    refine rvc_nil ?_
    refine Awp.ret ?_
    exact ⟨.inl rfl, rfl⟩
end Go.Proofs.YthnghkkbnhjlgaaDoor
namespace Go.Proofs.YthnghkkbnhjlgaaDoor
open Go.Am
def zs (n : Nat) : List Int := List.replicate n 0
end Go.Proofs.YthnghkkbnhjlgaaDoor
namespace Go.Proofs.YthnghkkbnhjlgaaDoor
open Go.Am
theorem R8.nat {x : Int} (h : R8 x) : ∃ m : Nat, x = m ∧ m < 256 := ⟨x.toNat, by have := h.1; omega, by have := h.1; have := h.2; omega⟩
end Go.Proofs.YthnghkkbnhjlgaaDoor
namespace Go.Proofs.YthnghkkbnhjlgaaDoor
open Go.Am
def shN (d : Nat → Int) : Nat → Int
  | 0 => 0
  | i + 1 => bitI .or .u64 (shlI .u64 (shN d i) 8) (IntKind.u64.wrap (d i))
theorem short_calls {x y : AV} {d : Nat → Int} {e : Int} (h : PCalls Tryd.prog 71 [x, y] (.tup [.agg (cI .u8 (tb 16 d)), .pv (.int .i64 e)])) : PCalls Tryd.prog 54 [x, y] (.tup [.pv (.int .u64 (shN d 8)), .pv (.int .i64 e)]) := by
 refine PCalls.of_body tabOk Tryd.func54 rfl rfl rfl h.args rfl mixed fun E hP C hI => ?_
 refine Awp.cons C (fun _ => .pure) (by kernel_rfl) ?_ -- region 0 false
 refine rvc_prim C rfl rfl rfl rfl (trivial) rfl ?_
 refine rvc_prim C rfl rfl rfl rfl (trivial) rfl ?_
 refine rvc_nil ?_
 refine Awp.cons C (fun _ => .pure) (by kernel_rfl) ?_ -- region 1 false
 refine rvc_prim C rfl rfl rfl rfl (trivial) rfl ?_
 refine rvc_prim C rfl rfl rfl rfl (trivial) rfl ?_
 refine rvc_call hP C rfl rfl rfl (h) ?_
 refine rvc_prim C rfl rfl rfl rfl (trivial) rfl ?_
 refine rvc_prim C rfl rfl rfl rfl (trivial) rfl ?_
 refine rvc_prim C rfl rfl rfl rfl (trivial) rfl ?_
 refine rvc_prim C rfl rfl rfl rfl (trivial) rfl ?_
 refine rvc_prim C rfl rfl rfl rfl (trivial) rfl ?_ -- s0 store
 refine rvc_prim C rfl rfl rfl rfl (trivial) rfl ?_
 refine rvc_nil ?_
 refine Awp.cons C (fun _ => .pure) (by kernel_rfl) ?_ -- region 2 false
 refine rvc_prim C rfl rfl rfl rfl (trivial) rfl ?_
 refine rvc_nil ?_
 refine Awp.seq ?_
 refine Awp.cons C (fun _ => .pure) (by kernel_rfl) ?_ -- region 3 false
 refine rvc_prim C rfl rfl rfl rfl (⟨⟨by decide, by decide, by decide⟩, Nat.le_refl 16, .inl rfl⟩) rfl ?_
 refine rvc_prim C rfl rfl rfl rfl (trivial) rfl ?_
 refine rvc_prim C rfl rfl rfl rfl (trivial) rfl ?_
 refine rvc_nil ?_
 refine Awp.block ?_
 refine Awp.forN (8) (fun i => [(6, .ptr 6 0), (7, .pv (.int .i64 e)), (8, .pv (.int .u64 (shN d i))), (17, .sl 6 0 8 1 false), (18, .pv (.int .i64 8)), (19, .pv (.int .i64 i))]) (fun i => [(6, .cells (cI .u8 (tb 16 d)))]) [6] ?_ (fun i hi => ?_) ?_
 · exact Weaker.of hI ⟨rfl, rfl, rfl, rfl, rfl, rfl, trivial⟩ ⟨rfl, trivial⟩ rfl (by simp [Blk.within, cI_within])
 ·
  refine Awp.cons C (fun _ => .pure) (by kernel_rfl) ?_ -- region 4 false
  refine rvc_prim C rfl rfl rfl rfl (trivial) rfl ?_
  refine rvc_nil ?_
  refine Awp.seq ?_
  refine Awp.condT rfl (by simpa using (by omega : (i : Int) < 8)) ?_
  refine Awp.skip ?_
  refine Awp.seq ?_
  refine Awp.block ?_
  refine Awp.cons C (fun _ => .pure) (by kernel_rfl) ?_ -- region 5 false
  refine rvc_prim C rfl rfl rfl rfl (⟨by omega, by omega⟩) rfl ?_
  refine rvc_load C rfl rfl rfl rfl rfl (cI_at i (by show 0 + 0 * 1 + (i : Int).toNat * 1 = _; omega) (by omega)) ?_
  refine rvc_prim C rfl rfl rfl rfl (trivial) rfl ?_
  refine rvc_nil ?_
  refine Awp.region C (fun _ => .pure) (by kernel_rfl) ?_ -- region 6 false
  refine rvc_prim C rfl rfl rfl rfl (trivial) rfl ?_
  refine rvc_prim C rfl rfl rfl rfl (by decide) rfl ?_
  refine rvc_prim C rfl rfl rfl rfl (trivial) rfl ?_
  refine rvc_prim C rfl rfl rfl rfl (trivial) rfl ?_
  refine rvc_prim C rfl rfl rfl rfl (trivial) rfl ?_
  refine rvc_prim C rfl rfl rfl rfl (trivial) rfl ?_
  refine rvc_nil ?_
  refine Awp.region C (fun _ => .pure) (by kernel_rfl) ?_ -- region 7 false
  refine rvc_prim C rfl rfl rfl rfl (trivial) rfl ?_
  refine rvc_prim C rfl rfl rfl rfl (trivial) rfl ?_
  refine rvc_nil ?_
  exact Weaker.of hI ⟨rfl, rfl, rfl, rfl, rfl, lit_cast (wrap_i64 (by omega) (by omega)), trivial⟩ ⟨rfl, trivial⟩ rfl (by simp [Blk.within, cI_within])
 ·
  refine Awp.cons C (fun _ => .pure) (by kernel_rfl) ?_ -- region 4 false
  refine rvc_prim C rfl rfl rfl rfl (trivial) rfl ?_
  refine rvc_nil ?_
  refine Awp.seq ?_
  refine Awp.condF rfl (rfl) ?_
  refine Awp.exit ?_
  refine Awp.cons C (fun _ => .pure) (by kernel_rfl) ?_ -- region 8 false
  refine rvc_prim C rfl rfl rfl rfl (trivial) rfl ?_
  refine rvc_prim C rfl rfl rfl rfl (trivial) rfl ?_
  refine rvc_prim C rfl rfl rfl rfl (trivial) rfl ?_
  refine rvc_prim C rfl rfl rfl rfl (trivial) rfl ?_
  refine rvc_nil ?_
  refine Awp.ret ?_
  exact ⟨.inl rfl, rfl⟩
end Go.Proofs.YthnghkkbnhjlgaaDoor
namespace Go.Proofs.YthnghkkbnhjlgaaDoor
open Go.Am
theorem shl1 {x : Int} : shlI .u32 x 1 = (2 * x) % 4294967296 := by
  show IntKind.u32.wrap (x * 2 ^ 1) = _
  rw [wrap_u32]; omega
theorem shr31 {x : Int} : shrI .u32 x 31 = x / 2147483648 := rfl
theorem or_low {x y : Int} (hx : R32 x) (hy : R32 y) : bitI .or .u32 (shlI .u32 x 1) (shrI .u32 y 31) = IntKind.u32.wrap (IntKind.u32.wrap (2 * x) + IntKind.u32.wrap (y.tdiv 2147483648)) := by
  rw [shl1, shr31, wrap_u32, wrap_u32, wrap_u32, Int.tdiv_eq_ediv_of_nonneg hy.1]
  obtain ⟨a, ha, ha'⟩ : ∃ a : Nat, (2 * x) % 4294967296 = ((2 ^ 1 * a : Nat) : Int) ∧ 2 ^ 1 * a < 4294967296 := ⟨(x % 2147483648).toNat, by have := hx.1; have := hx.2; omega, by omega⟩
  obtain ⟨b, hb, hb'⟩ : ∃ b : Nat, y / 2147483648 = b ∧ b < 2 ^ 1 := ⟨(y / 2147483648).toNat, by have := hy.1; omega, by have := hy.1; have := hy.2; omega⟩
  rw [ha, hb, or_u32 ha' (by omega), or_add 1 a b hb']
  omega
theorem xor_zero32 {x : Int} (hx : R32 x) : bitI .xor .u32 x 0 = x := by
  obtain ⟨a, rfl, ha⟩ := hx.nat
  have := xor_u32 ha (b := 0) (by decide)
  rw [Nat.xor_zero] at this
  exact this
theorem double0 {x y : Int} (hy : R32 y) : bitI .xor .u32 (shlI .u32 x 1) (bitI .and .u32 135 (IntKind.u32.wrap (0 - shrI .u32 y 31))) = if y.tdiv 2147483648 = 1 then bitI .xor .u32 (IntKind.u32.wrap (2 * x)) 135 else IntKind.u32.wrap (2 * x) := by
  rw [shl1, shr31, wrap_u32 (2 * x), Int.tdiv_eq_ediv_of_nonneg hy.1]
  have hr : R32 ((2 * x) % 4294967296) := by constructor <;> omega
  by_cases h : y / 2147483648 = 1
  · rw [if_pos h, h]; rfl
  · have h0 : y / 2147483648 = 0 := by have := hy.1; have := hy.2; omega
    rw [if_neg h, h0]
    exact xor_zero32 hr
theorem R32s.double (k : Nat → Int) : R32s (doubleF k) := fun t => by
  cases t with
  | zero => rw [doubleF]; exact R32.bit _ _ _
  | succ n => rw [doubleF]; exact R32.bit _ _ _
theorem wrap_R32 {x : Int} (h : R32 x) : IntKind.u32.wrap x = x := by
  obtain ⟨h0, h1⟩ := h
  rw [wrap_u32]; omega
theorem tdiv_wrap {y : Int} (hy : R32 y) : IntKind.u32.wrap (y.tdiv 2147483648) = y.tdiv 2147483648 := by
  rw [Int.tdiv_eq_ediv_of_nonneg hy.1]
  exact wrap_R32 ⟨by have := hy.1; omega, by have := hy.2; omega⟩
theorem refDouble_calls (k : Nat → Int) (hk : R32s k) : PCalls Tryd.prog 58 [.agg (cI .u32 (tb 4 k))] (.agg (cI .u32 (tb 4 (doubleF k)))) := by
 refine PCalls.of_body tabOk Tryd.func58 rfl rfl rfl (by simp [AV.withinL, AV.within, cI_within]) (by simp [AV.within, cI_within]) mixed fun E hP C hI => ?_
 have e1 := or_low (hk 1) (hk 0)
 have e2 := or_low (hk 2) (hk 1)
 have e3 := or_low (hk 3) (hk 2)
 have e0 := double0 (x := k 0) (hk 3)
 have hd : ∀ z, z = bitI .xor .u32 (shlI .u32 (k 0) 1) (bitI .and .u32 135 (IntKind.u32.wrap (0 - shrI .u32 (k 3) 31))) → some (AV.agg (cI .u32 [z, IntKind.u32.wrap (IntKind.u32.wrap (2 * k 1) + IntKind.u32.wrap ((k 0).tdiv 2147483648)), IntKind.u32.wrap (IntKind.u32.wrap (2 * k 2) + IntKind.u32.wrap ((k 1).tdiv 2147483648)), IntKind.u32.wrap (IntKind.u32.wrap (2 * k 3) + IntKind.u32.wrap ((k 2).tdiv 2147483648))])) = some (AV.agg (cI .u32 (tb 4 (doubleF k)))) := by
  intro z hz
  rw [← e1, ← e2, ← e3, hz]; rfl
 refine Awp.cons C (fun _ => .pure) (by kernel_rfl) ?_ -- region 0 false
 refine rvc_prim C rfl rfl rfl rfl (trivial) rfl ?_
 refine rvc_prim C rfl rfl rfl rfl (trivial) rfl ?_
 refine rvc_nil ?_
 refine Awp.cons C (fun _ => .pure) (by kernel_rfl) ?_ -- region 1 false
 refine rvc_prim C rfl rfl rfl rfl (⟨by decide, by decide⟩) rfl ?_
 refine rvc_prim C rfl rfl rfl rfl (trivial) rfl ?_
 refine rvc_prim C rfl rfl rfl rfl (trivial) rfl ?_
 refine rvc_prim C rfl rfl rfl rfl (⟨by decide, by decide⟩) rfl ?_
 refine rvc_prim C rfl rfl rfl rfl (trivial) rfl ?_
 refine rvc_prim C rfl rfl rfl rfl (trivial) rfl ?_
 refine rvc_prim C rfl rfl rfl rfl (⟨by decide, by decide⟩) rfl ?_
 refine rvc_prim C rfl rfl rfl rfl (trivial) rfl ?_
 refine rvc_prim C rfl rfl rfl rfl (by decide) rfl ?_
 refine rvc_prim C rfl rfl rfl rfl (trivial) rfl ?_
 refine rvc_prim C rfl rfl rfl rfl (⟨by decide, by decide⟩) rfl ?_
 refine rvc_prim C rfl rfl rfl rfl (trivial) rfl ?_
 refine rvc_prim C rfl rfl rfl rfl (trivial) rfl ?_
 refine rvc_prim C rfl rfl rfl rfl (⟨by decide, by decide⟩) rfl ?_
 refine rvc_prim C rfl rfl rfl rfl (trivial) rfl ?_
 refine rvc_prim C rfl rfl rfl rfl (by decide) rfl ?_
 refine rvc_prim C rfl rfl rfl rfl (trivial) rfl ?_
 refine rvc_prim C rfl rfl rfl rfl (⟨by decide, by decide⟩) rfl ?_
 refine rvc_prim C rfl rfl rfl rfl (trivial) rfl ?_
 refine rvc_prim C rfl rfl rfl rfl (trivial) rfl ?_
 refine rvc_prim C rfl rfl rfl rfl (⟨by decide, by decide⟩) rfl ?_
 refine rvc_prim C rfl rfl rfl rfl (trivial) rfl ?_
 refine rvc_prim C rfl rfl rfl rfl (by decide) rfl ?_
 refine rvc_prim C rfl rfl rfl rfl (trivial) rfl ?_
 refine rvc_prim C rfl rfl rfl rfl (trivial) rfl ?_
 refine rvc_prim C rfl rfl rfl rfl (trivial) rfl ?_
 refine rvc_prim C rfl rfl rfl rfl (trivial) rfl ?_ -- s0 store
 refine rvc_nil ?_
 refine Awp.seq ?_
 refine Awp.cons C (fun _ => .pure) (by kernel_rfl) ?_ -- region 2 false
 refine rvc_prim C rfl rfl rfl rfl (⟨by decide, by decide⟩) rfl ?_
 refine rvc_prim C rfl rfl rfl rfl (trivial) rfl ?_
 refine rvc_prim C rfl rfl rfl rfl (by decide) rfl ?_
 refine rvc_prim C rfl rfl rfl rfl (trivial) rfl ?_
 refine rvc_nil ?_
 refine Awp.cond rfl (fun hc => ?_) (fun hc => ?_)
 ·
  have hc' : (k 3).tdiv 2147483648 = 1 := by rw [tdiv_wrap (hk 3)] at hc; simpa using hc
  refine Awp.region C (fun _ => .pure) (by kernel_rfl) ?_ -- region 3 false
  refine rvc_prim C rfl rfl rfl rfl (⟨by decide, by decide⟩) rfl ?_
  refine rvc_prim C rfl rfl rfl rfl (trivial) rfl ?_
  refine rvc_prim C rfl rfl rfl rfl (trivial) rfl ?_
  refine rvc_prim C rfl rfl rfl rfl (⟨by decide, by decide⟩) rfl ?_
  refine rvc_prim C rfl rfl rfl rfl (trivial) rfl ?_ -- s1 store
  refine rvc_nil ?_
  refine Awp.cons C (fun _ => .pure) (by kernel_rfl) ?_ -- region 4 false
  refine rvc_prim C rfl rfl rfl rfl (trivial) rfl ?_
  refine rvc_prim C rfl rfl rfl rfl (trivial) rfl ?_ -- s2 store
  refine rvc_nil ?_
  refine Awp.ret ?_
  exact ⟨.inl rfl, hd _ (by rw [e0, if_pos hc'])⟩
 ·
  have hc' : ¬ (k 3).tdiv 2147483648 = 1 := by rw [tdiv_wrap (hk 3)] at hc; simpa using hc
  refine Awp.skip ?_
  refine Awp.cons C (fun _ => .pure) (by kernel_rfl) ?_ -- region 4 false
  refine rvc_prim C rfl rfl rfl rfl (trivial) rfl ?_
  refine rvc_prim C rfl rfl rfl rfl (trivial) rfl ?_ -- s3 store
  refine rvc_nil ?_
  refine Awp.ret ?_
  exact ⟨.inl rfl, hd _ (by rw [e0, if_neg hc'])⟩
end Go.Proofs.YthnghkkbnhjlgaaDoor
namespace Go.Proofs.YthnghkkbnhjlgaaDoor
open Go.Am
theorem R32.zero : R32 0 := ⟨by decide, by decide⟩
theorem wAcc_R (b : Nat → Int) (t : Nat) : ∀ j, R32 (wAcc b t j)
  | 0 => R32.zero
  | _ + 1 => R32.bit _ _ _
theorem wAcc_congr {b c : Nat → Int} {t : Nat} : ∀ {m : Nat}, (∀ j, j < m → b (4 * t + j) = c (4 * t + j)) → wAcc b t m = wAcc c t m
  | 0, _ => rfl
  | m + 1, h => by simp only [wAcc]; rw [wAcc_congr fun j hj => h j (by omega), h m (by omega)]
theorem wordsF_congr {b c : Nat → Int} (h : ∀ t, t < 16 → b t = c t) {t : Nat} (ht : t < 4) : wordsF b t = wordsF c t := wAcc_congr fun j hj => h _ (by omega)
theorem wordsF_R (b : Nat → Int) : R32s (wordsF b) := fun _ => wAcc_R _ _ _
end Go.Proofs.YthnghkkbnhjlgaaDoor
namespace Go.Proofs.YthnghkkbnhjlgaaDoor
open Go.Am
theorem bv64 (a : Nat) (h : a < 18446744073709551616) : (BitVec.ofInt 64 (a : Int)).toNat = a := by
  rw [BitVec.toNat_ofInt]
  have : ((2 ^ 64 : Nat) : Int) = 18446744073709551616 := by decide
  rw [this]; omega
theorem or_u64 {a b : Nat} (ha : a < 18446744073709551616) (hb : b < 18446744073709551616) : bitI .or .u64 a b = ((a ||| b : Nat) : Int) := by
  have : a ||| b < 18446744073709551616 := Nat.or_lt_two_pow (n := 64) ha hb
  show IntKind.u64.wrap (((BitVec.ofInt 64 (a : Int) ||| BitVec.ofInt 64 (b : Int) : BitVec 64).toNat : Nat) : Int) = _
  rw [BitVec.toNat_or, bv64 a ha, bv64 b hb, wrap_u64]; omega
def rsN (d : Nat → Int) : Nat → Int
  | 0 => 0
  | i + 1 => IntKind.u64.wrap (IntKind.u64.wrap (256 * rsN d i) + IntKind.u64.wrap (d i))
theorem rs_eq {d : Nat → Int} (h : ∀ t, R8 (d t)) : ∀ i, rsN d i = shN d i ∧ 0 ≤ shN d i
  | 0 => ⟨rfl, Int.le_refl 0⟩
  | i + 1 => by
    obtain ⟨e, e0⟩ := rs_eq h i
    obtain ⟨b, hb, hb'⟩ := (h i).nat
    simp only [rsN, shN, e]
    have s1 : shlI .u64 (shN d i) 8 = IntKind.u64.wrap (256 * shN d i) := by
      show IntKind.u64.wrap (shN d i * 2 ^ 8) = _
      congr 1; omega
    have w1 : IntKind.u64.wrap (d i) = b := by rw [hb, wrap_u64]; omega
    obtain ⟨a, ha, ha'⟩ : ∃ a : Nat, IntKind.u64.wrap (256 * shN d i) = ((2 ^ 8 * a : Nat) : Int) ∧ 2 ^ 8 * a < 18446744073709551616 := by
      rw [wrap_u64]
      exact ⟨((shN d i) % 72057594037927936).toNat, by omega, by omega⟩
    rw [s1, w1, ha, or_u64 ha' (by omega), or_add 8 a b (by omega), wrap_u64]
    omega
end Go.Proofs.YthnghkkbnhjlgaaDoor
namespace Go.Proofs.YthnghkkbnhjlgaaDoor
open Go.Am
theorem rp_at {k : IntKind} {D : List Int} {j : Nat} (i : Nat) (hj : j = i) (h : i < D.length) : (((pI k D).drop j).take 1)[0]? = some (.lit (.int k (D.getD i 0))) := by
  subst hj
  simp [pI, h]
theorem shl_byte {x : Int} (hx : R8 x) (p n : Nat) (hn : n ≤ 24) (hp : p = 2 ^ n) : shlI .u32 (IntKind.u32.wrap x) (n : Int) = p * x ∧ (p : Int) * x < 4294967296 ∧ 0 ≤ (p : Int) * x := by
  obtain ⟨a, rfl, ha⟩ := hx.nat
  subst hp
  have h1 : IntKind.u32.wrap (a : Int) = a := wrap_R32 ⟨by omega, by omega⟩
  have h2 : 2 ^ n ≤ 2 ^ 24 := Nat.pow_le_pow_right (by decide) hn
  have h3 : 2 ^ n * a ≤ 2 ^ 24 * 255 := Nat.mul_le_mul h2 (by omega)
  have e24 : (2 : Nat) ^ 24 * 255 = 4278190080 := by decide
  have h4 : ((2 ^ n : Nat) : Int) * (a : Int) = ((2 ^ n * a : Nat) : Int) := by simp
  rw [h1, h4]
  refine ⟨?_, by omega, by omega⟩
  show IntKind.u32.wrap ((a : Int) * 2 ^ (min (n : Int).toNat 32)) = _
  rw [Int.toNat_natCast, Nat.min_eq_left (by omega)]
  have : (a : Int) * 2 ^ n = ((2 ^ n * a : Nat) : Int) := by simp [Int.mul_comm]
  rw [this]
  exact wrap_R32 ⟨by omega, by omega⟩
theorem or_high {a x : Int} (n : Nat) (p : Nat) (hp : p = 2 ^ n) (ha : 0 ≤ a ∧ a < p) (hx : 0 ≤ x) (hpx : (p : Int) * x < 4294967296) (hp2 : p ≤ 4294967296) : bitI .or .u32 a (p * x) = a + p * x := by
  obtain ⟨a, rfl⟩ := Int.eq_ofNat_of_zero_le ha.1
  obtain ⟨x, rfl⟩ := Int.eq_ofNat_of_zero_le hx
  subst hp
  have h4 : ((2 ^ n : Nat) : Int) * (x : Int) = ((2 ^ n * x : Nat) : Int) := by simp
  rw [h4] at hpx ⊢
  have h5 : a < 2 ^ n := by have := ha.2; omega
  rw [or_u32 (by omega) (by omega), Nat.or_comm, or_add n x a h5]
  omega
theorem word_val {b0 b1 b2 b3 : Int} (h0 : R8 b0) (h1 : R8 b1) (h2 : R8 b2) (h3 : R8 b3) :
    IntKind.u32.wrap (IntKind.u32.wrap (IntKind.u32.wrap (IntKind.u32.wrap b0 + IntKind.u32.wrap (256 * IntKind.u32.wrap b1)) + IntKind.u32.wrap (65536 * IntKind.u32.wrap b2)) + IntKind.u32.wrap (16777216 * IntKind.u32.wrap b3)) = b0 + 256 * b1 + 65536 * b2 + 16777216 * b3 := by
  obtain ⟨a0, c0⟩ := h0; obtain ⟨a1, c1⟩ := h1; obtain ⟨a2, c2⟩ := h2; obtain ⟨a3, c3⟩ := h3
  simp only [wrap_u32]
  omega
theorem wAcc_val (b : Nat → Int) (t : Nat) (h : ∀ s, R8 (b s)) : wordsF b t = b (4 * t) + 256 * b (4 * t + 1) + 65536 * b (4 * t + 2) + 16777216 * b (4 * t + 3) := by
  simp only [wordsF, wAcc]
  have r0 := h (4 * t + 0); have r1 := h (4 * t + 1); have r2 := h (4 * t + 2); have r3 := h (4 * t + 3)
  obtain ⟨s0, _, _⟩ := shl_byte r0 1 0 (by decide) (by decide)
  obtain ⟨s1, u1, v1⟩ := shl_byte r1 256 8 (by decide) (by decide)
  obtain ⟨s2, u2, v2⟩ := shl_byte r2 65536 16 (by decide) (by decide)
  obtain ⟨s3, u3, v3⟩ := shl_byte r3 16777216 24 (by decide) (by decide)
  rw [show ((8 * 0 : Nat) : Int) = ((0 : Nat) : Int) by rfl, show ((8 * 1 : Nat) : Int) = ((8 : Nat) : Int) by rfl, show ((8 * 2 : Nat) : Int) = ((16 : Nat) : Int) by rfl, show ((8 * 3 : Nat) : Int) = ((24 : Nat) : Int) by rfl, s0, s1, s2, s3]
  have e0 : bitI .or .u32 0 (((1 : Nat) : Int) * b (4 * t + 0)) = b (4 * t) := by
    rw [or_high 0 1 (by decide) ⟨by omega, by omega⟩ r0.1 (by have := r0.2; omega) (by decide), Nat.add_zero]; omega
  obtain ⟨a0, c0⟩ := r0; obtain ⟨a1, c1⟩ := r1; obtain ⟨a2, c2⟩ := r2; obtain ⟨a3, c3⟩ := r3
  rw [Nat.add_zero] at a0 c0
  rw [e0, or_high 8 256 (by decide) ⟨a0, by omega⟩ a1 u1 (by decide), or_high 16 65536 (by decide) ⟨by omega, by omega⟩ a2 u2 (by decide), or_high 24 16777216 (by decide) ⟨by omega, by omega⟩ a3 u3 (by decide)]
  omega
def R8l (D : List Int) : Prop := ∀ s, R8 (D.getD s 0)
theorem word_callsN (f : Option Bool) (D : List Int) (h : R8l D) (hl : 4 ≤ D.length) : PCalls Tryd.prog 72 [sI f .u8 D] (.pv (.int .u32 (wordsF (fun s => D.getD s 0) 0))) := by
  refine PCalls.of_body tabOk Tryd.func72 rfl rfl rfl rfl rfl mixed fun E hP C hI => ?_
  refine Awp.cons C (fun _ => .pure) (by kernel_rfl) ?_ -- region 0 false
  refine rvc_prim C rfl rfl rfl rfl (trivial) rfl ?_
  refine rvc_nil ?_
  refine Awp.consP C ?_
  refine rvc_prim C rfl rfl rfl rfl (trivial) rfl ?_
  refine rvc_prim C rfl rfl rfl rfl (⟨by decide, by show (0 : Int) < D.length; omega⟩) rfl ?_
  refine rvc_loadp C rfl rfl rfl rfl (rp_at 0 (by decide) (by omega)) ?_
  refine rvc_prim C rfl rfl rfl rfl (trivial) rfl ?_
  refine rvc_prim C rfl rfl rfl rfl (trivial) rfl ?_
  refine rvc_prim C rfl rfl rfl rfl (⟨by decide, by show (1 : Int) < D.length; omega⟩) rfl ?_
  refine rvc_loadp C rfl rfl rfl rfl (rp_at 1 (by decide) (by omega)) ?_
  refine rvc_prim C rfl rfl rfl rfl (trivial) rfl ?_
  refine rvc_prim C rfl rfl rfl rfl (trivial) rfl ?_
  refine rvc_prim C rfl rfl rfl rfl (trivial) rfl ?_
  refine rvc_prim C rfl rfl rfl rfl (trivial) rfl ?_
  refine rvc_prim C rfl rfl rfl rfl (⟨by decide, by show (2 : Int) < D.length; omega⟩) rfl ?_
  refine rvc_loadp C rfl rfl rfl rfl (rp_at 2 (by decide) (by omega)) ?_
  refine rvc_prim C rfl rfl rfl rfl (trivial) rfl ?_
  refine rvc_prim C rfl rfl rfl rfl (trivial) rfl ?_
  refine rvc_prim C rfl rfl rfl rfl (trivial) rfl ?_
  refine rvc_prim C rfl rfl rfl rfl (trivial) rfl ?_
  refine rvc_prim C rfl rfl rfl rfl (⟨by decide, by show (3 : Int) < D.length; omega⟩) rfl ?_
  refine rvc_loadp C rfl rfl rfl rfl (rp_at 3 (by decide) (by omega)) ?_
  refine rvc_prim C rfl rfl rfl rfl (trivial) rfl ?_
  refine rvc_prim C rfl rfl rfl rfl (trivial) rfl ?_
  refine rvc_prim C rfl rfl rfl rfl (trivial) rfl ?_
  refine rvc_prim C rfl rfl rfl rfl (trivial) rfl ?_
  refine rvc_nil ?_
  refine Awp.ret ?_
  refine ⟨.inl rfl, ?_⟩
  exact congrArg (fun x => some (AV.pv (.int .u32 x))) ((word_val (h 0) (h 1) (h 2) (h 3)).trans (wAcc_val _ 0 h).symm)
theorem R8l.drop {D : List Int} (h : R8l D) (k : Nat) : R8l (D.drop k) := fun s => by
  have := h (k + s)
  simpa [List.getD_eq_getElem?_getD] using this
theorem words_drop (D : List Int) (h : R8l D) (t : Nat) : wordsF (fun s => (D.drop (4 * t)).getD s 0) 0 = wordsF (fun s => D.getD s 0) t := by
  rw [wAcc_val _ 0 (h.drop _), wAcc_val _ t h]
  simp [List.getD_eq_getElem?_getD]
theorem four_calls (f : Option Bool) (D : List Int) (h : R8l D) (hl : 16 ≤ D.length) : PCalls Tryd.prog 55 [sI f .u8 D] (.agg (cI .u32 (tb 4 (wordsF fun s => D.getD s 0)))) := by
 refine PCalls.of_body tabOk Tryd.func55 rfl rfl rfl rfl (by simp [AV.within, cI_within]) mixed fun E hP C hI => ?_
 have e1 := words_drop D h 1
 have e2 := words_drop D h 2
 have e3 := words_drop D h 3
 refine Awp.cons C (fun _ => .pure) (by kernel_rfl) ?_ -- region 0 false
 refine rvc_prim C rfl rfl rfl rfl (trivial) rfl ?_
 refine rvc_nil ?_
 refine Awp.consP C ?_
 refine rvc_prim C rfl rfl rfl rfl (trivial) rfl ?_
 refine rvc_call hP C rfl rfl rfl (word_callsN f D h (by omega)) ?_
 refine rvc_prim C rfl rfl rfl rfl (trivial) rfl ?_
 refine rvc_primv C (sI f .u8 (D.drop 4)) rfl rfl rfl rfl ⟨by decide, by show (4 : Int) ≤ D.length; omega⟩ rfl ((sI_cut 4 D.length (by omega) (by omega) rfl rfl rfl).trans (by rw [List.take_of_length_le (by simp)])) ?_
 refine rvc_call hP C rfl rfl rfl (word_callsN f (D.drop 4) (h.drop 4) (by simp; omega)) ?_
 refine rvc_prim C rfl rfl rfl rfl (trivial) rfl ?_
 refine rvc_primv C (sI f .u8 (D.drop 8)) rfl rfl rfl rfl ⟨by decide, by show (8 : Int) ≤ D.length; omega⟩ rfl ((sI_cut 8 D.length (by omega) (by omega) rfl rfl rfl).trans (by rw [List.take_of_length_le (by simp)])) ?_
 refine rvc_call hP C rfl rfl rfl (word_callsN f (D.drop 8) (h.drop 8) (by simp; omega)) ?_
 refine rvc_prim C rfl rfl rfl rfl (trivial) rfl ?_
 refine rvc_primv C (sI f .u8 (D.drop 12)) rfl rfl rfl rfl ⟨by decide, by show (12 : Int) ≤ D.length; omega⟩ rfl ((sI_cut 12 D.length (by omega) (by omega) rfl rfl rfl).trans (by rw [List.take_of_length_le (by simp)])) ?_
 refine rvc_call hP C rfl rfl rfl (word_callsN f (D.drop 12) (h.drop 12) (by simp; omega)) ?_
 refine rvc_prim C rfl rfl rfl rfl (trivial) rfl ?_
 refine rvc_prim C rfl rfl rfl rfl (trivial) rfl ?_ -- s0 store
 refine rvc_nil ?_
 refine Awp.ret ?_
 refine ⟨.inl rfl, ?_⟩
 refine Eq.trans (b := some (AV.agg (cI .u32 [wordsF (fun s => D.getD s 0) 0, wordsF (fun s => (D.drop 4).getD s 0) 0, wordsF (fun s => (D.drop 8).getD s 0) 0, wordsF (fun s => (D.drop 12).getD s 0) 0]))) rfl ?_
 rw [e1, e2, e3]
 rfl
theorem refXor_calls (k l : Nat → Int) : PCalls Tryd.prog 57 [.agg (cI .u32 (tb 4 k)), .agg (cI .u32 (tb 4 l))] (.agg (cI .u32 (tb 4 (xorF k l)))) := by
 refine PCalls.of_body tabOk Tryd.func57 rfl rfl rfl (by simp [AV.withinL, AV.within, cI_within]) (by simp [AV.within, cI_within]) mixed fun E hP C hI => ?_
 refine Awp.cons C (fun _ => .pure) (by kernel_rfl) ?_ -- region 0 false
 refine rvc_prim C rfl rfl rfl rfl (trivial) rfl ?_
 refine rvc_prim C rfl rfl rfl rfl (trivial) rfl ?_
 refine rvc_prim C rfl rfl rfl rfl (trivial) rfl ?_
 refine rvc_nil ?_
 refine Awp.cons C (fun _ => .pure) (by kernel_rfl) ?_ -- region 1 false
 refine rvc_prim C rfl rfl rfl rfl (⟨by decide, by decide⟩) rfl ?_
 refine rvc_prim C rfl rfl rfl rfl (trivial) rfl ?_
 refine rvc_prim C rfl rfl rfl rfl (⟨by decide, by decide⟩) rfl ?_
 refine rvc_prim C rfl rfl rfl rfl (trivial) rfl ?_
 refine rvc_prim C rfl rfl rfl rfl (trivial) rfl ?_
 refine rvc_prim C rfl rfl rfl rfl (⟨by decide, by decide⟩) rfl ?_
 refine rvc_prim C rfl rfl rfl rfl (trivial) rfl ?_
 refine rvc_prim C rfl rfl rfl rfl (⟨by decide, by decide⟩) rfl ?_
 refine rvc_prim C rfl rfl rfl rfl (trivial) rfl ?_
 refine rvc_prim C rfl rfl rfl rfl (trivial) rfl ?_
 refine rvc_prim C rfl rfl rfl rfl (⟨by decide, by decide⟩) rfl ?_
 refine rvc_prim C rfl rfl rfl rfl (trivial) rfl ?_
 refine rvc_prim C rfl rfl rfl rfl (⟨by decide, by decide⟩) rfl ?_
 refine rvc_prim C rfl rfl rfl rfl (trivial) rfl ?_
 refine rvc_prim C rfl rfl rfl rfl (trivial) rfl ?_
 refine rvc_prim C rfl rfl rfl rfl (⟨by decide, by decide⟩) rfl ?_
 refine rvc_prim C rfl rfl rfl rfl (trivial) rfl ?_
 refine rvc_prim C rfl rfl rfl rfl (⟨by decide, by decide⟩) rfl ?_
 refine rvc_prim C rfl rfl rfl rfl (trivial) rfl ?_
 refine rvc_prim C rfl rfl rfl rfl (trivial) rfl ?_
 refine rvc_prim C rfl rfl rfl rfl (trivial) rfl ?_
 refine rvc_prim C rfl rfl rfl rfl (trivial) rfl ?_ -- s0 store
 refine rvc_nil ?_
 refine Awp.ret ?_
 exact ⟨.inl rfl, rfl⟩
end Go.Proofs.YthnghkkbnhjlgaaDoor
