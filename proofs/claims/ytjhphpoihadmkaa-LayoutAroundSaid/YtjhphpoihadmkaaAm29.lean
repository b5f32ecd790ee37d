/- An abstract machine over the kit's calls, part 29: calls that take a row of one's own and give one; contents of rows that are copied about in. No conditions. -/
import Derived.Test.YtjhphpoihadmkaaAm28
namespace Go.Am

/-! ### Contents -/
section lists
variable {α : Type} {e : Enc α}
theorem setRange_app {A B M Z : List AV} (h : M.length ≤ Z.length) : setRange (setRange (A ++ B ++ Z) (A.length + M.length) B) A.length M = A ++ M ++ B ++ Z.drop M.length := by
  have h1 : (A ++ B ++ Z).drop (A.length + M.length + B.length) = Z.drop M.length := by
    rw [show A.length + M.length + B.length = (A ++ B).length + M.length by simp; omega, List.drop_length_add_append]
  have hP : ∃ P : List AV, P.length = M.length ∧ (A ++ B ++ Z).take (A.length + M.length) = A ++ P := by
    refine ⟨(B ++ Z).take M.length, by simp; omega, ?_⟩
    rw [List.append_assoc, List.take_length_add_append]
  obtain ⟨P, p1, p2⟩ := hP
  simp only [setRange, h1, p2]
  rw [show A ++ P ++ B ++ Z.drop M.length = A ++ (P ++ (B ++ Z.drop M.length)) by simp, List.take_left, show A.length + M.length = A.length + P.length by omega, List.drop_length_add_append, List.drop_left]
  simp
theorem set_mid {A B B' C : List α} (h : B'.length = B.length) {k : Nat} (hk : k = A.length * e.sz) : setRange (encC e (A ++ B ++ C)) k (encC e B') = encC e (A ++ B' ++ C) := by
  subst hk
  rw [encC_append, encC_append, encC_append, encC_append]
  have hl : (encC e A).length = A.length * e.sz := encC_len A
  have hb : (encC e B').length = (encC e B).length := by rw [encC_len, encC_len, h]
  simp only [setRange, ← hl]
  rw [show encC e A ++ encC e B ++ encC e C = encC e A ++ (encC e B ++ encC e C) by simp, List.take_left, hb, List.drop_length_add_append, List.drop_left]
theorem encC_dropN (D : List α) (i : Nat) : (encC e D).drop (i * e.sz) = encC e (D.drop i) := by simp only [encC, ← List.map_drop, encL_drop]
theorem encC_takeN (D : List α) (i : Nat) : (encC e D).take (i * e.sz) = encC e (D.take i) := by simp only [encC, ← List.map_take, encL_take]
theorem encC_takeAll (D : List α) {k : Nat} (h : D.length * e.sz ≤ k) : (encC e D).take k = encC e D := List.take_of_length_le (by rw [encC_len]; exact h)
/-- What is behind a place of a row with room behind it. -/
theorem tail_of {D : List α} {Z : List AV} {i k j : Nat} (hi : i ≤ D.length) (hk : D.length - i ≤ k) (hj : j = (D.length - i) * e.sz) : (((encC e D ++ Z).drop (0 + i * e.sz)).take (k * e.sz)).take j = encC e (D.drop i) := by
  subst hj
  have hle : i * e.sz ≤ (encC e D).length := by rw [encC_len]; exact Nat.mul_le_mul_right _ hi
  rw [Nat.zero_add, List.drop_append_of_le_length hle, encC_dropN, List.take_take]
  have hl : (encC e (D.drop i)).length = (D.length - i) * e.sz := by rw [encC_len, List.length_drop]
  rw [Nat.min_eq_left (Nat.mul_le_mul_right _ hk), ← hl, List.take_left]
theorem delta_int {k : IntKind} {a b : Int} (h : a = b) : ({ v := .pv (.lit (.int k a)) } : Delta) = { v := .pv (.lit (.int k b)) } := by rw [h]
def insertL (D : List α) (i : Nat) (M : List α) : List α := D.take i ++ M ++ D.drop i
theorem insertL_len {D M : List α} {i : Nat} (h : i ≤ D.length) : (insertL D i M).length = D.length + M.length := by simp [insertL]; omega
/-- .. done in place. -/
theorem insert_inplace {D M : List α} {Z : List AV} {i : Nat} (hi : i ≤ D.length) (hZ : M.length * e.sz ≤ Z.length) : setRange (setRange (encC e D ++ Z) ((i + M.length) * e.sz) (encC e (D.drop i))) (i * e.sz) (encC e M) = encC e (insertL D i M) ++ Z.drop (M.length * e.sz) := by
  have hA : (encC e (D.take i)).length = i * e.sz := by rw [encC_len, List.length_take, Nat.min_eq_left hi]
  have hM : (encC e M).length = M.length * e.sz := encC_len M
  have hD : encC e D = encC e (D.take i) ++ encC e (D.drop i) := by rw [← encC_append, List.take_append_drop]
  rw [hD, Nat.add_mul, ← hA, ← hM, setRange_app (by rw [hM]; exact hZ)]
  simp only [insertL, encC_append]
end lists

section steps
variable {E : Env} {T : Tab} {cq : Oper → Cls} {n : Nat} {ops : Array Oper}

/-- The capacity of a slice over an own row is looked at. -/
theorem Awp.capOf {c : Code} {st : St} {Q : Exit → St → Prop} (t b m s : Nat) (tt : Bool) (cs : List AV) (ht : st.S t = some (.sl b 0 m s tt)) (hb : st.H b = some (.cells cs)) (hl : cs.length = m * s) (h : ∀ k, m ≤ k → Awp E c (st.set t (.slc b 0 m s k)) Q) : Awp E c st Q := fun a w hat => by
  obtain ⟨k, h1, h2, _⟩ := hat.openCap ht hb hl
  exact h k h1 a w h2
/-- What lies behind the elements is anything. -/
theorem At.extend {st : St} {a : Act} {w : World} (h : At E st a w) {t b m s k : Nat} {cs : List AV} (ht : st.S t = some (.slc b 0 m s k)) (hb : st.H b = some (.cells cs)) (hl : cs.length ≤ k * s) : At E ⟨st.S, fun x => if x = b then some (.cells (cs ++ List.replicate (k * s - cs.length) .undef)) else st.H x, st.U⟩ a w := by
  obtain ⟨ι, imm, h⟩ := h
  have h0 := h.slot t _ ht
  simp only [VH] at h0
  obtain ⟨r, z, i1, i2, i3, i5⟩ := h0
  refine ⟨ι, imm, { h with heap := ⟨fun x q hx => ?_, fun x x' q q' r1 z1 z2 hx hx' => ?_⟩ }⟩
  · by_cases e : x = b
    · subst e
      simp only [if_true] at hx
      obtain rfl := Option.some.inj hx
      obtain ⟨r', z', p1, p2, p3, c1, e1, f1, q1, q2, q3, q4⟩ := h.heap.blk x _ hb
      rw [i1] at p1
      simp only [Option.some.injEq, Prod.mk.injEq] at p1
      obtain ⟨rfl, rfl⟩ := p1
      obtain ⟨c2, e2, f2, s1, s2⟩ := i5
      rw [q1] at s1
      simp only [Option.some.injEq, Obj.cells.injEq] at s1
      obtain ⟨rfl, rfl, rfl⟩ := s1
      refine ⟨r, z, i1, p2, p3, c1, e1, f1, q1, ?_, q3, CellsH.app q4 (CellsH.undefs ?_)⟩
      · rw [List.length_append, List.length_replicate]; omega
      · omega
    · simp only [if_neg e] at hx
      exact h.heap.blk x q hx
  · have key : ∀ y k', (if y = b then some (Blk.cells (cs ++ List.replicate (k * s - cs.length) .undef)) else st.H y) = some k' → ∃ k', st.H y = some k' := fun y k' hy => by
      by_cases e : y = b
      · subst e; exact ⟨_, hb⟩
      · rw [if_neg e] at hy; exact ⟨k', hy⟩
    obtain ⟨k1, hk1⟩ := key x q hx
    obtain ⟨k2, hk2⟩ := key x' q' hx'
    exact h.heap.inj x x' k1 k2 r1 z1 z2 hk1 hk2
theorem Awp.extend {c : Code} {st : St} {Q : Exit → St → Prop} (t b m s k : Nat) (cs : List AV) (ht : st.S t = some (.slc b 0 m s k)) (hb : st.H b = some (.cells cs)) (hl : cs.length ≤ k * s) (h : Awp E c ⟨st.S, fun x => if x = b then some (.cells (cs ++ List.replicate (k * s - cs.length) .undef)) else st.H x, st.U⟩ Q) : Awp E c st Q := fun a w hat => h a w (hat.extend ht hb hl)
theorem CellsH.left {ι : Nat → Option (Nat × Nat)} {imm : Nat → Prop} {w : World} {c : Array Value} : ∀ {xs ys : List AV} {o : Nat}, CellsH ι imm w c (xs ++ ys) o → CellsH ι imm w c xs o
  | [], _, _, _ => trivial
  | _ :: _, _, _, h => ⟨h.1, CellsH.left h.2⟩
/-- What lies behind is forgotten. -/
theorem At.trim {st : St} {a : Act} {w : World} (h : At E st a w) {b : Nat} {xs ys : List AV} (hb : st.H b = some (.cells (xs ++ ys))) : At E ⟨st.S, fun x => if x = b then some (.cells xs) else st.H x, st.U⟩ a w := by
  obtain ⟨ι, imm, h⟩ := h
  refine ⟨ι, imm, { h with heap := ⟨fun x k hx => ?_, fun x x' k k' r1 z1 z2 hx hx' => ?_⟩ }⟩
  · by_cases e : x = b
    · subst e
      simp only [if_true] at hx
      obtain rfl := Option.some.inj hx
      obtain ⟨r', z', p1, p2, p3, c1, e1, f1, q1, q2, q3, q4⟩ := h.heap.blk x _ hb
      exact ⟨r', z', p1, p2, p3, c1, e1, f1, q1, by rw [List.length_append] at q2; omega, q3, CellsH.left q4⟩
    · simp only [if_neg e] at hx
      exact h.heap.blk x k hx
  · have key : ∀ y k', (if y = b then some (Blk.cells xs) else st.H y) = some k' → ∃ k', st.H y = some k' := fun y k' hy => by
      by_cases e : y = b
      · subst e; exact ⟨_, hb⟩
      · rw [if_neg e] at hy; exact ⟨k', hy⟩
    obtain ⟨k1, hk1⟩ := key x k hx
    obtain ⟨k2, hk2⟩ := key x' k' hx'
    exact h.heap.inj x x' k1 k2 r1 z1 z2 hk1 hk2
theorem Awp.trim {c : Code} {st : St} {Q : Exit → St → Prop} (b : Nat) (xs ys : List AV) (hb : st.H b = some (.cells (xs ++ ys))) (h : Awp E c ⟨st.S, fun x => if x = b then some (.cells xs) else st.H x, st.U⟩ Q) : Awp E c st Q := fun a w hat => h a w (hat.trim hb)

theorem WeakerR.ofLI {E : Env} {st : St} {τ : Nat → Nat} {S : List (Nat × AV)} {H : List (Nat × Blk)} {U Ks I : List Nat} (hI : E.I = I) (h1 : okS st.S τ U S) (h2 : okH st.H τ U Ks H) (h5 : (Ks.all fun x => Ks.all fun y => !(τ x == τ y) || x == y) = true) (h6 : (I.all fun b => U.contains b && τ b == b) = true) : WeakerR st τ S H U E.I :=
  ⟨fun x hx => (okS_mem h1 x hx).1, fun x hx => (h2 x hx).1, List.all_eq_true.2 fun x hx => (okS_mem h1 x hx).2, List.all_eq_true.2 fun x hx => by rw [Bool.and_eq_true]; exact ⟨(h2 x hx).2.2.1, (h2 x hx).2.2.2⟩, fun x hx y hy e => by
    have := List.all_eq_true.1 (List.all_eq_true.1 h5 x.1 (by simpa using (h2 x hx).2.1)) y.1 (by simpa using (h2 y hy).2.1)
    simpa [e] using this, by rw [hI]; exact h6⟩

/-- A call that takes a row (block 0) and gives one (block 1). -/
structure TCalls (P : Program) (f : FuncId) (avs : List AV) (k : Blk) (av : AV) (k' : Blk) : Prop where
  fn : ∃ fn, P.funcs[f]? = some fn ∧ (fn.name == "runtime.NumGoroutine") = false ∧ fn.body.isNone = false
  args : AV.withinL (fun b => b == 0) avs = true
  res : av.within (fun b => b == 1) = true
  blk : k.within (fun _ => false) = true
  blk' : k'.within (fun _ => false) = true
  calls : ACalls P f [0] avs [(0, k)] av [(1, k')]

theorem TCalls.of_body {P : Program} {T : Tab} (hT : TabOk P T) {f : FuncId} {fn : Func} {body : Code} (hf : P.funcs[f]? = some fn) (hb : fn.body = some body) (hn : (fn.name == "runtime.NumGoroutine") = false) {avs : List AV} {k k' : Blk} {av : AV} (hl : decide (avs.length ≤ fn.ntmps) = true) (ha : AV.withinL (fun b => b == 0) avs = true) (hr : av.within (fun b => b == 1) = true) (hk : k.within (fun _ => false) = true) (hk' : k'.within (fun _ => false) = true) (hm : P.follows .mixedOrders = true)
    (h : ∀ E : Env, E.P = P → Cx E T fn.ntmps → E.I = [0] → Awp E body (entry avs [(0, k)] [0]) fun e st => (e = .ret ∨ e = .normal) ∧ resAV T st fn.results.toList = some av ∧ st.H 1 = some k') : TCalls P f avs k av k' where
  fn := ⟨fn, hf, hn, by simp [hb]⟩
  args := ha
  res := hr
  blk := hk
  blk' := hk'
  calls := ACalls.of_body hT hf hb (by simpa using hl) fun E hP hE hI => (h E hP ⟨hP ▸ hT, hE, hP ▸ hm⟩ hI).mono fun e st ⟨h1, h2, h3⟩ => ⟨h1, h2, fun x hx => by
    simp only [List.mem_singleton] at hx
    subst hx; exact h3⟩

mutual
theorem AV.within_const {d : Nat} : ∀ (x : AV), (x.ren fun _ => d).within (fun b => b == d) = true
  | .undef | .pv _ | .tsl _ _ | .rp _ => rfl
  | .ptr b o | .sl b _ _ _ _ | .slc b _ _ _ _ | .mp b => by simp [AV.ren, AV.within]
  | .agg cs => by simp only [AV.ren, AV.within, AV.withinL_const cs]
  | .tup cs => by simp only [AV.ren, AV.within, AV.withinL_const cs]
  | .fn f xs ys => by simp only [AV.ren, AV.within, AV.withinL_const xs, AV.withinL_const ys, Bool.and_self]
theorem AV.withinL_const {d : Nat} : ∀ (xs : List AV), AV.withinL (fun b => b == d) (AV.renL (fun _ => d) xs) = true
  | [] => rfl
  | x :: xs => by simp only [AV.renL, AV.withinL, AV.within_const x, AV.withinL_const xs, Bool.and_self]
end

theorem rexec_callT {P : Program} (hP : E.P = P) (C : Cx E T n) {f : FuncId} {avs args : List AV} {av : AV} {k k' : Blk} {d b : Nat} {c : Call} {ty : TypeId} {pos : String} {af : Array Edge} {g : Option (Nat × Bool)} {st : St} {K : St → Prop} (h1 : dstB n ⟨some d, .call c, ty, pos, af, g⟩ = true) (hU : st.U d = false) (hc : c.callee = .value (.func f)) (hv : evls st.S c.args.toList = some args)
    (F : TCalls P f avs k av k') (ha : AV.renL (fun _ => b) avs = args) (hb : st.H b = some k) (h7 : K (st.after (some d) { v := av.ren fun _ => d, new := [(d, k')], wr := [(b, none)] })) (hreach : reachB (.fn f [] [] :: args) [] [(b, k)] = true := by rfl) (hbr : refs (.fn f [] [] :: args) [(b, k)] b = true := by rfl) (hcl : clsOf cq ⟨some d, .call c, ty, pos, af, g⟩ = .writer := by rfl) : rexec E cq n ⟨some d, .call c, ty, pos, af, g⟩ st K := by
  subst hP
  obtain ⟨fn, q1, q2, q3⟩ := F.fn
  have hd : ∀ x, some d = some x → x < E.n := fun x e => by
    simp only [dstB, decide_eq_true_eq] at h1
    simp only [Option.some.injEq] at e
    subst e
    exact C.n ▸ h1
  have hin : inI [0] = fun b => b == 0 := funext fun b => by cases b <;> rfl
  have hk1 : Names.knows ⟨fun _ => b, [(d, 1)]⟩ [0] 1 = true := by simp [Names.knows, inI]
  have ok : CallOk ⟨fun _ => b, [(d, 1)]⟩ [0] avs [(0, k)] [(1, k')] av := by
    refine { args := by rw [hin]; exact F.args, ids := ?_, blks := ?_, nodup := by simp, inj := ?_, nodupL := by simp, nodupR := by simp, fresh := ?_, res := ?_, res' := ?_, kept := ?_, all := ?_, used := ?_ }
    · intro x hx; simp only [List.mem_singleton] at hx; subst hx; rfl
    · intro x hx; simp only [List.mem_singleton] at hx; subst hx; exact Blk.within_mono (fun b hb => by cases hb) k F.blk
    · intro x y hx hy _; simp [inI] at hx hy; omega
    · intro x hx; simp only [List.mem_singleton] at hx; subst hx; rfl
    · refine AV.within_mono (fun x hx => ?_) av F.res
      have : x = 1 := by simpa using hx
      subst this; exact hk1
    · intro x hx
      simp only [List.mem_singleton] at hx
      subst hx
      exact ⟨hk1, Blk.within_mono (fun b hb => by cases hb) k' F.blk'⟩
    · intro x hx h0; simp only [List.mem_singleton] at hx; subst hx; simp [inI] at h0
    · intro x hx; simp only [List.mem_singleton] at hx; subst hx; rfl
    · intro x hx
      have : x = 0 := by simpa [inI] using hx
      subst this; exact .inr rfl
  have hdo := does_call (E := E) (o := ⟨some d, .call c, ty, pos, af, g⟩) (c := c) rfl hc hd q1 q2 q3 F.calls ok (args := args) (caps := []) (by simpa using ha)
  have hτ : Names.τ ⟨fun _ => b, [(d, 1)]⟩ [0] 1 = d := by simp [Names.τ, inI]
  have hav : av.ren (Names.τ ⟨fun _ => b, [(d, 1)]⟩ [0]) = av.ren fun _ => d := by
    refine AV.ren_congr (U := fun b => b == 1) (fun x hx => ?_) av F.res
    have : x = 1 := by simpa using hx
    subst this; exact hτ
  have he : Names.delta ⟨fun _ => b, [(d, 1)]⟩ [0] [(0, k)] [(1, k')] av = { v := av.ren fun _ => d, new := [(d, k')], wr := [(b, none)] } := by
    simp only [Names.delta, List.map_nil, List.map_cons, hav]
    have e1 : (heapOf [(1, k')] 1).getD (.cells []) = k' := rfl
    have e2 : heapOf [(1, k')] 0 = none := rfl
    rw [e1, e2, Blk.ren_none F.blk']
    rfl
  have hH : ([(0, k)] : List (Nat × Blk)).map (fun x => ((fun _ => b) x.1, x.2.ren (fun _ => b))) = [(b, k)] := by
    simp only [List.map_cons, List.map_nil, Blk.ren_none F.blk]
  rw [he] at hdo
  have hdo' : Does E ⟨some d, .call c, ty, pos, af, g⟩ (.fn f [] [] :: args) [(b, k)] { v := av.ren fun _ => d, new := [(d, k')], wr := [(b, none)] } := by
    rw [← hH]; exact hdo
  have hops : (Op.operands (.call c)).toList = .func f :: c.args.toList := by simp [Op.operands, Call.operands, hc]
  refine ⟨h1, .fn f [] [] :: args, [(b, k)], _, { vals := ?_, deps := ?_, fresh := ?_, does := hdo', reach := hreach, inV := ?_, inN := ?_, inW := ?_, wr := ?_, pure := fun h => ?_, quiet := fun h => ?_, foot := by rw [hcl]; rfl }, h7⟩
  · show evls st.S (Op.operands (.call c)).toList = _
    rw [hops]; simp only [evls, evl, hv]
  · intro x hx; simp only [List.mem_singleton] at hx; subst hx; exact hb
  · intro x hx; simp only [List.mem_singleton] at hx; subst hx; exact hU
  · refine AV.within_mono (U := fun b => b == d) (fun x hx => ?_) _ (AV.within_const _)
    have : x = d := by simpa using hx
    subst this; simp
  · intro x hx
    simp only [List.mem_singleton] at hx
    subst hx
    exact Blk.within_mono (fun b hb => by cases hb) k' F.blk'
  · intro x hx q hq
    simp only [List.mem_singleton] at hx
    subst hx; cases hq
  · intro x hx
    simp only [List.mem_singleton] at hx
    subst hx
    rw [hbr]; simp
  · rw [hcl] at h; cases h
  · rw [hcl] at h; cases h

theorem h_slc {U : Nat → Bool} {b n n' s c : Nat} {p : PV} (h : AV.withinL U [.slc b 0 n s c, .pv p] = true) : (AV.slc b 0 n' s c).within U = true := by
  simpa [AV.withinL, AV.within] using h
theorem rexec_appendZ (C : Cx E T n) {d : Nat} {c : Call} {t t2 : TypeId} {ty : TypeId} {pos : String} {af : Array Edge} {g : Option (Nat × Bool)} {st : St} {K : St → Prop} (hc : c.callee = .builtin .append) (hty : c.argTypes = #[t, t2]) (h1 : dstB n ⟨some d, .call c, ty, pos, af, g⟩ = true) (hU : st.U d = false)
    {r re r2 : TyRow} (hr : T.lookup t = some r) {te : TypeId} (hdesc : r.desc = .slice te) (hre : T.lookup te = some re) (hr2 : T.lookup t2 = some r2) {kd : IntKind} (hd2 : r2.desc = .int kd)
    {α : Type} {e : Enc α} (a : α) (D : List α) (i k : Nat) {b s : Nat} {kk : IntKind} (hs : re.size = e.sz) (hv : evls st.S c.args.toList = some [.slc b 0 i re.size s, .pv (.lit (.int kk (k : Int)))]) (hb : st.H b = some (.cells (encC e D))) (hi : i ≤ D.length) (hk : 0 < k) (hroom : s < i + k) (hbig : (2 * (i + k) + 192) * re.bytes ≤ 281474976710656) (hpos : 0 < re.bytes) (hsz : 0 < re.size) (hzs : re.zero.cells.size = re.size) (hz : re.zero.cells.toList.map constCell = (e.enc a).map .pv)
    (h7 : K (st.after (some d) { v := .sl d 0 (i + k) re.size false, new := [(d, .cells (encC e (D.take i ++ List.replicate k a)))] })) (hcl : clsOf cq ⟨some d, .call c, ty, pos, af, g⟩ = .writer := by rfl) : rexec E cq n ⟨some d, .call c, ty, pos, af, g⟩ st K := by
  have hd : d < E.n := by
    simp only [dstB, decide_eq_true_eq] at h1
    exact C.n ▸ h1
  have hdo := does_appendZ C.tab (o := ⟨some d, .call c, ty, pos, af, g⟩) rfl hc hty rfl hd hr hdesc hre hr2 hd2 (b := b) (i := i) (k := k) (s := s) (kk := kk) (cs := encC e D) hk hroom (by rw [encC_len, hs]; exact Nat.mul_le_mul_right _ hi) hsz hbig hpos hzs
  rw [hs, encC_takeN, zeroAV_rep (by rw [hzs, hs]) hz, ← encC_append, ← hs] at hdo
  have hops : (Op.operands (.call c)).toList = c.args.toList := by simp [Op.operands, Call.operands, hc]
  refine ⟨h1, _, _, _, { vals := ?_, deps := ?_, fresh := ?_, does := hdo, reach := ?_, inV := ?_, inN := ?_, inW := ?_, wr := ?_, pure := fun h => ?_, quiet := fun h => ?_, foot := by rw [hcl]; rfl }, h7⟩
  · show evls st.S (Op.operands (.call c)).toList = _
    rw [hops]; exact hv
  · intro x hx; simp only [List.mem_singleton] at hx; subst hx; exact hb
  · intro x hx; simp only [List.mem_singleton] at hx; subst hx; exact hU
  · exact reach_ptr fun U => .inl rfl
  · simp [AV.within]
  · intro x hx; simp only [List.mem_singleton] at hx; subst hx; exact within_pvs _ _
  · intro x hx; cases hx
  · intro x hx; cases hx
  · rw [hcl] at h; cases h
  · rfl

/-- copy of unchanging elements over elements of an own row. -/
theorem rexec_copyS (C : Cx E T n) {d : Option Nat} {c : Call} {t t2 : TypeId} {ty : TypeId} {pos : String} {af : Array Edge} {g : Option (Nat × Bool)} {st : St} {K : St → Prop} (hc : c.callee = .builtin .copy) (hty : c.argTypes = #[t, t2]) (h1 : dstB n ⟨d, .call c, ty, pos, af, g⟩ = true) {r re : TyRow} (hr : T.lookup t = some r) {te : TypeId} (hdesc : r.desc = .slice te) (hre : T.lookup te = some re)
    {α : Type} {e : Enc α} {f : Option Bool} (D : List α) {b k m : Nat} {tt : Bool} {cs : List AV} (cs' : List AV) (hs : re.size = e.sz) (hv : evls st.S c.args.toList = some [.sl b k m re.size tt, sS f e D]) (hb : st.H b = some (.cells cs)) (hm : D.length ≤ m) (hfit : k + D.length * e.sz ≤ cs.length) (hcs' : setRange cs k (encC e D) = cs')
    (h7 : K (st.after d { v := .pv (.lit (.int .i64 (D.length : Int))), wr := [(b, some (.cells cs'))] })) (hcl : clsOf cq ⟨d, .call c, ty, pos, af, g⟩ = .writer := by rfl) : rexec E cq n ⟨d, .call c, ty, pos, af, g⟩ st K := by
  have hmin : min D.length m = D.length := Nat.min_eq_left hm
  refine rexec_copy C hc hty h1 hr hdesc hre (m' := D.length) (hs' := []) (ys := encC e D) cs' hv hb rfl (fun x hx => by cases hx) (by rw [encC_len, hs]) (by rw [hmin, hs]; exact hfit) ?_ (fun U _ => within_pvs _ _) ?_ ?_ ?_ hcl
  · exact encC_flat _ _
  · rw [hmin, hs, encC_takeAll _ (Nat.le_refl _)]; exact hcs'
  · rw [hmin]; exact h7
  · exact reach_ptr fun U => .inl rfl

/-- copy of elements of an own row over elements of an own row (perhaps the same one). -/
theorem rexec_copyO (C : Cx E T n) {d : Option Nat} {c : Call} {t t2 : TypeId} {ty : TypeId} {pos : String} {af : Array Edge} {g : Option (Nat × Bool)} {st : St} {K : St → Prop} (hc : c.callee = .builtin .copy) (hty : c.argTypes = #[t, t2]) (h1 : dstB n ⟨d, .call c, ty, pos, af, g⟩ = true) {r re : TyRow} (hr : T.lookup t = some r) {te : TypeId} (hdesc : r.desc = .slice te) (hre : T.lookup te = some re)
    {α : Type} {e : Enc α} (X : List α) {b k m b2 k2 m2 : Nat} {tt tt2 : Bool} {cs cs2 : List AV} (cs' : List AV) (hs : re.size = e.sz) (hv : evls st.S c.args.toList = some [.sl b k m re.size tt, .sl b2 k2 m2 re.size tt2]) (hb : st.H b = some (.cells cs)) (hb2 : st.H b2 = some (.cells cs2)) (hf2 : k2 + m2 * re.size ≤ cs2.length) (hX : ((cs2.drop k2).take (m2 * re.size)).take (X.length * e.sz) = encC e X) (hm : min m2 m = X.length) (hfit : k + X.length * e.sz ≤ cs.length) (hcs' : setRange cs k (encC e X) = cs')
    (h7 : K (st.after d { v := .pv (.lit (.int .i64 (X.length : Int))), wr := [(b, some (.cells cs'))] })) (hreach : reachB [.sl b k m re.size tt, .sl b2 k2 m2 re.size tt2] [] [(b, .cells cs), (b2, .cells cs2)] = true) (hcl : clsOf cq ⟨d, .call c, ty, pos, af, g⟩ = .writer := by rfl) : rexec E cq n ⟨d, .call c, ty, pos, af, g⟩ st K := by
  refine rexec_copy C hc hty h1 hr hdesc hre (m' := m2) (hs' := [(b2, .cells cs2)]) (ys := (cs2.drop k2).take (m2 * re.size)) cs' hv hb ?_ (fun x hx => ?_) ?_ (by rw [hm, hs]; exact hfit) ?_ (fun U h => ?_) ?_ ?_ hreach hcl
  · simp only [srcAV, if_true, hb2]
  · simp only [List.mem_singleton] at hx; subst hx; exact hb2
  · rw [List.length_take, List.length_drop]; omega
  · rw [hm, hs, ← hs] at *
    rw [hs, hX]; have := encC_flat (e := e) X ((encC e X).length); rwa [List.take_length] at this
  · have := h _ (List.mem_singleton.2 rfl)
    simp only [Blk.within] at this
    exact within_sub this fun x hx => List.mem_of_mem_drop (List.mem_of_mem_take hx)
  · rw [hm, hs]; rw [hs] at hX; rw [hX]; exact hcs'
  · rw [hm]; exact h7

theorem rexec_overlaps (C : Cx E T n) {d : Option Nat} {c : Call} {ty : TypeId} {pos : String} {af : Array Edge} {g : Option (Nat × Bool)} {st : St} {K : St → Prop} {f : FuncId} {fn : Func} {tR t te : TypeId} (h1 : dstB n ⟨d, .call c, ty, pos, af, g⟩ = true) (hc : c.callee = .value (.func f)) (hf : E.P.funcs[f]? = some fn) (hn : (fn.name == "runtime.NumGoroutine") = false) (hb : fn.body.isNone = true) (hnx : Extern.findNext fn = none) (he : Extern.find fn = some (Extern.SlicesOverlaps.overlaps #[t, t] #[tR]))
    {r re : TyRow} (hr : T.lookup t = some r) (hdesc : r.desc = .slice te) (hre : T.lookup te = some re) {fl : Option Bool} {m : Nat} {ps : List PV} {b k l : Nat} {tt : Bool} {cs : List AV} (hv : evls st.S c.args.toList = some [.pv (.sl fl m ps), .sl b k l re.size tt]) (hbk : st.H b = some (.cells cs)) (hps : ps ≠ []) (hcs : cs ≠ [])
    (h7 : K (st.after d { v := .pv (.lit (.bool false)) })) (hcl : clsOf cq ⟨d, .call c, ty, pos, af, g⟩ = .writer := by rfl) : rexec E cq n ⟨d, .call c, ty, pos, af, g⟩ st K := by
  have hd : ∀ x, d = some x → x < E.n := fun x e => by
    simp only [dstB, e, decide_eq_true_eq] at h1
    exact C.n ▸ h1
  have hdo := does_overlaps C.tab (o := ⟨d, .call c, ty, pos, af, g⟩) rfl hc hd hf hn hb hnx he hr hdesc hre (fl := fl) (m := m) (ps := ps) hps (b := b) (k := k) (l := l) (tt := tt) (cs := cs) hcs
  have hops : (Op.operands (.call c)).toList = .func f :: c.args.toList := by simp [Op.operands, Call.operands, hc]
  refine ⟨h1, _, _, _, { vals := ?_, deps := ?_, fresh := fun _ h => (by cases h), does := hdo, reach := ?_, inV := rfl, inN := fun _ h => (by cases h), inW := fun _ h => (by cases h), wr := fun _ h => (by cases h), pure := fun h => ?_, quiet := fun _ => rfl, foot := by rw [hcl]; rfl }, h7⟩
  · show evls st.S (Op.operands (.call c)).toList = _
    rw [hops]; simp only [evls, evl, hv]
  · intro x hx; simp only [List.mem_singleton] at hx; subst hx; exact hbk
  · simp [reachB, refs, AV.withinL, AV.within]
  · rw [hcl] at h; cases h

theorem rexec_sliceLoC (C : Cx E T n) {d : Option Nat} {t : TypeId} {x y : Operand} {ty : TypeId} {pos : String} {af : Array Edge} {g : Option (Nat × Bool)} {st : St} {K : St → Prop} {b m s c l : Nat} {kk : IntKind} {r re : TyRow} {te : TypeId} (h1 : dstB n ⟨d, .slice t x (some y) none none, ty, pos, af, g⟩ = true)
    (h2 : evls st.S [x, y] = some [.slc b 0 m s c, .pv (.lit (.int kk (l : Int)))]) (hr : T.lookup t = some r) (hdesc : r.desc = .slice te) (hre : T.lookup te = some re) (hs : re.size = s) (hl : l ≤ m) (h7 : K (st.after d { v := .undef })) : rexec E cq n ⟨d, .slice t x (some y) none none, ty, pos, af, g⟩ st K := by
  subst hs
  exact rexec_value C h1 rfl h2 (fun hd => does_sliceC_lo C.tab rfl hd hr hdesc hre hl) (fun _ _ => rfl) h7
theorem rexec_sliceHiC (C : Cx E T n) {d : Option Nat} {t : TypeId} {x y : Operand} {ty : TypeId} {pos : String} {af : Array Edge} {g : Option (Nat × Bool)} {st : St} {K : St → Prop} {b m s c : Nat} {kk : IntKind} {r re : TyRow} {te : TypeId} (h : Nat) (h1 : dstB n ⟨d, .slice t x none (some y) none, ty, pos, af, g⟩ = true)
    (h2 : evls st.S [x, y] = some [.slc b 0 m s c, .pv (.lit (.int kk (h : Int)))]) (hr : T.lookup t = some r) (hdesc : r.desc = .slice te) (hre : T.lookup te = some re) (hs : re.size = s) (hh : h ≤ c) (h7 : K (st.after d { v := .slc b 0 h s c })) : rexec E cq n ⟨d, .slice t x none (some y) none, ty, pos, af, g⟩ st K := by
  subst hs
  exact rexec_value C h1 rfl h2 (fun hd => does_sliceC_hi C.tab rfl hd hr hdesc hre hh) (fun _ h => h_slc h) h7
theorem rexec_lenC (C : Cx E T n) {d : Option Nat} {c : Call} {t : TypeId} {ty : TypeId} {pos : String} {af : Array Edge} {g : Option (Nat × Bool)} {st : St} {K : St → Prop} {b m s k : Nat} {r : TyRow} {te : TypeId} (hc : c.callee = .builtin .len) (hty : c.argTypes = #[t]) (h1 : dstB n ⟨d, .call c, ty, pos, af, g⟩ = true)
    (h2 : evls st.S (Op.operands (.call c)).toList = some [.slc b 0 m s k]) (hr : T.lookup t = some r) (hdesc : r.desc = .slice te) (h7 : K (st.after d { v := .pv (.lit (.int .i64 m)) })) : rexec E cq n ⟨d, .call c, ty, pos, af, g⟩ st K :=
  rexec_value C h1 rfl h2 (fun hd => does_lenC C.tab rfl hc hty hd hr hdesc) (fun _ _ => rfl) h7
theorem rexec_capC (C : Cx E T n) {d : Option Nat} {c : Call} {t : TypeId} {ty : TypeId} {pos : String} {af : Array Edge} {g : Option (Nat × Bool)} {st : St} {K : St → Prop} {b m s k : Nat} {r : TyRow} {te : TypeId} (hc : c.callee = .builtin .cap) (hty : c.argTypes = #[t]) (h1 : dstB n ⟨d, .call c, ty, pos, af, g⟩ = true)
    (h2 : evls st.S (Op.operands (.call c)).toList = some [.slc b 0 m s k]) (hr : T.lookup t = some r) (hdesc : r.desc = .slice te) (h7 : K (st.after d { v := .pv (.lit (.int .i64 k)) })) : rexec E cq n ⟨d, .call c, ty, pos, af, g⟩ st K :=
  rexec_value C h1 rfl h2 (fun hd => does_capC C.tab rfl hc hty hd hr hdesc) (fun _ _ => rfl) h7

/-- A part of an own row, from a place on. -/
theorem rexec_sliceOwn (C : Cx E T n) {d : Option Nat} {t : TypeId} {x y : Operand} {ty : TypeId} {pos : String} {af : Array Edge} {g : Option (Nat × Bool)} {st : St} {K : St → Prop} {b m s l : Nat} {kk : IntKind} {r re : TyRow} {te : TypeId} (h1 : dstB n ⟨d, .slice t x (some y) none none, ty, pos, af, g⟩ = true)
    (h2 : evls st.S [x, y] = some [.sl b 0 m s false, .pv (.lit (.int kk (l : Int)))]) (hr : T.lookup t = some r) (hdesc : r.desc = .slice te) (hre : T.lookup te = some re) (hs : s = re.size) (hl : l < m) (h7 : K (st.after d { v := .sl b (0 + l * s) (m - l) s false })) (h8 : footB (clsOf cq ⟨d, .slice t x (some y) none none, ty, pos, af, g⟩) [] { v := .sl b (0 + l * s) (m - l) s false } = true := by rfl) : rexec E cq n ⟨d, .slice t x (some y) none none, ty, pos, af, g⟩ st K := by
  subst hs
  refine rexec_prim C (p := (0 ≤ (l : Int) ∧ (l : Int) ≤ (m : Int)) ∧ ((l : Int) = 0 ∨ (l : Int) < (m : Int))) (hs := []) (δ := { v := .sl b (0 + l * re.size) (m - l) re.size false }) h1 rfl h2 ?_ ⟨⟨by omega, by omega⟩, by omega⟩ rfl h7 h8
  simp only [prim, primSlice, hr, optI, sliceAV, hdesc, hre, cutOf]
  simp
theorem sl_to {o : Option AV} {τ : Nat → Nat} {b b' m m' s : Nat} {t : Bool} (h : o = some (.sl b' 0 m s t)) (hb : τ b = b') (hm : m' = m) : o = some ((AV.sl b 0 m' s t).ren τ) := by
  subst hm; rw [h]; simp only [AV.ren, hb]
theorem encL_ne {α : Type} {e : Enc α} {D : List α} (h : 0 < D.length) (hs : 0 < e.sz) : encL e D ≠ [] := fun h0 => by
  have h1 := congrArg List.length h0
  rw [encL_len, List.length_nil] at h1
  have := Nat.mul_pos h hs
  omega
theorem encC_ne {α : Type} {e : Enc α} {D : List α} {Z : List AV} (h : 0 < D.length) (hs : 0 < e.sz) : encC e D ++ Z ≠ [] := fun h0 => by
  have h1 := congrArg List.length h0
  rw [List.length_append, encC_len, List.length_nil] at h1
  have := Nat.mul_pos h hs
  omega

/-- A call that takes a row (block 0) and gives what does not change. -/
structure XCalls (P : Program) (f : FuncId) (avs : List AV) (k : Blk) (av : AV) : Prop where
  fn : ∃ fn, P.funcs[f]? = some fn ∧ (fn.name == "runtime.NumGoroutine") = false ∧ fn.body.isNone = false
  args : AV.withinL (fun b => b == 0) avs = true
  res : av.within (fun _ => false) = true
  blk : k.within (fun _ => false) = true
  calls : ACalls P f [0] avs [(0, k)] av []
theorem XCalls.of_body {P : Program} {T : Tab} (hT : TabOk P T) {f : FuncId} {fn : Func} {body : Code} (hf : P.funcs[f]? = some fn) (hb : fn.body = some body) (hn : (fn.name == "runtime.NumGoroutine") = false) {avs : List AV} {k : Blk} {av : AV} (hl : decide (avs.length ≤ fn.ntmps) = true) (ha : AV.withinL (fun b => b == 0) avs = true) (hr : av.within (fun _ => false) = true) (hk : k.within (fun _ => false) = true) (hm : P.follows .mixedOrders = true)
    (h : ∀ E : Env, E.P = P → Cx E T fn.ntmps → E.I = [0] → Awp E body (entry avs [(0, k)] [0]) fun e st => (e = .ret ∨ e = .normal) ∧ resAV T st fn.results.toList = some av) : XCalls P f avs k av where
  fn := ⟨fn, hf, hn, by simp [hb]⟩
  args := ha
  res := hr
  blk := hk
  calls := ACalls.of_body hT hf hb (by simpa using hl) fun E hP hE hI => (h E hP ⟨hP ▸ hT, hE, hP ▸ hm⟩ hI).mono fun e st ⟨h1, h2⟩ => ⟨h1, h2, fun x hx => by cases hx⟩
theorem rexec_callX {P : Program} (hP : E.P = P) (C : Cx E T n) {f : FuncId} {avs args : List AV} {av : AV} {k : Blk} {d : Option Nat} {b : Nat} {c : Call} {ty : TypeId} {pos : String} {af : Array Edge} {g : Option (Nat × Bool)} {st : St} {K : St → Prop} (h1 : dstB n ⟨d, .call c, ty, pos, af, g⟩ = true) (hc : c.callee = .value (.func f)) (hv : evls st.S c.args.toList = some args)
    (F : XCalls P f avs k av) (ha : AV.renL (fun _ => b) avs = args) (hb : st.H b = some k) (h7 : K (st.after d { v := av, wr := [(b, none)] })) (hreach : reachB (.fn f [] [] :: args) [] [(b, k)] = true := by rfl) (hbr : refs (.fn f [] [] :: args) [(b, k)] b = true := by rfl) (hp : clsOf cq ⟨d, .call c, ty, pos, af, g⟩ ≠ .pure := by decide) (hq : clsOf cq ⟨d, .call c, ty, pos, af, g⟩ ≠ .quiet := by decide) (hft : footB (clsOf cq ⟨d, .call c, ty, pos, af, g⟩) [(b, k)] { v := av, wr := [(b, none)] } = true := by rfl) : rexec E cq n ⟨d, .call c, ty, pos, af, g⟩ st K := by
  subst hP
  obtain ⟨fn, q1, q2, q3⟩ := F.fn
  have hd : ∀ x, d = some x → x < E.n := fun x e => by
    simp only [dstB, e, decide_eq_true_eq] at h1
    exact C.n ▸ h1
  have hin : inI [0] = fun b => b == 0 := funext fun b => by cases b <;> rfl
  have ok : CallOk ⟨fun _ => b, []⟩ [0] avs [(0, k)] [] av := by
    refine { args := by rw [hin]; exact F.args, ids := ?_, blks := ?_, nodup := by simp, inj := ?_, nodupL := by simp, nodupR := by simp, fresh := ?_, res := ?_, res' := ?_, kept := ?_, all := ?_, used := ?_ }
    · intro x hx; simp only [List.mem_singleton] at hx; subst hx; rfl
    · intro x hx; simp only [List.mem_singleton] at hx; subst hx; exact Blk.within_mono (fun b hb => by cases hb) k F.blk
    · intro x y hx hy _; simp [inI] at hx hy; omega
    · intro x hx; cases hx
    · exact AV.within_mono (fun x hx => by cases hx) av F.res
    · intro x hx; cases hx
    · intro x hx; cases hx
    · intro x hx; cases hx
    · intro x hx
      have : x = 0 := by simpa [inI] using hx
      subst this; exact .inr rfl
  have hdo := does_call (E := E) (o := ⟨d, .call c, ty, pos, af, g⟩) (c := c) rfl hc hd q1 q2 q3 F.calls ok (args := args) (caps := []) (by simpa using ha)
  have he : Names.delta ⟨fun _ => b, []⟩ [0] [(0, k)] [] av = { v := av, wr := [(b, none)] } := by
    simp only [Names.delta, List.map_nil, List.map_cons, AV.ren_none av F.res]
    rfl
  have hH : ([(0, k)] : List (Nat × Blk)).map (fun x => ((fun _ => b) x.1, x.2.ren (fun _ => b))) = [(b, k)] := by
    simp only [List.map_cons, List.map_nil, Blk.ren_none F.blk]
  rw [he] at hdo
  have hdo' : Does E ⟨d, .call c, ty, pos, af, g⟩ (.fn f [] [] :: args) [(b, k)] { v := av, wr := [(b, none)] } := by
    rw [← hH]; exact hdo
  have hops : (Op.operands (.call c)).toList = .func f :: c.args.toList := by simp [Op.operands, Call.operands, hc]
  refine ⟨h1, .fn f [] [] :: args, [(b, k)], _, { vals := ?_, deps := ?_, fresh := fun _ h => (by cases h), does := hdo', reach := hreach, inV := ?_, inN := fun _ h => (by cases h), inW := ?_, wr := ?_, pure := fun h => ?_, quiet := fun h => ?_, foot := hft }, h7⟩
  · show evls st.S (Op.operands (.call c)).toList = _
    rw [hops]; simp only [evls, evl, hv]
  · intro x hx; simp only [List.mem_singleton] at hx; subst hx; exact hb
  · exact AV.within_mono (fun x hx => by cases hx) av F.res
  · intro x hx q hq
    simp only [List.mem_singleton] at hx
    subst hx; cases hq
  · intro x hx
    simp only [List.mem_singleton] at hx
    subst hx
    rw [hbr]; simp
  · exact absurd h hp
  · exact absurd h hq
end steps
end Go.Am
