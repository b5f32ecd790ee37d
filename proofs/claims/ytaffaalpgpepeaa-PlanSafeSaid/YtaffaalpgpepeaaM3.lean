import Derived.Test.YtaffaalpgpepeaaM2
/- An abstract machine over the kit's calls, part 29: calls that take a row of one's own and give one; contents of rows that are copied about in. No conditions. -/
namespace Go.Am
section lists
variable {α : Type} {e : Enc α}
theorem setRange_app {A B M Z : List AV} (h : M.length ≤ Z.length) : setRange (setRange (A ++ B ++ Z) (A.length + M.length) B) A.length M = A ++ M ++ B ++ Z.drop M.length := by
  have h1 : (A ++ B ++ Z).drop (A.length + M.length + B.length) = Z.drop M.length := by
    rw [show A.length + M.length + B.length = (A ++ B).length + M.length by simp; omega, List.drop_length_add_append]
  have hP : ∃ P : List AV, P.length = M.length ∧ (A ++ B ++ Z).take (A.length + M.length) = A ++ P := by
    refine ⟨(B ++ Z).take M.length, by simp; omega, ?_⟩
    rw [List.append_assoc, List.take_length_add_append]
  obtain ⟨P, p1, p2⟩ := hP
  simp only [setRange, h1, p2]
  rw [show A ++ P ++ B ++ Z.drop M.length = A ++ (P ++ (B ++ Z.drop M.length)) by simp, List.take_left, show A.length + M.length = A.length + P.length by omega, List.drop_length_add_append, List.drop_left]
  simp
theorem set_mid {A B B' C : List α} (h : B'.length = B.length) {k : Nat} (hk : k = A.length * e.sz) : setRange (encC e (A ++ B ++ C)) k (encC e B') = encC e (A ++ B' ++ C) := by
  subst hk
  rw [encC_append, encC_append, encC_append, encC_append]
  have hl : (encC e A).length = A.length * e.sz := encC_len A
  have hb : (encC e B').length = (encC e B).length := by rw [encC_len, encC_len, h]
  simp only [setRange, ← hl]
  rw [show encC e A ++ encC e B ++ encC e C = encC e A ++ (encC e B ++ encC e C) by simp, List.take_left, hb, List.drop_length_add_append, List.drop_left]
theorem encC_dropN (D : List α) (i : Nat) : (encC e D).drop (i * e.sz) = encC e (D.drop i) := by simp only [encC, ← List.map_drop, encL_drop]
theorem encC_takeN (D : List α) (i : Nat) : (encC e D).take (i * e.sz) = encC e (D.take i) := by simp only [encC, ← List.map_take, encL_take]
theorem encC_takeAll (D : List α) {k : Nat} (h : D.length * e.sz ≤ k) : (encC e D).take k = encC e D := List.take_of_length_le (by rw [encC_len]; exact h)
/-- What is behind a place of a row with room behind it. -/
theorem tail_of {D : List α} {Z : List AV} {i k j : Nat} (hi : i ≤ D.length) (hk : D.length - i ≤ k) (hj : j = (D.length - i) * e.sz) : (((encC e D ++ Z).drop (0 + i * e.sz)).take (k * e.sz)).take j = encC e (D.drop i) := by
  subst hj
  have hle : i * e.sz ≤ (encC e D).length := by rw [encC_len]; exact Nat.mul_le_mul_right _ hi
  rw [Nat.zero_add, List.drop_append_of_le_length hle, encC_dropN, List.take_take]
  have hl : (encC e (D.drop i)).length = (D.length - i) * e.sz := by rw [encC_len, List.length_drop]
  rw [Nat.min_eq_left (Nat.mul_le_mul_right _ hk), ← hl, List.take_left]
theorem delta_int {k : IntKind} {a b : Int} (h : a = b) : ({ v := .pv (.lit (.int k a)) } : Delta) = { v := .pv (.lit (.int k b)) } := by rw [h]
def insertL (D : List α) (i : Nat) (M : List α) : List α := D.take i ++ M ++ D.drop i
theorem insertL_len {D M : List α} {i : Nat} (h : i ≤ D.length) : (insertL D i M).length = D.length + M.length := by simp [insertL]; omega
/-- .. done in place. -/
theorem insert_inplace {D M : List α} {Z : List AV} {i : Nat} (hi : i ≤ D.length) (hZ : M.length * e.sz ≤ Z.length) : setRange (setRange (encC e D ++ Z) ((i + M.length) * e.sz) (encC e (D.drop i))) (i * e.sz) (encC e M) = encC e (insertL D i M) ++ Z.drop (M.length * e.sz) := by
  have hA : (encC e (D.take i)).length = i * e.sz := by rw [encC_len, List.length_take, Nat.min_eq_left hi]
  have hM : (encC e M).length = M.length * e.sz := encC_len M
  have hD : encC e D = encC e (D.take i) ++ encC e (D.drop i) := by rw [← encC_append, List.take_append_drop]
  rw [hD, Nat.add_mul, ← hA, ← hM, setRange_app (by rw [hM]; exact hZ)]
  simp only [insertL, encC_append]
end lists
section steps
variable {E : Env} {T : Tab} {cq : Oper → Cls} {n : Nat} {ops : Array Oper}
/-- The capacity of a slice over an own row is looked at. -/
theorem Awp.capOf {c : Code} {st : St} {Q : Exit → St → Prop} (t b m s : Nat) (tt : Bool) (cs : List AV) (ht : st.S t = some (.sl b 0 m s tt)) (hb : st.H b = some (.cells cs)) (hl : cs.length = m * s) (h : ∀ k, m ≤ k → Awp E c (st.set t (.slc b 0 m s k)) Q) : Awp E c st Q := fun a w hat => by
  obtain ⟨k, h1, h2, _⟩ := hat.openCap ht hb hl
  exact h k h1 a w h2
/-- What lies behind the elements is anything. -/
theorem At.extend {st : St} {a : Act} {w : World} (h : At E st a w) {t b m s k : Nat} {cs : List AV} (ht : st.S t = some (.slc b 0 m s k)) (hb : st.H b = some (.cells cs)) (hl : cs.length ≤ k * s) : At E ⟨st.S, fun x => if x = b then some (.cells (cs ++ List.replicate (k * s - cs.length) .undef)) else st.H x, st.U⟩ a w := by
  obtain ⟨ι, imm, h⟩ := h
  have h0 := h.slot t _ ht
  simp only [VH] at h0
  obtain ⟨r, z, i1, i2, i3, i5⟩ := h0
  refine ⟨ι, imm, { h with heap := ⟨fun x q hx => ?_, fun x x' q q' r1 z1 z2 hx hx' => ?_⟩ }⟩
  · by_cases e : x = b
    · subst e
      simp only [if_true] at hx
      obtain rfl := Option.some.inj hx
      obtain ⟨r', z', p1, p2, p3, c1, e1, f1, q1, q2, q3, q4⟩ := h.heap.blk x _ hb
      rw [i1] at p1
      simp only [Option.some.injEq, Prod.mk.injEq] at p1
      obtain ⟨rfl, rfl⟩ := p1
      obtain ⟨c2, e2, f2, s1, s2⟩ := i5
      rw [q1] at s1
      simp only [Option.some.injEq, Obj.cells.injEq] at s1
      obtain ⟨rfl, rfl, rfl⟩ := s1
      refine ⟨r, z, i1, p2, p3, c1, e1, f1, q1, ?_, q3, CellsH.app q4 (CellsH.undefs ?_)⟩
      · rw [List.length_append, List.length_replicate]; omega
      · omega
    · simp only [if_neg e] at hx
      exact h.heap.blk x q hx
  · have key : ∀ y k', (if y = b then some (Blk.cells (cs ++ List.replicate (k * s - cs.length) .undef)) else st.H y) = some k' → ∃ k', st.H y = some k' := fun y k' hy => by
      by_cases e : y = b
      · subst e; exact ⟨_, hb⟩
      · rw [if_neg e] at hy; exact ⟨k', hy⟩
    obtain ⟨k1, hk1⟩ := key x q hx
    obtain ⟨k2, hk2⟩ := key x' q' hx'
    exact h.heap.inj x x' k1 k2 r1 z1 z2 hk1 hk2
theorem Awp.extend {c : Code} {st : St} {Q : Exit → St → Prop} (t b m s k : Nat) (cs : List AV) (ht : st.S t = some (.slc b 0 m s k)) (hb : st.H b = some (.cells cs)) (hl : cs.length ≤ k * s) (h : Awp E c ⟨st.S, fun x => if x = b then some (.cells (cs ++ List.replicate (k * s - cs.length) .undef)) else st.H x, st.U⟩ Q) : Awp E c st Q := fun a w hat => h a w (hat.extend ht hb hl)
theorem CellsH.left {ι : Nat → Option (Nat × Nat)} {imm : Nat → Prop} {w : World} {c : Array Value} : ∀ {xs ys : List AV} {o : Nat}, CellsH ι imm w c (xs ++ ys) o → CellsH ι imm w c xs o
  | [], _, _, _ => trivial
  | _ :: _, _, _, h => ⟨h.1, CellsH.left h.2⟩
/-- What lies behind is forgotten. -/
theorem At.trim {st : St} {a : Act} {w : World} (h : At E st a w) {b : Nat} {xs ys : List AV} (hb : st.H b = some (.cells (xs ++ ys))) : At E ⟨st.S, fun x => if x = b then some (.cells xs) else st.H x, st.U⟩ a w := by
  obtain ⟨ι, imm, h⟩ := h
  refine ⟨ι, imm, { h with heap := ⟨fun x k hx => ?_, fun x x' k k' r1 z1 z2 hx hx' => ?_⟩ }⟩
  · by_cases e : x = b
    · subst e
      simp only [if_true] at hx
      obtain rfl := Option.some.inj hx
      obtain ⟨r', z', p1, p2, p3, c1, e1, f1, q1, q2, q3, q4⟩ := h.heap.blk x _ hb
      exact ⟨r', z', p1, p2, p3, c1, e1, f1, q1, by rw [List.length_append] at q2; omega, q3, CellsH.left q4⟩
    · simp only [if_neg e] at hx
      exact h.heap.blk x k hx
  · have key : ∀ y k', (if y = b then some (Blk.cells xs) else st.H y) = some k' → ∃ k', st.H y = some k' := fun y k' hy => by
      by_cases e : y = b
      · subst e; exact ⟨_, hb⟩
      · rw [if_neg e] at hy; exact ⟨k', hy⟩
    obtain ⟨k1, hk1⟩ := key x k hx
    obtain ⟨k2, hk2⟩ := key x' k' hx'
    exact h.heap.inj x x' k1 k2 r1 z1 z2 hk1 hk2
theorem Awp.trim {c : Code} {st : St} {Q : Exit → St → Prop} (b : Nat) (xs ys : List AV) (hb : st.H b = some (.cells (xs ++ ys))) (h : Awp E c ⟨st.S, fun x => if x = b then some (.cells xs) else st.H x, st.U⟩ Q) : Awp E c st Q := fun a w hat => h a w (hat.trim hb)
theorem WeakerR.ofLI {E : Env} {st : St} {τ : Nat → Nat} {S : List (Nat × AV)} {H : List (Nat × Blk)} {U Ks I : List Nat} (hI : E.I = I) (h1 : okS st.S τ U S) (h2 : okH st.H τ U Ks H) (h5 : (Ks.all fun x => Ks.all fun y => !(τ x == τ y) || x == y) = true) (h6 : (I.all fun b => U.contains b && τ b == b) = true) : WeakerR st τ S H U E.I :=
  ⟨fun x hx => (okS_mem h1 x hx).1, fun x hx => (h2 x hx).1, List.all_eq_true.2 fun x hx => (okS_mem h1 x hx).2, List.all_eq_true.2 fun x hx => by rw [Bool.and_eq_true]; exact ⟨(h2 x hx).2.2.1, (h2 x hx).2.2.2⟩, fun x hx y hy e => by
    have := List.all_eq_true.1 (List.all_eq_true.1 h5 x.1 (by simpa using (h2 x hx).2.1)) y.1 (by simpa using (h2 y hy).2.1)
    simpa [e] using this, by rw [hI]; exact h6⟩
/-- A call that takes a row (block 0) and gives one (block 1). -/
structure TCalls (P : Program) (f : FuncId) (avs : List AV) (k : Blk) (av : AV) (k' : Blk) : Prop where
  fn : ∃ fn, P.funcs[f]? = some fn ∧ (fn.name == "runtime.NumGoroutine") = false ∧ fn.body.isNone = false
  args : AV.withinL (fun b => b == 0) avs = true
  res : av.within (fun b => b == 1) = true
  blk : k.within (fun _ => false) = true
  blk' : k'.within (fun _ => false) = true
  calls : ACalls P f [0] avs [(0, k)] av [(1, k')]
theorem TCalls.of_body {P : Program} {T : Tab} (hT : TabOk P T) {f : FuncId} {fn : Func} {body : Code} (hf : P.funcs[f]? = some fn) (hb : fn.body = some body) (hn : (fn.name == "runtime.NumGoroutine") = false) {avs : List AV} {k k' : Blk} {av : AV} (hl : decide (avs.length ≤ fn.ntmps) = true) (ha : AV.withinL (fun b => b == 0) avs = true) (hr : av.within (fun b => b == 1) = true) (hk : k.within (fun _ => false) = true) (hk' : k'.within (fun _ => false) = true) (hm : P.follows .mixedOrders = true)
    (h : ∀ E : Env, E.P = P → Cx E T fn.ntmps → E.I = [0] → Awp E body (entry avs [(0, k)] [0]) fun e st => (e = .ret ∨ e = .normal) ∧ resAV T st fn.results.toList = some av ∧ st.H 1 = some k') : TCalls P f avs k av k' where
  fn := ⟨fn, hf, hn, by simp [hb]⟩
  args := ha
  res := hr
  blk := hk
  blk' := hk'
  calls := ACalls.of_body hT hf hb (by simpa using hl) fun E hP hE hI => (h E hP ⟨hP ▸ hT, hE, hP ▸ hm⟩ hI).mono fun e st ⟨h1, h2, h3⟩ => ⟨h1, h2, fun x hx => by
    simp only [List.mem_singleton] at hx
    subst hx; exact h3⟩
theorem h_slc {U : Nat → Bool} {b n n' s c : Nat} {p : PV} (h : AV.withinL U [.slc b 0 n s c, .pv p] = true) : (AV.slc b 0 n' s c).within U = true := by
  simpa [AV.withinL, AV.within] using h
theorem rexec_appendZ (C : Cx E T n) {d : Nat} {c : Call} {t t2 : TypeId} {ty : TypeId} {pos : String} {af : Array Edge} {g : Option (Nat × Bool)} {st : St} {K : St → Prop} (hc : c.callee = .builtin .append) (hty : c.argTypes = #[t, t2]) (h1 : dstB n ⟨some d, .call c, ty, pos, af, g⟩ = true) (hU : st.U d = false)
    {r re r2 : TyRow} (hr : T.lookup t = some r) {te : TypeId} (hdesc : r.desc = .slice te) (hre : T.lookup te = some re) (hr2 : T.lookup t2 = some r2) {kd : IntKind} (hd2 : r2.desc = .int kd)
    {α : Type} {e : Enc α} (a : α) (D : List α) (i k : Nat) {b s : Nat} {kk : IntKind} (hs : re.size = e.sz) (hv : evls st.S c.args.toList = some [.slc b 0 i re.size s, .pv (.lit (.int kk (k : Int)))]) (hb : st.H b = some (.cells (encC e D))) (hi : i ≤ D.length) (hk : 0 < k) (hroom : s < i + k) (hbig : (2 * (i + k) + 192) * re.bytes ≤ 281474976710656) (hpos : 0 < re.bytes) (hsz : 0 < re.size) (hzs : re.zero.cells.size = re.size) (hz : re.zero.cells.toList.map constCell = (e.enc a).map .pv)
    (h7 : K (st.after (some d) { v := .sl d 0 (i + k) re.size false, new := [(d, .cells (encC e (D.take i ++ List.replicate k a)))] })) (hcl : clsOf cq ⟨some d, .call c, ty, pos, af, g⟩ = .writer := by rfl) : rexec E cq n ⟨some d, .call c, ty, pos, af, g⟩ st K := by
  have hd : d < E.n := by
    simp only [dstB, decide_eq_true_eq] at h1
    exact C.n ▸ h1
  have hdo := does_appendZ C.tab (o := ⟨some d, .call c, ty, pos, af, g⟩) rfl hc hty rfl hd hr hdesc hre hr2 hd2 (b := b) (i := i) (k := k) (s := s) (kk := kk) (cs := encC e D) hk hroom (by rw [encC_len, hs]; exact Nat.mul_le_mul_right _ hi) hsz hbig hpos hzs
  rw [hs, encC_takeN, zeroAV_rep (by rw [hzs, hs]) hz, ← encC_append, ← hs] at hdo
  have hops : (Op.operands (.call c)).toList = c.args.toList := by simp [Op.operands, Call.operands, hc]
  refine ⟨h1, _, _, _, { vals := ?_, deps := ?_, fresh := ?_, does := hdo, reach := ?_, inV := ?_, inN := ?_, inW := ?_, wr := ?_, pure := fun h => ?_, quiet := fun h => ?_, foot := by rw [hcl]; rfl }, h7⟩
  · show evls st.S (Op.operands (.call c)).toList = _
    rw [hops]; exact hv
  · intro x hx; simp only [List.mem_singleton] at hx; subst hx; exact hb
  · intro x hx; simp only [List.mem_singleton] at hx; subst hx; exact hU
  · exact reach_ptr fun U => .inl rfl
  · simp [AV.within]
  · intro x hx; simp only [List.mem_singleton] at hx; subst hx; exact within_pvs _ _
  · intro x hx; cases hx
  · intro x hx; cases hx
  · rw [hcl] at h; cases h
  · rfl
/-- copy of unchanging elements over elements of an own row. -/
theorem rexec_copyS (C : Cx E T n) {d : Option Nat} {c : Call} {t t2 : TypeId} {ty : TypeId} {pos : String} {af : Array Edge} {g : Option (Nat × Bool)} {st : St} {K : St → Prop} (hc : c.callee = .builtin .copy) (hty : c.argTypes = #[t, t2]) (h1 : dstB n ⟨d, .call c, ty, pos, af, g⟩ = true) {r re : TyRow} (hr : T.lookup t = some r) {te : TypeId} (hdesc : r.desc = .slice te) (hre : T.lookup te = some re)
    {α : Type} {e : Enc α} {f : Option Bool} (D : List α) {b k m : Nat} {tt : Bool} {cs : List AV} (cs' : List AV) (hs : re.size = e.sz) (hv : evls st.S c.args.toList = some [.sl b k m re.size tt, sS f e D]) (hb : st.H b = some (.cells cs)) (hm : D.length ≤ m) (hfit : k + D.length * e.sz ≤ cs.length) (hcs' : setRange cs k (encC e D) = cs')
    (h7 : K (st.after d { v := .pv (.lit (.int .i64 (D.length : Int))), wr := [(b, some (.cells cs'))] })) (hcl : clsOf cq ⟨d, .call c, ty, pos, af, g⟩ = .writer := by rfl) : rexec E cq n ⟨d, .call c, ty, pos, af, g⟩ st K := by
  have hmin : min D.length m = D.length := Nat.min_eq_left hm
  refine rexec_copy C hc hty h1 hr hdesc hre (m' := D.length) (hs' := []) (ys := encC e D) cs' hv hb rfl (fun x hx => by cases hx) (by rw [encC_len, hs]) (by rw [hmin, hs]; exact hfit) ?_ (fun U _ => within_pvs _ _) ?_ ?_ ?_ hcl
  · exact encC_flat _ _
  · rw [hmin, hs, encC_takeAll _ (Nat.le_refl _)]; exact hcs'
  · rw [hmin]; exact h7
  · exact reach_ptr fun U => .inl rfl
/-- copy of elements of an own row over elements of an own row (perhaps the same one). -/
theorem rexec_copyO (C : Cx E T n) {d : Option Nat} {c : Call} {t t2 : TypeId} {ty : TypeId} {pos : String} {af : Array Edge} {g : Option (Nat × Bool)} {st : St} {K : St → Prop} (hc : c.callee = .builtin .copy) (hty : c.argTypes = #[t, t2]) (h1 : dstB n ⟨d, .call c, ty, pos, af, g⟩ = true) {r re : TyRow} (hr : T.lookup t = some r) {te : TypeId} (hdesc : r.desc = .slice te) (hre : T.lookup te = some re)
    {α : Type} {e : Enc α} (X : List α) {b k m b2 k2 m2 : Nat} {tt tt2 : Bool} {cs cs2 : List AV} (cs' : List AV) (hs : re.size = e.sz) (hv : evls st.S c.args.toList = some [.sl b k m re.size tt, .sl b2 k2 m2 re.size tt2]) (hb : st.H b = some (.cells cs)) (hb2 : st.H b2 = some (.cells cs2)) (hf2 : k2 + m2 * re.size ≤ cs2.length) (hX : ((cs2.drop k2).take (m2 * re.size)).take (X.length * e.sz) = encC e X) (hm : min m2 m = X.length) (hfit : k + X.length * e.sz ≤ cs.length) (hcs' : setRange cs k (encC e X) = cs')
    (h7 : K (st.after d { v := .pv (.lit (.int .i64 (X.length : Int))), wr := [(b, some (.cells cs'))] })) (hreach : reachB [.sl b k m re.size tt, .sl b2 k2 m2 re.size tt2] [] [(b, .cells cs), (b2, .cells cs2)] = true) (hcl : clsOf cq ⟨d, .call c, ty, pos, af, g⟩ = .writer := by rfl) : rexec E cq n ⟨d, .call c, ty, pos, af, g⟩ st K := by
  refine rexec_copy C hc hty h1 hr hdesc hre (m' := m2) (hs' := [(b2, .cells cs2)]) (ys := (cs2.drop k2).take (m2 * re.size)) cs' hv hb ?_ (fun x hx => ?_) ?_ (by rw [hm, hs]; exact hfit) ?_ (fun U h => ?_) ?_ ?_ hreach hcl
  · simp only [srcAV, if_true, hb2]
  · simp only [List.mem_singleton] at hx; subst hx; exact hb2
  · rw [List.length_take, List.length_drop]; omega
  · rw [hm, hs, ← hs] at *
    rw [hs, hX]; have := encC_flat (e := e) X ((encC e X).length); rwa [List.take_length] at this
  · have := h _ (List.mem_singleton.2 rfl)
    simp only [Blk.within] at this
    exact within_sub this fun x hx => List.mem_of_mem_drop (List.mem_of_mem_take hx)
  · rw [hm, hs]; rw [hs] at hX; rw [hX]; exact hcs'
  · rw [hm]; exact h7
theorem rexec_overlaps (C : Cx E T n) {d : Option Nat} {c : Call} {ty : TypeId} {pos : String} {af : Array Edge} {g : Option (Nat × Bool)} {st : St} {K : St → Prop} {f : FuncId} {fn : Func} {tR t te : TypeId} (h1 : dstB n ⟨d, .call c, ty, pos, af, g⟩ = true) (hc : c.callee = .value (.func f)) (hf : E.P.funcs[f]? = some fn) (hn : (fn.name == "runtime.NumGoroutine") = false) (hb : fn.body.isNone = true) (hnx : Extern.findNext fn = none) (he : Extern.find fn = some (Extern.SlicesOverlaps.overlaps #[t, t] #[tR]))
    {r re : TyRow} (hr : T.lookup t = some r) (hdesc : r.desc = .slice te) (hre : T.lookup te = some re) {fl : Option Bool} {m : Nat} {ps : List PV} {b k l : Nat} {tt : Bool} {cs : List AV} (hv : evls st.S c.args.toList = some [.pv (.sl fl m ps), .sl b k l re.size tt]) (hbk : st.H b = some (.cells cs)) (hps : ps ≠ []) (hcs : cs ≠ [])
    (h7 : K (st.after d { v := .pv (.lit (.bool false)) })) (hcl : clsOf cq ⟨d, .call c, ty, pos, af, g⟩ = .writer := by rfl) : rexec E cq n ⟨d, .call c, ty, pos, af, g⟩ st K := by
  have hd : ∀ x, d = some x → x < E.n := fun x e => by
    simp only [dstB, e, decide_eq_true_eq] at h1
    exact C.n ▸ h1
  have hdo := does_overlaps C.tab (o := ⟨d, .call c, ty, pos, af, g⟩) rfl hc hd hf hn hb hnx he hr hdesc hre (fl := fl) (m := m) (ps := ps) hps (b := b) (k := k) (l := l) (tt := tt) (cs := cs) hcs
  have hops : (Op.operands (.call c)).toList = .func f :: c.args.toList := by simp [Op.operands, Call.operands, hc]
  refine ⟨h1, _, _, _, { vals := ?_, deps := ?_, fresh := fun _ h => (by cases h), does := hdo, reach := ?_, inV := rfl, inN := fun _ h => (by cases h), inW := fun _ h => (by cases h), wr := fun _ h => (by cases h), pure := fun h => ?_, quiet := fun _ => rfl, foot := by rw [hcl]; rfl }, h7⟩
  · show evls st.S (Op.operands (.call c)).toList = _
    rw [hops]; simp only [evls, evl, hv]
  · intro x hx; simp only [List.mem_singleton] at hx; subst hx; exact hbk
  · simp [reachB, refs, AV.withinL, AV.within]
  · rw [hcl] at h; cases h
theorem rexec_sliceLoC (C : Cx E T n) {d : Option Nat} {t : TypeId} {x y : Operand} {ty : TypeId} {pos : String} {af : Array Edge} {g : Option (Nat × Bool)} {st : St} {K : St → Prop} {b m s c l : Nat} {kk : IntKind} {r re : TyRow} {te : TypeId} (h1 : dstB n ⟨d, .slice t x (some y) none none, ty, pos, af, g⟩ = true)
    (h2 : evls st.S [x, y] = some [.slc b 0 m s c, .pv (.lit (.int kk (l : Int)))]) (hr : T.lookup t = some r) (hdesc : r.desc = .slice te) (hre : T.lookup te = some re) (hs : re.size = s) (hl : l ≤ m) (h7 : K (st.after d { v := .undef })) : rexec E cq n ⟨d, .slice t x (some y) none none, ty, pos, af, g⟩ st K := by
  subst hs
  exact rexec_value C h1 rfl h2 (fun hd => does_sliceC_lo C.tab rfl hd hr hdesc hre hl) (fun _ _ => rfl) h7
theorem rexec_sliceHiC (C : Cx E T n) {d : Option Nat} {t : TypeId} {x y : Operand} {ty : TypeId} {pos : String} {af : Array Edge} {g : Option (Nat × Bool)} {st : St} {K : St → Prop} {b m s c : Nat} {kk : IntKind} {r re : TyRow} {te : TypeId} (h : Nat) (h1 : dstB n ⟨d, .slice t x none (some y) none, ty, pos, af, g⟩ = true)
    (h2 : evls st.S [x, y] = some [.slc b 0 m s c, .pv (.lit (.int kk (h : Int)))]) (hr : T.lookup t = some r) (hdesc : r.desc = .slice te) (hre : T.lookup te = some re) (hs : re.size = s) (hh : h ≤ c) (h7 : K (st.after d { v := .slc b 0 h s c })) : rexec E cq n ⟨d, .slice t x none (some y) none, ty, pos, af, g⟩ st K := by
  subst hs
  exact rexec_value C h1 rfl h2 (fun hd => does_sliceC_hi C.tab rfl hd hr hdesc hre hh) (fun _ h => h_slc h) h7
theorem rexec_lenC (C : Cx E T n) {d : Option Nat} {c : Call} {t : TypeId} {ty : TypeId} {pos : String} {af : Array Edge} {g : Option (Nat × Bool)} {st : St} {K : St → Prop} {b m s k : Nat} {r : TyRow} {te : TypeId} (hc : c.callee = .builtin .len) (hty : c.argTypes = #[t]) (h1 : dstB n ⟨d, .call c, ty, pos, af, g⟩ = true)
    (h2 : evls st.S (Op.operands (.call c)).toList = some [.slc b 0 m s k]) (hr : T.lookup t = some r) (hdesc : r.desc = .slice te) (h7 : K (st.after d { v := .pv (.lit (.int .i64 m)) })) : rexec E cq n ⟨d, .call c, ty, pos, af, g⟩ st K :=
  rexec_value C h1 rfl h2 (fun hd => does_lenC C.tab rfl hc hty hd hr hdesc) (fun _ _ => rfl) h7
theorem rexec_capC (C : Cx E T n) {d : Option Nat} {c : Call} {t : TypeId} {ty : TypeId} {pos : String} {af : Array Edge} {g : Option (Nat × Bool)} {st : St} {K : St → Prop} {b m s k : Nat} {r : TyRow} {te : TypeId} (hc : c.callee = .builtin .cap) (hty : c.argTypes = #[t]) (h1 : dstB n ⟨d, .call c, ty, pos, af, g⟩ = true)
    (h2 : evls st.S (Op.operands (.call c)).toList = some [.slc b 0 m s k]) (hr : T.lookup t = some r) (hdesc : r.desc = .slice te) (h7 : K (st.after d { v := .pv (.lit (.int .i64 k)) })) : rexec E cq n ⟨d, .call c, ty, pos, af, g⟩ st K :=
  rexec_value C h1 rfl h2 (fun hd => does_capC C.tab rfl hc hty hd hr hdesc) (fun _ _ => rfl) h7
/-- A part of an own row, from a place on. -/
theorem rexec_sliceOwn (C : Cx E T n) {d : Option Nat} {t : TypeId} {x y : Operand} {ty : TypeId} {pos : String} {af : Array Edge} {g : Option (Nat × Bool)} {st : St} {K : St → Prop} {b m s l : Nat} {kk : IntKind} {r re : TyRow} {te : TypeId} (h1 : dstB n ⟨d, .slice t x (some y) none none, ty, pos, af, g⟩ = true)
    (h2 : evls st.S [x, y] = some [.sl b 0 m s false, .pv (.lit (.int kk (l : Int)))]) (hr : T.lookup t = some r) (hdesc : r.desc = .slice te) (hre : T.lookup te = some re) (hs : s = re.size) (hl : l < m) (h7 : K (st.after d { v := .sl b (0 + l * s) (m - l) s false })) (h8 : footB (clsOf cq ⟨d, .slice t x (some y) none none, ty, pos, af, g⟩) [] { v := .sl b (0 + l * s) (m - l) s false } = true := by rfl) : rexec E cq n ⟨d, .slice t x (some y) none none, ty, pos, af, g⟩ st K := by
  subst hs
  refine rexec_prim C (p := (0 ≤ (l : Int) ∧ (l : Int) ≤ (m : Int)) ∧ ((l : Int) = 0 ∨ (l : Int) < (m : Int))) (hs := []) (δ := { v := .sl b (0 + l * re.size) (m - l) re.size false }) h1 rfl h2 ?_ ⟨⟨by omega, by omega⟩, by omega⟩ rfl h7 h8
  simp only [prim, primSlice, hr, optI, sliceAV, hdesc, hre, cutOf]
  simp
theorem encL_ne {α : Type} {e : Enc α} {D : List α} (h : 0 < D.length) (hs : 0 < e.sz) : encL e D ≠ [] := fun h0 => by
  have h1 := congrArg List.length h0
  rw [encL_len, List.length_nil] at h1
  have := Nat.mul_pos h hs
  omega
theorem encC_ne {α : Type} {e : Enc α} {D : List α} {Z : List AV} (h : 0 < D.length) (hs : 0 < e.sz) : encC e D ++ Z ≠ [] := fun h0 => by
  have h1 := congrArg List.length h0
  rw [List.length_append, encC_len, List.length_nil] at h1
  have := Nat.mul_pos h hs
  omega
/-- A call that takes a row (block 0) and gives what does not change. -/
structure XCalls (P : Program) (f : FuncId) (avs : List AV) (k : Blk) (av : AV) : Prop where
  fn : ∃ fn, P.funcs[f]? = some fn ∧ (fn.name == "runtime.NumGoroutine") = false ∧ fn.body.isNone = false
  args : AV.withinL (fun b => b == 0) avs = true
  res : av.within (fun _ => false) = true
  blk : k.within (fun _ => false) = true
  calls : ACalls P f [0] avs [(0, k)] av []
theorem XCalls.of_body {P : Program} {T : Tab} (hT : TabOk P T) {f : FuncId} {fn : Func} {body : Code} (hf : P.funcs[f]? = some fn) (hb : fn.body = some body) (hn : (fn.name == "runtime.NumGoroutine") = false) {avs : List AV} {k : Blk} {av : AV} (hl : decide (avs.length ≤ fn.ntmps) = true) (ha : AV.withinL (fun b => b == 0) avs = true) (hr : av.within (fun _ => false) = true) (hk : k.within (fun _ => false) = true) (hm : P.follows .mixedOrders = true)
    (h : ∀ E : Env, E.P = P → Cx E T fn.ntmps → E.I = [0] → Awp E body (entry avs [(0, k)] [0]) fun e st => (e = .ret ∨ e = .normal) ∧ resAV T st fn.results.toList = some av) : XCalls P f avs k av where
  fn := ⟨fn, hf, hn, by simp [hb]⟩
  args := ha
  res := hr
  blk := hk
  calls := ACalls.of_body hT hf hb (by simpa using hl) fun E hP hE hI => (h E hP ⟨hP ▸ hT, hE, hP ▸ hm⟩ hI).mono fun e st ⟨h1, h2⟩ => ⟨h1, h2, fun x hx => by cases hx⟩
theorem rexec_callX {P : Program} (hP : E.P = P) (C : Cx E T n) {f : FuncId} {avs args : List AV} {av : AV} {k : Blk} {d : Option Nat} {b : Nat} {c : Call} {ty : TypeId} {pos : String} {af : Array Edge} {g : Option (Nat × Bool)} {st : St} {K : St → Prop} (h1 : dstB n ⟨d, .call c, ty, pos, af, g⟩ = true) (hc : c.callee = .value (.func f)) (hv : evls st.S c.args.toList = some args)
    (F : XCalls P f avs k av) (ha : AV.renL (fun _ => b) avs = args) (hb : st.H b = some k) (h7 : K (st.after d { v := av, wr := [(b, none)] })) (hreach : reachB (.fn f [] [] :: args) [] [(b, k)] = true := by rfl) (hbr : refs (.fn f [] [] :: args) [(b, k)] b = true := by rfl) (hp : clsOf cq ⟨d, .call c, ty, pos, af, g⟩ ≠ .pure := by decide) (hq : clsOf cq ⟨d, .call c, ty, pos, af, g⟩ ≠ .quiet := by decide) (hft : footB (clsOf cq ⟨d, .call c, ty, pos, af, g⟩) [(b, k)] { v := av, wr := [(b, none)] } = true := by rfl) : rexec E cq n ⟨d, .call c, ty, pos, af, g⟩ st K := by
  subst hP
  obtain ⟨fn, q1, q2, q3⟩ := F.fn
  have hd : ∀ x, d = some x → x < E.n := fun x e => by
    simp only [dstB, e, decide_eq_true_eq] at h1
    exact C.n ▸ h1
  have hin : inI [0] = fun b => b == 0 := funext fun b => by cases b <;> rfl
  have ok : CallOk ⟨fun _ => b, []⟩ [0] avs [(0, k)] [] av := by
    refine { args := by rw [hin]; exact F.args, ids := ?_, blks := ?_, nodup := by simp, inj := ?_, nodupL := by simp, nodupR := by simp, fresh := ?_, res := ?_, res' := ?_, kept := ?_, all := ?_, used := ?_ }
    · intro x hx; simp only [List.mem_singleton] at hx; subst hx; rfl
    · intro x hx; simp only [List.mem_singleton] at hx; subst hx; exact Blk.within_mono (fun b hb => by cases hb) k F.blk
    · intro x y hx hy _; simp [inI] at hx hy; omega
    · intro x hx; cases hx
    · exact AV.within_mono (fun x hx => by cases hx) av F.res
    · intro x hx; cases hx
    · intro x hx; cases hx
    · intro x hx; cases hx
    · intro x hx
      have : x = 0 := by simpa [inI] using hx
      subst this; exact .inr rfl
  have hdo := does_call (E := E) (o := ⟨d, .call c, ty, pos, af, g⟩) (c := c) rfl hc hd q1 q2 q3 F.calls ok (args := args) (caps := []) (by simpa using ha)
  have he : Names.delta ⟨fun _ => b, []⟩ [0] [(0, k)] [] av = { v := av, wr := [(b, none)] } := by
    simp only [Names.delta, List.map_nil, List.map_cons, AV.ren_none av F.res]
    rfl
  have hH : ([(0, k)] : List (Nat × Blk)).map (fun x => ((fun _ => b) x.1, x.2.ren (fun _ => b))) = [(b, k)] := by
    simp only [List.map_cons, List.map_nil, Blk.ren_none F.blk]
  rw [he] at hdo
  have hdo' : Does E ⟨d, .call c, ty, pos, af, g⟩ (.fn f [] [] :: args) [(b, k)] { v := av, wr := [(b, none)] } := by
    rw [← hH]; exact hdo
  have hops : (Op.operands (.call c)).toList = .func f :: c.args.toList := by simp [Op.operands, Call.operands, hc]
  refine ⟨h1, .fn f [] [] :: args, [(b, k)], _, { vals := ?_, deps := ?_, fresh := fun _ h => (by cases h), does := hdo', reach := hreach, inV := ?_, inN := fun _ h => (by cases h), inW := ?_, wr := ?_, pure := fun h => ?_, quiet := fun h => ?_, foot := hft }, h7⟩
  · show evls st.S (Op.operands (.call c)).toList = _
    rw [hops]; simp only [evls, evl, hv]
  · intro x hx; simp only [List.mem_singleton] at hx; subst hx; exact hb
  · exact AV.within_mono (fun x hx => by cases hx) av F.res
  · intro x hx q hq
    simp only [List.mem_singleton] at hx
    subst hx; cases hq
  · intro x hx
    simp only [List.mem_singleton] at hx
    subst hx
    rw [hbr]; simp
  · exact absurd h hp
  · exact absurd h hq
end steps
end Go.Am
/- An abstract machine over the kit's calls, part 33: calls that change a row of one's own in place. No conditions. -/
namespace Go.Am
section steps
variable {E : Env} {T : Tab} {cq : Oper → Cls} {n : Nat} {ops : Array Oper}
/-- A call that takes a row (block 0), changes it in place, and gives what does not change. -/
structure MCalls (P : Program) (f : FuncId) (avs : List AV) (k : Blk) (av : AV) (k' : Blk) : Prop where
  fn : ∃ fn, P.funcs[f]? = some fn ∧ (fn.name == "runtime.NumGoroutine") = false ∧ fn.body.isNone = false
  args : AV.withinL (fun b => b == 0) avs = true
  res : av.within (fun _ => false) = true
  blk : k.within (fun _ => false) = true
  blk' : k'.within (fun _ => false) = true
  calls : ACalls P f [0] avs [(0, k)] av [(0, k')]
theorem MCalls.of_body {P : Program} {T : Tab} (hT : TabOk P T) {f : FuncId} {fn : Func} {body : Code} (hf : P.funcs[f]? = some fn) (hb : fn.body = some body) (hn : (fn.name == "runtime.NumGoroutine") = false) {avs : List AV} {k k' : Blk} {av : AV} (hl : decide (avs.length ≤ fn.ntmps) = true) (ha : AV.withinL (fun b => b == 0) avs = true) (hr : av.within (fun _ => false) = true) (hk : k.within (fun _ => false) = true) (hk' : k'.within (fun _ => false) = true) (hm : P.follows .mixedOrders = true)
    (h : ∀ E : Env, E.P = P → Cx E T fn.ntmps → E.I = [0] → Awp E body (entry avs [(0, k)] [0]) fun e st => (e = .ret ∨ e = .normal) ∧ resAV T st fn.results.toList = some av ∧ st.H 0 = some k') : MCalls P f avs k av k' where
  fn := ⟨fn, hf, hn, by simp [hb]⟩
  args := ha
  res := hr
  blk := hk
  blk' := hk'
  calls := ACalls.of_body hT hf hb (by simpa using hl) fun E hP hE hI => (h E hP ⟨hP ▸ hT, hE, hP ▸ hm⟩ hI).mono fun e st ⟨h1, h2, h3⟩ => ⟨h1, h2, fun x hx => by simp only [List.mem_singleton] at hx; subst hx; exact h3⟩
theorem rexec_callM {P : Program} (hP : E.P = P) (C : Cx E T n) {f : FuncId} {avs args : List AV} {av : AV} {k k' : Blk} {d : Option Nat} {b : Nat} {c : Call} {ty : TypeId} {pos : String} {af : Array Edge} {g : Option (Nat × Bool)} {st : St} {K : St → Prop} (h1 : dstB n ⟨d, .call c, ty, pos, af, g⟩ = true) (hc : c.callee = .value (.func f)) (hv : evls st.S c.args.toList = some args)
    (F : MCalls P f avs k av k') (ha : AV.renL (fun _ => b) avs = args) (hb : st.H b = some k) (h7 : K (st.after d { v := av, wr := [(b, some k')] })) (hreach : reachB (.fn f [] [] :: args) [] [(b, k)] = true := by rfl) (hbr : refs (.fn f [] [] :: args) [(b, k)] b = true := by rfl) (hp : clsOf cq ⟨d, .call c, ty, pos, af, g⟩ ≠ .pure := by decide) (hq : clsOf cq ⟨d, .call c, ty, pos, af, g⟩ ≠ .quiet := by decide) (hft : footB (clsOf cq ⟨d, .call c, ty, pos, af, g⟩) [(b, k)] { v := av, wr := [(b, some k')] } = true := by rfl) : rexec E cq n ⟨d, .call c, ty, pos, af, g⟩ st K := by
  subst hP
  obtain ⟨fn, q1, q2, q3⟩ := F.fn
  have hd : ∀ x, d = some x → x < E.n := fun x e => by
    simp only [dstB, e, decide_eq_true_eq] at h1
    exact C.n ▸ h1
  have hin : inI [0] = fun b => b == 0 := funext fun b => by cases b <;> rfl
  have hk0 : Names.knows ⟨fun _ => b, []⟩ [0] 0 = true := by simp [Names.knows, inI]
  have ok : CallOk ⟨fun _ => b, []⟩ [0] avs [(0, k)] [(0, k')] av := by
    refine { args := by rw [hin]; exact F.args, ids := ?_, blks := ?_, nodup := by simp, inj := ?_, nodupL := by simp, nodupR := by simp, fresh := ?_, res := ?_, res' := ?_, kept := ?_, all := ?_, used := ?_ }
    · intro x hx; simp only [List.mem_singleton] at hx; subst hx; rfl
    · intro x hx; simp only [List.mem_singleton] at hx; subst hx; exact Blk.within_mono (fun b hb => by cases hb) k F.blk
    · intro x y hx hy _; simp [inI] at hx hy; omega
    · intro x hx; cases hx
    · exact AV.within_mono (fun x hx => by cases hx) av F.res
    · intro x hx
      simp only [List.mem_singleton] at hx
      subst hx
      exact ⟨hk0, Blk.within_mono (fun b hb => by cases hb) k' F.blk'⟩
    · intro x hx _; simp only [List.mem_singleton] at hx; subst hx; exact ⟨k, List.mem_singleton.2 rfl⟩
    · intro x hx; cases hx
    · intro x hx
      have : x = 0 := by simpa [inI] using hx
      subst this; exact .inr rfl
  have hdo := does_call (E := E) (o := ⟨d, .call c, ty, pos, af, g⟩) (c := c) rfl hc hd q1 q2 q3 F.calls ok (args := args) (caps := []) (by simpa using ha)
  have he : Names.delta ⟨fun _ => b, []⟩ [0] [(0, k)] [(0, k')] av = { v := av, wr := [(b, some k')] } := by
    have e2 : heapOf [(0, k')] 0 = some k' := rfl
    simp only [Names.delta, List.map_nil, List.map_cons, AV.ren_none av F.res, e2, Option.map_some, Blk.ren_none F.blk']
  have hH : ([(0, k)] : List (Nat × Blk)).map (fun x => ((fun _ => b) x.1, x.2.ren (fun _ => b))) = [(b, k)] := by
    simp only [List.map_cons, List.map_nil, Blk.ren_none F.blk]
  rw [he] at hdo
  have hdo' : Does E ⟨d, .call c, ty, pos, af, g⟩ (.fn f [] [] :: args) [(b, k)] { v := av, wr := [(b, some k')] } := by
    rw [← hH]; exact hdo
  have hops : (Op.operands (.call c)).toList = .func f :: c.args.toList := by simp [Op.operands, Call.operands, hc]
  refine ⟨h1, .fn f [] [] :: args, [(b, k)], _, { vals := ?_, deps := ?_, fresh := fun _ h => (by cases h), does := hdo', reach := hreach, inV := ?_, inN := fun _ h => (by cases h), inW := ?_, wr := ?_, pure := fun h => ?_, quiet := fun h => ?_, foot := hft }, h7⟩
  · show evls st.S (Op.operands (.call c)).toList = _
    rw [hops]; simp only [evls, evl, hv]
  · intro x hx; simp only [List.mem_singleton] at hx; subst hx; exact hb
  · exact AV.within_mono (fun x hx => by cases hx) av F.res
  · intro x hx q hq
    simp only [List.mem_singleton] at hx
    subst hx
    obtain rfl := Option.some.inj hq
    exact Blk.within_mono (fun b hb => by cases hb) k' F.blk'
  · intro x hx
    simp only [List.mem_singleton] at hx
    subst hx
    rw [hbr]; simp
  · exact absurd h hp
  · exact absurd h hq
/-- A loop that is left in its first round. -/
theorem Awp.once {c : Code} {st : St} {Q : Exit → St → Prop} (h : Awp E c st fun e st' => match e with | .normal => False | e => Q e st') : Awp E (.loop c) st Q := by
  intro a w hat
  refine wp_loop_ghost (fun _ a w => At E st a w) 0 hat fun m a w hat => ?_
  refine wp_mono (h a w hat) ?_
  rintro e a' w' ⟨st', h1, h2⟩
  cases e <;> simp only [Exit.then]
  case normal => exact h1.elim
  all_goals exact ⟨st', h1, h2⟩
end steps
end Go.Am
/- An abstract machine over the kit's calls, part 35: pointers held against nil; slices cut with their capacity; append to such ones. No conditions. -/
namespace Go.Am
/-- Is a pointer nil? -/
def nilP : AV → Option Bool
  | .pv (.lit (.pointer none)) => some true
  | .ptr _ _ => some false
  | .rp _ => some false
  | _ => none
theorem nilP_holds {ι : Nat → Option (Nat × Nat)} {imm : Nat → Prop} {w : World} {x : AV} {f : Bool} (h : nilP x = some f) {v : Value} (hv : VH ι imm w x v) : ∃ A, v = .pointer A ∧ A.isNone = f := by
  unfold nilP at h
  split at h
  · simp only [Option.some.injEq] at h
    subst h
    simp only [VH, PH] at hv
    exact ⟨none, hv.1, rfl⟩
  · simp only [Option.some.injEq] at h
    subst h
    simp only [VH] at hv
    obtain ⟨r, z, _, e⟩ := hv
    exact ⟨_, e, rfl⟩
  · simp only [Option.some.injEq] at h
    subst h
    simp only [VH] at hv
    obtain ⟨a, e, _⟩ := hv
    exact ⟨_, e, rfl⟩
  · cases h
section ops
variable {E : Env} {T : Tab}
theorem does_eqPtr (hT : TabOk E.P T) {o : Oper} {op : BinOp} {t yt : TypeId} {x y : Operand} (ho : o.op = .binOp op t x y yt) (hd : ∀ d, o.dst = some d → d < E.n) {r : TyRow} (hr : T.lookup t = some r) {et : TypeId} (hdesc : r.desc = .pointer et) {u v z : AV} {f g : Bool} (hf : nilP u = some f) (hg : nilP v = some g) (hfg : (f || g) = true) (h : opB op (f && g) = some z) : Does E o [u, v] [] { v := z } := by
  refine Does.value hd fun ι imm st a w hs hv _ => ?_
  rw [ho] at hv
  simp only [Op.operands, List.map_cons, List.map_nil] at hv
  obtain ⟨h1, h2⟩ := hv.two
  have hu := run_underlying hT hr w (P := E.P)
  obtain ⟨dep, hdp⟩ : ∃ d, Op.maxDepth = d + 1 := ⟨_, rfl⟩
  have fin : ∀ {b : Bool}, (Op.equal t (a.eval x) (a.eval y)).run E.P w = .ok b w → (eqGuard op t x y (a.eval x) (a.eval y)).run E.P w = .ok () w → (∀ op', (op' = .eql ∨ op' = .neq) → binOp op' t (a.eval x) (a.eval y) = (match op' with | .eql => (do let q ← Op.equal t (a.eval x) (a.eval y); pure (.bool q)) | _ => (do let q ← Op.equal t (a.eval x) (a.eval y); pure (.bool !q)))) →
      opB op b = some z → ∃ q, (execOp a.eval o).run E.P w = .ok (.value q) w ∧ VH ι imm w z q := by
    intro b hb hg hbin hz
    by_cases e1 : op = .eql
    · subst e1
      simp only [opB, Option.some.injEq] at hz; subst hz
      refine ⟨.bool b, ?_, by simp [VH, PH, flatB]⟩
      simp only [execOp, ho, run_bind', hg, hbin .eql (.inl rfl), hb, run_pure']
    · by_cases e2 : op = .neq
      · subst e2
        simp only [opB, Option.some.injEq] at hz; subst hz
        refine ⟨.bool !b, ?_, by simp [VH, PH, flatB]⟩
        simp only [execOp, ho, run_bind', hg, hbin .neq (.inr rfl), hb, run_pure']
      · exfalso; cases op <;> simp_all [opB]
  obtain ⟨A, e1, e2⟩ := nilP_holds hf h1
  obtain ⟨B, e3, e4⟩ := nilP_holds hg h2
  refine fin (b := f && g) ?_ (by rw [e1]; exact eqGuard_run w (by simp) (by simp)) (fun op' ho' => by rw [e1, e3]; rcases ho' with rfl | rfl <;> rfl) h
  unfold Op.equal
  rw [hdp, e1, e3]
  cases A <;> cases B <;> simp only [Option.isNone_none, Option.isNone_some] at e2 e4 <;> subst e2 <;> subst e4 <;> first | (cases hfg; done) | skip
  all_goals simp only [Op.equalIn, run_bind', hu, hdesc, run_pure']; rfl
/-- An append of elements to a slice whose room is full: a new row. -/
theorem does_appendT (hT : TabOk E.P T) {o : Oper} {c : Call} {t t2 : TypeId} (ho : o.op = .call c) (hc : c.callee = .builtin .append) (hty : c.argTypes = #[t, t2]) {d : Nat} (hdst : o.dst = some d) (hd : d < E.n) {r re r2 : TyRow} (hr : T.lookup t = some r) {e : TypeId} (hdesc : r.desc = .slice e) (hre : T.lookup e = some re) (hr2 : T.lookup t2 = some r2) (hd2 : ∀ k, r2.desc ≠ .int k)
    {n : Nat} {qs : List PV} (hlq : qs.length = n * re.size) {f : Option Bool} {m : Nat} {ps : List PV} (hm : 0 < m) (hln : ps.length = m * re.size)
    (hb : (2 * (n + m) + 192) * re.bytes ≤ 281474976710656) (hnm : n + m ≤ 9223372036854775807) (hzs : re.zero.cells.size = re.size) :
    Does E o [.tsl n qs, .pv (.sl f m ps)] [] { v := .sl d 0 (n + m) re.size false, new := [(d, .cells (qs.map .pv ++ ps.map .pv))] } := by
  intro ι imm st a w Q hs hv _ hf
  have hUd : st.U d = false := hf (d, _) (List.mem_cons_self ..)
  have hvs := hs.evls hv
  have hops : o.op.operands.toList = c.args.toList := by rw [ho]; simp [Op.operands, Call.operands, hc]
  rw [hops] at hvs
  obtain ⟨v1, us1, he, hv1, hvs⟩ := hvs
  obtain ⟨v2, us2, he2, hv2, hvs⟩ := hvs
  simp only [VHs] at hvs
  subst hvs
  subst he2
  have hargs : c.args.map a.eval = #[v1, v2] := by apply Array.ext'; simpa using he
  obtain ⟨vsO, p1, p2, p3⟩ := run_src (H := st.H) (y := .tsl n qs) (sz := re.size) (m := n) (hd := []) (cs := qs.map .pv) hs rfl (fun x hx => by cases hx) (by simpa using hlq) hv1
  have hlO := p2.length
  have hv1' := hv1
  simp only [VH] at hv1
  obtain ⟨A, rfl, _, _⟩ := hv1
  obtain ⟨vsN, g1, g2, g3⟩ := run_src (H := st.H) (y := .pv (.sl f m ps)) (sz := re.size) (m := m) (hd := []) (cs := ps.map .pv) hs rfl (fun x hx => by cases hx) (by simpa using hln) hv2
  have hlN := g2.length
  have hnew : ∀ w' : World, (∀ x, w'.cell? x = w.cell? x) → (Builtin.firstCells re.size m v2).run E.P w' = .ok (List.toArray vsN) w' := fun w' hw' => by
    have := g3 m (Nat.le_refl _) w' hw'
    rwa [List.take_of_length_le (by rw [hlN]; simp [hln])] at this
  have hold : ∀ w' : World, (∀ x, w'.cell? x = w.cell? x) → (Builtin.firstCells re.size n (.slice A n n)).run E.P w' = .ok (List.toArray vsO) w' := fun w' hw' => by
    have := p3 n (Nat.le_refl _) w' hw'
    rwa [List.take_of_length_le (by rw [hlO]; simp [hlq])] at this
  obtain ⟨_, grown⟩ := run_append hT hr hdesc hre hr2 hd2 (ty := o.type) (t := t) (n := n) (cap := n) (base := A) g1 hnew hold hb hnm
  have hexec : ∀ {u w'}, (Builtin.append_ #[t, t2] o.type #[.slice A n n, v2]).run E.P w = .ok u w' → (execOp a.eval o).run E.P w = .ok (.value u) w' := fun {u w'} h => by
    simp only [execOp, ho, resolve, hc, run_bind', run_pure', invoke, builtin, hargs, hty, h]
  unfold Oper.wp
  have hdd : ∀ x, o.dst = some x → x < E.n := fun x hx => by rw [hdst] at hx; exact Option.some.inj hx ▸ hd
  obtain ⟨w1, nc, rest, hrun, hnc, ⟨e1, e2, e3, e4, e5⟩, hrest⟩ := grown (by omega)
  rw [hexec hrun, Oper.upon_value]
  have gw : Grows ι ι imm imm w w1 := ⟨fun _ _ h => h, ⟨fun _ h => h, fun k _ => by rw [e1]⟩, fun r' c1 e1' f1 hr' => ⟨c1, f1, by rw [e1]; exact hr', rfl⟩⟩
  have hs1 : SR E ι imm ⟨st.S, st.H, st.U⟩ a w1 := hs.turn gw e2 e3 e4 e5 (by rw [e1]; exact Nat.le_refl _) (fun k _ _ => by rw [e1]) ⟨fun b' k' hb' => by
    obtain ⟨r', z', p1, p2, p3, p4⟩ := hs.heap.blk b' k' hb'
    exact ⟨r', z', p1, p2, p3, p4.grows gw (by rw [e1])⟩, hs.heap.inj⟩ hs.used (fun _ hk => .inl hk) (fun k hk => by rw [e1]; exact hs.immlt k hk)
  have hboth : VHs ι imm w1 (qs.map .pv ++ ps.map .pv) (vsO ++ vsN) := VHs.append (VHs.grows gw _ _ p2) (VHs.grows gw _ _ g2)
  have hNew : NewH ι imm w1 (Obj.cells (vsO ++ vsN ++ rest).toArray e) (.cells (qs.map .pv ++ ps.map .pv)) := by
    refine ⟨_, _, rfl, ?_, CellsH.of_VHs (vs := vsO ++ vsN) hboth fun i hi => ?_⟩
    · simp only [List.length_append, List.size_toArray, hlN, hlO]; omega
    · rw [Nat.zero_add, List.getElem?_toArray, List.getElem?_append_left hi]
  obtain ⟨ι', i1, i2, i3⟩ := hs1.new hUd hNew (.sl d 0 (n + m) re.size false)
  refine ⟨ι', imm, ?_⟩
  have hheap : (World.push w1 (Obj.cells (vsO ++ vsN ++ rest).toArray e)).heap[w1.heap.size]? = some (Obj.cells (vsO ++ vsN ++ rest).toArray e) := by
    show (w1.heap.push _)[_]? = _
    rw [Array.getElem?_push, if_pos rfl]
  have hln' : vsN.length = m * re.size := by rw [hlN]; simp [hln]
  have hlq' : vsO.length = n * re.size := by rw [hlO]; simp [hlq]
  have hfin := i3.put o.dst hdd (v := .sl d 0 (n + m) re.size false) (u := .slice (some ⟨w.heap.size, 0, none⟩) (n + m) nc) ⟨w1.heap.size, 0, nc, i1, by rw [e1], by omega, (fun h => (by cases h)), _, _, _, hheap, by
    simp only [List.size_toArray, List.length_append, hln', hlq', hrest, hzs]
    have : nc = n + m + (nc - (n + m)) := by omega
    rw [this, Nat.add_mul, Nat.add_mul]
    have : n + m + (nc - (n + m)) - (n + m) = nc - (n + m) := by omega
    rw [this]; omega⟩
  exact hfin
end ops
section steps
variable {E : Env} {T : Tab} {cq : Oper → Cls} {n : Nat} {ops : Array Oper}
theorem rexec_eqPtr (C : Cx E T n) {d : Option Nat} {op : BinOp} {t t' : TypeId} {x y : Operand} {ty : TypeId} {pos : String} {af : Array Edge} {g : Option (Nat × Bool)} {st : St} {K : St → Prop}
    {r : TyRow} {et : TypeId} {u v : AV} (p q : Bool) {z : AV} (h1 : dstB n ⟨d, .binOp op t x y t', ty, pos, af, g⟩ = true) (h2 : evls st.S [x, y] = some [u, v]) (hr : T.lookup t = some r) (hd : r.desc = .pointer et) (hp : nilP u = some p) (hq : nilP v = some q) (hpq : (p || q) = true) (hz : opB op (p && q) = some z) (hw : z.within (fun _ => false) = true) (h7 : K (st.after d { v := z })) :
    rexec E cq n ⟨d, .binOp op t x y t', ty, pos, af, g⟩ st K := by
  have hd' : ∀ x, d = some x → x < E.n := fun x e => by
    simp only [dstB, e, decide_eq_true_eq] at h1
    exact C.n ▸ h1
  refine ⟨h1, _, _, _, { vals := h2, deps := fun _ h => (by cases h), fresh := fun _ h => (by cases h), does := does_eqPtr C.tab (o := ⟨d, .binOp op t x y t', ty, pos, af, g⟩) rfl hd' hr hd hp hq hpq hz, reach := rfl, inV := AV.within_mono (fun b hb => by cases hb) _ hw, inN := fun _ h => (by cases h), inW := fun _ h => (by cases h), wr := fun _ h => (by cases h), pure := fun _ => ⟨rfl, rfl, rfl⟩, quiet := fun _ => rfl, foot := by cases (clsOf cq ⟨d, .binOp op t x y t', ty, pos, af, g⟩) <;> rfl }, h7⟩
/-- A slice that does not change, cut to its own length and room. -/
theorem rexec_slice3 (C : Cx E T n) {d : Option Nat} {t : TypeId} {x : Operand} {hi mx : Operand} {ty : TypeId} {pos : String} {af : Array Edge} {g : Option (Nat × Bool)} {st : St} {K : St → Prop} {r re : TyRow} {te : TypeId} {α : Type} {e : Enc α} {D : List α} {f : Option Bool} {k1 k2 : IntKind} (h1 : dstB n ⟨d, .slice t x none (some hi) (some mx), ty, pos, af, g⟩ = true)
    (h2 : evls st.S [x, hi, mx] = some [sS f e D, .pv (.lit (.int k1 (D.length : Int))), .pv (.lit (.int k2 (D.length : Int)))]) (hr : T.lookup t = some r) (hdesc : r.desc = .slice te) (hre : T.lookup te = some re) (hs : re.size = e.sz)
    (h7 : K (st.after d { v := .tsl D.length (encL e D) })) : rexec E cq n ⟨d, .slice t x none (some hi) (some mx), ty, pos, af, g⟩ st K := by
  have key : ((encL e D).drop (0 * e.sz)).take (D.length * e.sz) = encL e D := by
    rw [Nat.zero_mul, List.drop_zero, ← encL_len (e := e), List.take_length]
  refine rexec_primv C (p := (0 ≤ (0 : Int) ∧ (0 : Int) ≤ (D.length : Int) ∧ (D.length : Int) ≤ (D.length : Int) ∧ (D.length : Int) ≤ (D.length : Int)) ∧ (D.length : Int) = (D.length : Int)) (hs := []) (δ := { v := .tsl ((D.length : Int).toNat - (0 : Int).toNat) (((encL e D).drop ((0 : Int).toNat * re.size)).take (((D.length : Int).toNat - (0 : Int).toNat) * re.size)) }) { v := .tsl D.length (encL e D) } h1 rfl h2 ?_ ⟨⟨by omega, by omega, by omega, by omega⟩, rfl⟩ ?_ rfl h7 (by cases (clsOf cq ⟨d, .slice t x none (some hi) (some mx), ty, pos, af, g⟩) <;> rfl)
  · simp only [prim, primSlice, hr, optI, sliceAV, hdesc, hre, sS, cutOf, Option.getD_none]
  · simp only [hs, Int.toNat_natCast, Int.toNat_zero, Nat.sub_zero, key]
theorem rexec_appendT (C : Cx E T n) {d : Nat} {c : Call} {t t2 : TypeId} {ty : TypeId} {pos : String} {af : Array Edge} {g : Option (Nat × Bool)} {st : St} {K : St → Prop} (hc : c.callee = .builtin .append) (hty : c.argTypes = #[t, t2]) (h1 : dstB n ⟨some d, .call c, ty, pos, af, g⟩ = true) (hU : st.U d = false)
    {r re r2 : TyRow} (hr : T.lookup t = some r) {e : TypeId} (hdesc : r.desc = .slice e) (hre : T.lookup e = some re) (hr2 : T.lookup t2 = some r2) (hd2 : ∀ k, r2.desc ≠ .int k) (hzs : re.zero.cells.size = re.size)
    {α : Type} {en : Enc α} {f : Option Bool} {D0 D : List α} (hs : re.size = en.sz) (hv : evls st.S c.args.toList = some [.tsl D0.length (encL en D0), sS f en D]) (hm : 0 < D.length)
    (hbig : (2 * (D0.length + D.length) + 192) * re.bytes ≤ 281474976710656) (hpos : 0 < re.bytes) {nn : Nat} (hnn : nn = D0.length + D.length)
    (h7 : K (st.after (some d) { v := .sl d 0 nn re.size false, new := [(d, .cells (encC en (D0 ++ D)))] })) (hcl : clsOf cq ⟨some d, .call c, ty, pos, af, g⟩ ≠ .pure ∧ clsOf cq ⟨some d, .call c, ty, pos, af, g⟩ ≠ .quiet ∧ footB (clsOf cq ⟨some d, .call c, ty, pos, af, g⟩) [] { v := .sl d 0 nn re.size false, new := [(d, .cells (encC en (D0 ++ D)))] } = true := by exact ⟨by decide, by decide, rfl⟩) :
    rexec E cq n ⟨some d, .call c, ty, pos, af, g⟩ st K := by
  subst hnn
  have hd : d < E.n := by
    simp only [dstB, decide_eq_true_eq] at h1
    exact C.n ▸ h1
  have hdo := does_appendT C.tab (o := ⟨some d, .call c, ty, pos, af, g⟩) rfl hc hty rfl hd hr hdesc hre hr2 hd2 (n := D0.length) (qs := encL en D0) (by rw [encL_len, hs]) (f := f) (ps := encL en D) hm (by rw [encL_len, hs]) hbig (by
    have : 2 * (D0.length + D.length) + 192 ≤ (2 * (D0.length + D.length) + 192) * re.bytes := Nat.le_mul_of_pos_right _ hpos
    omega) hzs
  have hcat : (encL en D0).map AV.pv ++ (encL en D).map AV.pv = encC en (D0 ++ D) := by
    rw [encC_append]; rfl
  rw [hcat] at hdo
  have hops : (Op.operands (.call c)).toList = c.args.toList := by simp [Op.operands, Call.operands, hc]
  refine ⟨h1, _, _, _, { vals := ?_, deps := ?_, fresh := ?_, does := hdo, reach := rfl, inV := ?_, inN := ?_, inW := ?_, wr := ?_, pure := fun h => ?_, quiet := fun h => ?_, foot := hcl.2.2 }, h7⟩
  · show evls st.S (Op.operands (.call c)).toList = _
    rw [hops]; exact hv
  · intro x hx; cases hx
  · intro x hx; simp only [List.mem_singleton] at hx; subst hx; exact hU
  · simp [AV.within]
  · intro x hx; simp only [List.mem_singleton] at hx; subst hx; exact encC_within _ _
  · intro x hx; cases hx
  · intro x hx; cases hx
  · exact absurd h hcl.1
  · rfl
/-- A loop whose first round begins otherwise than the others. -/
theorem Awp.peelM {c : Code} {st : St} {Q : Exit → St → Prop} {σ : Type} (S : σ → List (Nat × AV)) (H : σ → List (Nat × Blk)) (U : List Nat) (J : Nat → σ → Prop) (N : Nat)
    (first : Awp E c st fun e st' => match e with | .normal => ∃ m' y, m' < N ∧ J m' y ∧ ∃ τ, WeakerR st' τ (S y) (H y) U E.I | e => Q e st')
    (round : ∀ m x, J m x → Awp E c (mkSt (S x) (H x) U) fun e st' => match e with | .normal => ∃ m' y, m' < m ∧ J m' y ∧ ∃ τ, WeakerR st' τ (S y) (H y) U E.I | e => Q e st') : Awp E (.loop c) st Q := by
  intro a w hat
  refine wp_loop_ghost (fun m a w => (m = N ∧ At E st a w) ∨ ∃ x, J m x ∧ At E (mkSt (S x) (H x) U) a w) N (.inl ⟨rfl, hat⟩) fun m a w hI => ?_
  rcases hI with ⟨rfl, hat⟩ | ⟨x, hJ, hat⟩
  · refine wp_mono (first a w hat) ?_
    rintro e a' w' ⟨st', h1, h2⟩
    cases e <;> simp only [Exit.then]
    case normal =>
      obtain ⟨m', y, h3, h4, τ, h5⟩ := h1
      exact ⟨m', h3, .inr ⟨y, h4, h2.weakenR h5⟩⟩
    all_goals exact ⟨st', h1, h2⟩
  · refine wp_mono (round m x hJ a w hat) ?_
    rintro e a' w' ⟨st', h1, h2⟩
    cases e <;> simp only [Exit.then]
    case normal =>
      obtain ⟨m', y, h3, h4, τ, h5⟩ := h1
      exact ⟨m', h3, .inr ⟨y, h4, h2.weakenR h5⟩⟩
    all_goals exact ⟨st', h1, h2⟩
end steps
end Go.Am
/- Readers of bytes. No conditions. -/
namespace Go.Proofs.Ytaffaalpgpepeaa
open Go.Am
structure Reader where
  b : (Sl Int)
  at_ : Int
  err : Int
  made : Bool
  deriving Inhabited
def rdErr (r : Reader) : Int :=
  (bif (!r.made) then 6 else r.err)
theorem rdErr_calls (r : Reader)  : MCalls Try.prog 80 [.ptr 0 0] (.cells [sS (some r.b.nil) (eI .u8) r.b.D, .pv (.lit (.int .i64 r.at_)), .pv (.lit (.int .i64 r.err)), .pv (.lit (.bool r.made))]) (.pv (.lit (.int .i64 (rdErr r)))) (.cells [sS (some r.b.nil) (eI .u8) r.b.D, .pv (.lit (.int .i64 r.at_)), .pv (.lit (.int .i64 r.err)), .pv (.lit (.bool r.made))]) := by
 generalize hR : rdErr r = R
 refine MCalls.of_body tabOk Try.func80 rfl rfl rfl rfl rfl rfl rfl mixed fun E hP C hI => ?_
 refine Awp.consP C ?_
 refine rvP C (.pv (.lit (.int .i64 0))) ?_
 refine rvc_nil ?_
 refine Awp.seq ?_
 refine Awp.consP C ?_
 refine rvP C (.ptr 0 0) ?_
 refine rvc_un (rexec_eqPtr C false true (z := .pv (.lit (.bool false))) rfl rfl rfl rfl rfl rfl rfl rfl rfl ?_)
 refine rvP C (.pv (.lit (.bool false))) ?_
 refine rvO C (.ptr 0 0) ?_
 refine rvO C (.ptr 0 0) ?_
 refine rvO C (.ptr 0 3) ?_
 refine rvO C (.pv (.lit (.bool r.made))) ?_
 refine rvO C (.pv (.lit (.bool (!r.made)))) ?_
 refine rvP C (.pv (.lit (.bool (!r.made)))) ?_
 refine rvc_nil ?_
 refine Awp.cond (b := (!r.made)) rfl (fun h1 => ?_) (fun h1 => ?_)
 ·
  replace hR := of_true h1 hR
  refine Awp.consP C ?_
  refine rvP C (.pv (.lit (.int .i64 6))) ?_
  refine rvc_nil ?_
  refine Awp.ret ?_
  subst hR
  exact ⟨.inl rfl, rfl, rfl⟩
 ·
  replace hR := of_false h1 hR
  refine Awp.skip ?_
  refine Awp.consP C ?_
  refine rvP C (.ptr 0 0) ?_
  refine rvP C (.ptr 0 0) ?_
  refine rvP C (.ptr 0 2) ?_
  refine rvP C (.pv (.lit (.int .i64 r.err))) ?_
  refine rvP C (.pv (.lit (.int .i64 r.err))) ?_
  refine rvc_nil ?_
  refine Awp.ret ?_
  subst hR
  exact ⟨.inl rfl, rfl, rfl⟩
def rdEnd (r : Reader) : Int :=
  (bif ((rdErr r) != 0) then (rdErr r) else (bif (decide (r.at_ < (r.b.D.length : Int))) then 3 else 0))
theorem rdEnd_calls (r : Reader)  : MCalls Try.prog 70 [.ptr 0 0] (.cells [sS (some r.b.nil) (eI .u8) r.b.D, .pv (.lit (.int .i64 r.at_)), .pv (.lit (.int .i64 r.err)), .pv (.lit (.bool r.made))]) (.pv (.lit (.int .i64 (rdEnd r)))) (.cells [sS (some r.b.nil) (eI .u8) r.b.D, .pv (.lit (.int .i64 r.at_)), .pv (.lit (.int .i64 r.err)), .pv (.lit (.bool r.made))]) := by
 generalize hR : rdEnd r = R
 refine MCalls.of_body tabOk Try.func70 rfl rfl rfl rfl rfl rfl rfl mixed fun E hP C hI => ?_
 refine Awp.consP C ?_
 refine rvP C (.pv (.lit (.int .i64 0))) ?_
 refine rvc_nil ?_
 refine Awp.seq ?_
 refine Awp.cons C (fun _ => .writer) (by kernel_rfl) ?_
 refine rvP C (.ptr 0 0) ?_
 refine rvc_un (rexec_callM hP C (b := 0) rfl rfl rfl (rdErr_calls r) rfl rfl ?_)
 refine rvP C (.pv (.lit (.int .i64 (rdErr r)))) ?_
 refine rvc_nil ?_
 refine Awp.consP C ?_
 refine rvP C (.pv (.lit (.int .i64 (rdErr r)))) ?_
 refine rvP C (.pv (.lit (.bool ((rdErr r) != 0)))) ?_
 refine rvc_nil ?_
 refine Awp.cond (b := ((rdErr r) != 0)) rfl (fun h1 => ?_) (fun h1 => ?_)
 ·
  replace hR := of_true h1 hR
  refine Awp.consP C ?_
  refine rvP C (.pv (.lit (.int .i64 (rdErr r)))) ?_
  refine rvP C (.pv (.lit (.int .i64 (rdErr r)))) ?_
  refine rvc_nil ?_
  refine Awp.ret ?_
  subst hR
  exact ⟨.inl rfl, rfl, rfl⟩
 ·
  replace hR := of_false h1 hR
  refine Awp.skip ?_
  refine Awp.seq ?_
  refine Awp.consP C ?_
  refine rvP C (.ptr 0 0) ?_
  refine rvP C (.ptr 0 0) ?_
  refine rvP C (.ptr 0 1) ?_
  refine rvP C (.pv (.lit (.int .i64 r.at_))) ?_
  refine rvP C (.ptr 0 0) ?_
  refine rvP C (.ptr 0 0) ?_
  refine rvP C (.ptr 0 0) ?_
  refine rvP C (sS (some r.b.nil) (eI .u8) r.b.D) ?_
  refine rvP C (.pv (.lit (.int .i64 (r.b.D.length : Int)))) ?_
  refine rvP C (.pv (.lit (.bool (decide (r.at_ < (r.b.D.length : Int)))))) ?_
  refine rvc_nil ?_
  refine Awp.cond (b := (decide (r.at_ < (r.b.D.length : Int)))) rfl (fun h2 => ?_) (fun h2 => ?_)
  ·
   replace hR := of_true h2 hR
   refine Awp.consP C ?_
   refine rvP C (.pv (.lit (.int .i64 3))) ?_
   refine rvc_nil ?_
   refine Awp.ret ?_
   subst hR
   exact ⟨.inl rfl, rfl, rfl⟩
  ·
   replace hR := of_false h2 hR
   refine Awp.skip ?_
   refine Awp.consP C ?_
   refine rvP C (.pv (.lit (.int .i64 0))) ?_
   refine rvc_nil ?_
   refine Awp.ret ?_
   subst hR
   exact ⟨.inl rfl, rfl, rfl⟩
def rdLeft (r : Reader) : Int :=
  (bif ((rdErr r) == 6) then 0 else (IntKind.i64.wrap ((r.b.D.length : Int) - r.at_)))
theorem rdLeft_calls (r : Reader)  : MCalls Try.prog 78 [.ptr 0 0] (.cells [sS (some r.b.nil) (eI .u8) r.b.D, .pv (.lit (.int .i64 r.at_)), .pv (.lit (.int .i64 r.err)), .pv (.lit (.bool r.made))]) (.pv (.lit (.int .i64 (rdLeft r)))) (.cells [sS (some r.b.nil) (eI .u8) r.b.D, .pv (.lit (.int .i64 r.at_)), .pv (.lit (.int .i64 r.err)), .pv (.lit (.bool r.made))]) := by
 generalize hR : rdLeft r = R
 refine MCalls.of_body tabOk Try.func78 rfl rfl rfl rfl rfl rfl rfl mixed fun E hP C hI => ?_
 refine Awp.consP C ?_
 refine rvP C (.pv (.lit (.int .i64 0))) ?_
 refine rvc_nil ?_
 refine Awp.seq ?_
 refine Awp.cons C (fun _ => .writer) (by kernel_rfl) ?_
 refine rvP C (.ptr 0 0) ?_
 refine rvc_un (rexec_callM hP C (b := 0) rfl rfl rfl (rdErr_calls r) rfl rfl ?_)
 refine rvP C (.pv (.lit (.bool ((rdErr r) == 6)))) ?_
 refine rvc_nil ?_
 refine Awp.cond (b := ((rdErr r) == 6)) rfl (fun h1 => ?_) (fun h1 => ?_)
 ·
  replace hR := of_true h1 hR
  refine Awp.consP C ?_
  refine rvP C (.pv (.lit (.int .i64 0))) ?_
  refine rvc_nil ?_
  refine Awp.ret ?_
  subst hR
  exact ⟨.inl rfl, rfl, rfl⟩
 ·
  replace hR := of_false h1 hR
  refine Awp.skip ?_
  refine Awp.consP C ?_
  refine rvP C (.ptr 0 0) ?_
  refine rvP C (.ptr 0 0) ?_
  refine rvP C (.ptr 0 0) ?_
  refine rvP C (sS (some r.b.nil) (eI .u8) r.b.D) ?_
  refine rvP C (.pv (.lit (.int .i64 (r.b.D.length : Int)))) ?_
  refine rvP C (.ptr 0 0) ?_
  refine rvP C (.ptr 0 0) ?_
  refine rvP C (.ptr 0 1) ?_
  refine rvP C (.pv (.lit (.int .i64 r.at_))) ?_
  refine rvP C (.pv (.lit (.int .i64 (IntKind.i64.wrap ((r.b.D.length : Int) - r.at_))))) ?_
  refine rvP C (.pv (.lit (.int .i64 (IntKind.i64.wrap ((r.b.D.length : Int) - r.at_))))) ?_
  refine rvc_nil ?_
  refine Awp.ret ?_
  subst hR
  exact ⟨.inl rfl, rfl, rfl⟩
def rdStop (r : Reader) (at_ : Int) (e_ : Int) : Reader :=
  (bif (r.err == 0) then (Reader.mk r.b at_ e_ r.made) else r)
theorem rdStop_calls (r : Reader) (at_ : Int) (e_ : Int)  : MCalls Try.prog 81 [.ptr 0 0, .pv (.lit (.int .i64 at_)), .pv (.lit (.int .i64 e_))] (.cells [sS (some r.b.nil) (eI .u8) r.b.D, .pv (.lit (.int .i64 r.at_)), .pv (.lit (.int .i64 r.err)), .pv (.lit (.bool r.made))]) (.tup []) (.cells [sS (some (rdStop r at_ e_).b.nil) (eI .u8) ((rdStop r at_ e_).b.D), .pv (.lit (.int .i64 ((rdStop r at_ e_).at_))), .pv (.lit (.int .i64 ((rdStop r at_ e_).err))), .pv (.lit (.bool ((rdStop r at_ e_).made)))]) := by
 generalize hR : rdStop r at_ e_ = R
 refine MCalls.of_body tabOk Try.func81 rfl rfl rfl rfl rfl rfl rfl mixed fun E hP C hI => ?_
 refine Awp.consP C ?_
 refine rvP C (.ptr 0 0) ?_
 refine rvP C (.ptr 0 0) ?_
 refine rvP C (.ptr 0 2) ?_
 refine rvP C (.pv (.lit (.int .i64 r.err))) ?_
 refine rvP C (.pv (.lit (.bool (r.err == 0)))) ?_
 refine rvc_nil ?_
 refine Awp.cond (b := (r.err == 0)) rfl (fun h1 => ?_) (fun h1 => ?_)
 ·
  replace hR := of_true h1 hR
  refine Awp.regionP C ?_
  refine rvP C (.ptr 0 0) ?_
  refine rvP C (.ptr 0 0) ?_
  refine rvP C (.pv (.lit (.int .i64 at_))) ?_
  refine rvP C (.pv (.lit (.int .i64 e_))) ?_
  refine rvP C (.ptr 0 0) ?_
  refine rvP C (.ptr 0 1) ?_
  refine rvc_un (rexec_prim C (δ := { v := .undef, wr := [(0, some (.cells [sS (some r.b.nil) (eI .u8) r.b.D, .pv (.lit (.int .i64 at_)), .pv (.lit (.int .i64 r.err)), .pv (.lit (.bool r.made))]))] }) rfl rfl rfl rfl trivial rfl ?_)
  refine rvP C (.ptr 0 0) ?_
  refine rvP C (.ptr 0 2) ?_
  refine rvc_un (rexec_prim C (δ := { v := .undef, wr := [(0, some (.cells [sS (some r.b.nil) (eI .u8) r.b.D, .pv (.lit (.int .i64 at_)), .pv (.lit (.int .i64 e_)), .pv (.lit (.bool r.made))]))] }) rfl rfl rfl rfl trivial rfl ?_)
  refine rvc_nil ?_
  subst hR
  exact ⟨.inr rfl, rfl, rfl⟩
 ·
  replace hR := of_false h1 hR
  refine Awp.skip ?_
  subst hR
  exact ⟨.inr rfl, rfl, rfl⟩
def rdNum_l0 (r : Reader) : Nat → Int → Int → Reader → Reader × Int
  | 0, _, _, _ => default
  | nn + 1, n, shift, vc => (bif (vc.at_ == (vc.b.D.length : Int)) then ((rdStop vc r.at_ 2), 0) else (bif (shift == 63) then (bif (decide ((IntKind.u64.wrap (bitI .and .u8 (vc.b.D[vc.at_.toNat]!) 127)) > 1)) then ((rdStop (Reader.mk vc.b (IntKind.i64.wrap (vc.at_ + 1)) vc.err vc.made) r.at_ 5), 0) else (bif (decide (shift > 63)) then ((rdStop (Reader.mk vc.b (IntKind.i64.wrap (vc.at_ + 1)) vc.err vc.made) r.at_ 5), 0) else (bif ((vc.b.D[vc.at_.toNat]!) == 0) then (bif (decide (shift > 0)) then ((rdStop (Reader.mk vc.b (IntKind.i64.wrap (vc.at_ + 1)) vc.err vc.made) r.at_ 10), 0) else (bif (decide ((vc.b.D[vc.at_.toNat]!) < 128)) then ((Reader.mk vc.b (IntKind.i64.wrap (vc.at_ + 1)) vc.err vc.made), (bitI .or .u64 n (shlI .u64 (IntKind.u64.wrap (bitI .and .u8 (vc.b.D[vc.at_.toNat]!) 127)) shift))) else rdNum_l0 r nn (bitI .or .u64 n (shlI .u64 (IntKind.u64.wrap (bitI .and .u8 (vc.b.D[vc.at_.toNat]!) 127)) shift)) (IntKind.i64.wrap (shift + 7)) (Reader.mk vc.b (IntKind.i64.wrap (vc.at_ + 1)) vc.err vc.made))) else (bif (decide ((vc.b.D[vc.at_.toNat]!) < 128)) then ((Reader.mk vc.b (IntKind.i64.wrap (vc.at_ + 1)) vc.err vc.made), (bitI .or .u64 n (shlI .u64 (IntKind.u64.wrap (bitI .and .u8 (vc.b.D[vc.at_.toNat]!) 127)) shift))) else rdNum_l0 r nn (bitI .or .u64 n (shlI .u64 (IntKind.u64.wrap (bitI .and .u8 (vc.b.D[vc.at_.toNat]!) 127)) shift)) (IntKind.i64.wrap (shift + 7)) (Reader.mk vc.b (IntKind.i64.wrap (vc.at_ + 1)) vc.err vc.made))))) else (bif (decide (shift > 63)) then ((rdStop (Reader.mk vc.b (IntKind.i64.wrap (vc.at_ + 1)) vc.err vc.made) r.at_ 5), 0) else (bif ((vc.b.D[vc.at_.toNat]!) == 0) then (bif (decide (shift > 0)) then ((rdStop (Reader.mk vc.b (IntKind.i64.wrap (vc.at_ + 1)) vc.err vc.made) r.at_ 10), 0) else (bif (decide ((vc.b.D[vc.at_.toNat]!) < 128)) then ((Reader.mk vc.b (IntKind.i64.wrap (vc.at_ + 1)) vc.err vc.made), (bitI .or .u64 n (shlI .u64 (IntKind.u64.wrap (bitI .and .u8 (vc.b.D[vc.at_.toNat]!) 127)) shift))) else rdNum_l0 r nn (bitI .or .u64 n (shlI .u64 (IntKind.u64.wrap (bitI .and .u8 (vc.b.D[vc.at_.toNat]!) 127)) shift)) (IntKind.i64.wrap (shift + 7)) (Reader.mk vc.b (IntKind.i64.wrap (vc.at_ + 1)) vc.err vc.made))) else (bif (decide ((vc.b.D[vc.at_.toNat]!) < 128)) then ((Reader.mk vc.b (IntKind.i64.wrap (vc.at_ + 1)) vc.err vc.made), (bitI .or .u64 n (shlI .u64 (IntKind.u64.wrap (bitI .and .u8 (vc.b.D[vc.at_.toNat]!) 127)) shift))) else rdNum_l0 r nn (bitI .or .u64 n (shlI .u64 (IntKind.u64.wrap (bitI .and .u8 (vc.b.D[vc.at_.toNat]!) 127)) shift)) (IntKind.i64.wrap (shift + 7)) (Reader.mk vc.b (IntKind.i64.wrap (vc.at_ + 1)) vc.err vc.made))))))
def rdNum (r : Reader) : Reader × Int :=
  (bif ((rdErr r) != 0) then (r, 0) else rdNum_l0 r ((r.b.D.length - r.at_.toNat) + 1) 0 0 r)
theorem rdNum_calls (r : Reader) (hk : (0 ≤ r.at_ ∧ r.at_ ≤ (r.b.D.length : Int)) ∧ r.b.D.length ≤ 1000000) : MCalls Try.prog 79 [.ptr 0 0] (.cells [sS (some r.b.nil) (eI .u8) r.b.D, .pv (.lit (.int .i64 r.at_)), .pv (.lit (.int .i64 r.err)), .pv (.lit (.bool r.made))]) (.pv (.lit (.int .u64 ((rdNum r).2)))) (.cells [sS (some (rdNum r).1.b.nil) (eI .u8) ((rdNum r).1.b.D), .pv (.lit (.int .i64 ((rdNum r).1.at_))), .pv (.lit (.int .i64 ((rdNum r).1.err))), .pv (.lit (.bool ((rdNum r).1.made)))]) := by
 generalize hR : rdNum r = R
 refine MCalls.of_body tabOk Try.func79 rfl rfl rfl rfl rfl rfl rfl mixed fun E hP C hI => ?_
 refine Awp.consP C ?_
 refine rvP C (.pv (.lit (.int .u64 0))) ?_
 refine rvc_nil ?_
 refine Awp.seq ?_
 refine Awp.cons C (fun _ => .writer) (by kernel_rfl) ?_
 refine rvP C (.ptr 0 0) ?_
 refine rvc_un (rexec_callM hP C (b := 0) rfl rfl rfl (rdErr_calls r) rfl rfl ?_)
 refine rvP C (.pv (.lit (.bool ((rdErr r) != 0)))) ?_
 refine rvc_nil ?_
 refine Awp.cond (b := ((rdErr r) != 0)) rfl (fun h1 => ?_) (fun h1 => ?_)
 ·
  replace hR := of_true h1 hR
  refine Awp.consP C ?_
  refine rvP C (.pv (.lit (.int .u64 0))) ?_
  refine rvc_nil ?_
  refine Awp.ret ?_
  subst hR
  exact ⟨.inl rfl, rfl, rfl⟩
 ·
  replace hR := of_false h1 hR
  refine Awp.skip ?_
  refine Awp.consP C ?_
  refine rvP C (.ptr 0 0) ?_
  refine rvP C (.ptr 0 0) ?_
  refine rvP C (.ptr 0 1) ?_
  refine rvP C (.pv (.lit (.int .i64 r.at_))) ?_
  refine rvP C (.pv (.lit (.int .u64 0))) ?_
  refine rvP C (.pv (.lit (.int .i64 r.at_))) ?_
  refine rvc_nil ?_
  refine Awp.consP C ?_
  refine rvP C (.pv (.lit (.int .i64 0))) ?_
  refine rvc_nil ?_
  refine Awp.block ?_
  refine Awp.forM (σ := Int × Int × Reader) (fun v => [(0, .ptr 0 0), (3, .pv (.lit (.int .u64 v.1))), (4, .pv (.lit (.int .i64 r.at_))), (5, .pv (.lit (.int .i64 v.2.1)))]) (fun v => [(0, .cells [sS (some v.2.2.b.nil) (eI .u8) v.2.2.b.D, .pv (.lit (.int .i64 v.2.2.at_)), .pv (.lit (.int .i64 v.2.2.err)), .pv (.lit (.bool v.2.2.made))])]) [0] (fun n v => n = (v.2.2.b.D.length - v.2.2.at_.toNat) ∧ rdNum_l0 r ((v.2.2.b.D.length - v.2.2.at_.toNat) + 1) v.1 v.2.1 v.2.2 = R ∧ (((0 ≤ v.2.2.at_ ∧ v.2.2.at_ ≤ (v.2.2.b.D.length : Int)) ∧ v.2.2.b.D.length ≤ 1000000) ∧ 0 ≤ v.2.1 ∧ v.2.1 ≤ 70)) ((r.b.D.length - r.at_.toNat)) (0, 0, r) ?_ ?_ (fun _ v h2 => ?_)
  · exact ⟨rfl, hR, ⟨hk, (by dsimp only; omega)⟩⟩
  · exact ⟨fun b => b, WeakerR.ofLI (I := [0]) (Ks := [0]) hI ⟨⟨rfl, rfl⟩, ⟨rfl, rfl⟩, ⟨rfl, rfl⟩, ⟨rfl, rfl⟩, trivial⟩ (okH_cons rfl rfl rfl rfl (okH_nil)) rfl rfl⟩
  obtain ⟨n, shift, vc⟩ := v
  obtain ⟨rfl, hR, ⟨hVk, hVs⟩⟩ := h2
  replace hVk : (0 ≤ vc.at_ ∧ vc.at_ ≤ (vc.b.D.length : Int)) ∧ vc.b.D.length ≤ 1000000 := hVk
  replace hVs : 0 ≤ shift ∧ shift ≤ 70 := hVs
  refine Awp.seq ?_
  refine Awp.block ?_
  refine Awp.seq ?_
  refine Awp.consP C ?_
  refine rvP C (.ptr 0 0) ?_
  refine rvP C (.ptr 0 0) ?_
  refine rvP C (.ptr 0 1) ?_
  refine rvP C (.pv (.lit (.int .i64 vc.at_))) ?_
  refine rvP C (.ptr 0 0) ?_
  refine rvP C (.ptr 0 0) ?_
  refine rvP C (.ptr 0 0) ?_
  refine rvP C (sS (some vc.b.nil) (eI .u8) vc.b.D) ?_
  refine rvP C (.pv (.lit (.int .i64 (vc.b.D.length : Int)))) ?_
  refine rvP C (.pv (.lit (.bool (vc.at_ == (vc.b.D.length : Int))))) ?_
  refine rvc_nil ?_
  refine Awp.cond (b := (vc.at_ == (vc.b.D.length : Int))) rfl (fun h4 => ?_) (fun h4 => ?_)
  ·
   replace hR := of_true h4 hR
   refine Awp.cons C (fun _ => .writer) (by kernel_rfl) ?_
   refine rvP C (.ptr 0 0) ?_
   refine rvP C (.pv (.lit (.int .i64 r.at_))) ?_
   refine rvc_un (rexec_callM hP C (b := 0) rfl rfl rfl (rdStop_calls vc r.at_ 2) rfl rfl ?_)
   refine rvc_nil ?_
   refine Awp.consP C ?_
   refine rvP C (.pv (.lit (.int .u64 0))) ?_
   refine rvc_nil ?_
   refine Awp.ret ?_
   subst hR
   exact ⟨.inl rfl, rfl, rfl⟩
  ·
   replace hR := of_false h4 hR
   refine Awp.skip ?_
   refine Awp.consP C ?_
   refine rvP C (.ptr 0 0) ?_
   refine rvP C (.ptr 0 0) ?_
   refine rvP C (.ptr 0 0) ?_
   refine rvP C (sS (some vc.b.nil) (eI .u8) vc.b.D) ?_
   refine rvP C (.ptr 0 0) ?_
   refine rvP C (.ptr 0 0) ?_
   refine rvP C (.ptr 0 1) ?_
   refine rvP C (.pv (.lit (.int .i64 vc.at_))) ?_
   have h5 : vc.b.D[vc.at_.toNat]? = some vc.b.D[vc.at_.toNat]! := getE (by have := ne_of_beq_false ‹(vc.at_ == (vc.b.D.length : Int)) = false›; omega)
   refine rvc_un (rexec_idxS C rfl rfl rfl rfl rfl rfl (vc.b.D[vc.at_.toNat]!) (by have := eq_of_bne_false h1; have := ne_of_beq_false h4; omega) h5 ?_)
   refine rvP C (.pv (.lit (.int .u8 (vc.b.D[vc.at_.toNat]!)))) ?_
   refine rvP C (.pv (.lit (.int .u8 (vc.b.D[vc.at_.toNat]!)))) ?_
   refine rvc_nil ?_
   refine Awp.consP C ?_
   refine rvP C (.ptr 0 0) ?_
   refine rvP C (.ptr 0 0) ?_
   refine rvP C (.ptr 0 1) ?_
   refine rvP C (.pv (.lit (.int .i64 vc.at_))) ?_
   refine rvP C (.pv (.lit (.int .i64 (IntKind.i64.wrap (vc.at_ + 1))))) ?_
   refine rvP C (.ptr 0 0) ?_
   refine rvP C (.ptr 0 1) ?_
   refine rvc_un (rexec_prim C (δ := { v := .undef, wr := [(0, some (.cells [sS (some vc.b.nil) (eI .u8) vc.b.D, .pv (.lit (.int .i64 (IntKind.i64.wrap (vc.at_ + 1)))), .pv (.lit (.int .i64 vc.err)), .pv (.lit (.bool vc.made))]))] }) rfl rfl rfl rfl trivial rfl ?_)
   refine rvc_nil ?_
   refine Awp.consP C ?_
   refine rvP C (.pv (.lit (.int .u8 (vc.b.D[vc.at_.toNat]!)))) ?_
   refine rvP C (.pv (.lit (.int .u8 (bitI .and .u8 (vc.b.D[vc.at_.toNat]!) 127)))) ?_
   refine rvP C (.pv (.lit (.int .u64 (IntKind.u64.wrap (bitI .and .u8 (vc.b.D[vc.at_.toNat]!) 127))))) ?_
   refine rvP C (.pv (.lit (.int .u64 (IntKind.u64.wrap (bitI .and .u8 (vc.b.D[vc.at_.toNat]!) 127))))) ?_
   refine rvc_nil ?_
   refine Awp.seq ?_
   refine Awp.block ?_
   refine Awp.consP C ?_
   refine rvP C (.pv (.lit (.int .i64 shift))) ?_
   refine rvP C (.pv (.lit (.bool (shift == 63)))) ?_
   refine rvP C (.pv (.lit (.bool (shift == 63)))) ?_
   refine rvc_case 53 (shift == 63) rfl (fun h6 => ?_) (fun h6 => ?_)
   ·
    replace hR := of_true h6 hR
    refine rvO C (.pv (.lit (.int .u64 (IntKind.u64.wrap (bitI .and .u8 (vc.b.D[vc.at_.toNat]!) 127))))) ?_
    refine rvO C (.pv (.lit (.bool (decide ((IntKind.u64.wrap (bitI .and .u8 (vc.b.D[vc.at_.toNat]!) 127)) > 1))))) ?_
    refine rvP C (.pv (.lit (.bool (decide ((IntKind.u64.wrap (bitI .and .u8 (vc.b.D[vc.at_.toNat]!) 127)) > 1))))) ?_
    refine rvP C (.pv (.lit (.bool (decide ((IntKind.u64.wrap (bitI .and .u8 (vc.b.D[vc.at_.toNat]!) 127)) > 1))))) ?_
    refine rvc_case 57 (decide ((IntKind.u64.wrap (bitI .and .u8 (vc.b.D[vc.at_.toNat]!) 127)) > 1)) rfl (fun h7 => ?_) (fun h7 => ?_)
    ·
     replace hR := of_true h7 hR
     refine rvS ?_
     refine rvS ?_
     refine rvP C (.pv (.lit (.bool true))) ?_
     refine rvP C (.pv (.lit (.bool true))) ?_
     refine rvc_nil ?_
     refine Awp.condT (b := true) rfl rfl ?_
     refine Awp.cons C (fun _ => .writer) (by kernel_rfl) ?_
     refine rvP C (.ptr 0 0) ?_
     refine rvP C (.pv (.lit (.int .i64 r.at_))) ?_
     refine rvc_un (rexec_callM hP C (b := 0) rfl rfl rfl (rdStop_calls (Reader.mk vc.b (IntKind.i64.wrap (vc.at_ + 1)) vc.err vc.made) r.at_ 5) rfl rfl ?_)
     refine rvc_nil ?_
     refine Awp.consP C ?_
     refine rvP C (.pv (.lit (.int .u64 0))) ?_
     refine rvc_nil ?_
     refine Awp.ret ?_
     subst hR
     exact ⟨.inl rfl, rfl, rfl⟩
    ·
     replace hR := of_false h7 hR
     refine rvO C (.pv (.lit (.int .i64 shift))) ?_
     refine rvO C (.pv (.lit (.bool (decide (shift > 63))))) ?_
     refine rvP C (.pv (.lit (.bool (decide (shift > 63))))) ?_
     refine rvP C (.pv (.lit (.bool (decide (shift > 63))))) ?_
     refine rvc_nil ?_
     refine Awp.cond (b := (decide (shift > 63))) rfl (fun h8 => ?_) (fun h8 => ?_)
     ·
      replace hR := of_true h8 hR
      refine Awp.cons C (fun _ => .writer) (by kernel_rfl) ?_
      refine rvP C (.ptr 0 0) ?_
      refine rvP C (.pv (.lit (.int .i64 r.at_))) ?_
      refine rvc_un (rexec_callM hP C (b := 0) rfl rfl rfl (rdStop_calls (Reader.mk vc.b (IntKind.i64.wrap (vc.at_ + 1)) vc.err vc.made) r.at_ 5) rfl rfl ?_)
      refine rvc_nil ?_
      refine Awp.consP C ?_
      refine rvP C (.pv (.lit (.int .u64 0))) ?_
      refine rvc_nil ?_
      refine Awp.ret ?_
      subst hR
      exact ⟨.inl rfl, rfl, rfl⟩
     ·
      replace hR := of_false h8 hR
      refine Awp.consP C ?_
      refine rvP C (.pv (.lit (.int .u8 (vc.b.D[vc.at_.toNat]!)))) ?_
      refine rvP C (.pv (.lit (.bool ((vc.b.D[vc.at_.toNat]!) == 0)))) ?_
      refine rvP C (.pv (.lit (.bool ((vc.b.D[vc.at_.toNat]!) == 0)))) ?_
      refine rvc_case 67 ((vc.b.D[vc.at_.toNat]!) == 0) rfl (fun h9 => ?_) (fun h9 => ?_)
      ·
       replace hR := of_true h9 hR
       refine rvO C (.pv (.lit (.int .i64 shift))) ?_
       refine rvO C (.pv (.lit (.bool (decide (shift > 0))))) ?_
       refine rvP C (.pv (.lit (.bool (decide (shift > 0))))) ?_
       refine rvP C (.pv (.lit (.bool (decide (shift > 0))))) ?_
       refine rvc_nil ?_
       refine Awp.cond (b := (decide (shift > 0))) rfl (fun h10 => ?_) (fun h10 => ?_)
       ·
        replace hR := of_true h10 hR
        refine Awp.cons C (fun _ => .writer) (by kernel_rfl) ?_
        refine rvP C (.ptr 0 0) ?_
        refine rvP C (.pv (.lit (.int .i64 r.at_))) ?_
        refine rvc_un (rexec_callM hP C (b := 0) rfl rfl rfl (rdStop_calls (Reader.mk vc.b (IntKind.i64.wrap (vc.at_ + 1)) vc.err vc.made) r.at_ 10) rfl rfl ?_)
        refine rvc_nil ?_
        refine Awp.consP C ?_
        refine rvP C (.pv (.lit (.int .u64 0))) ?_
        refine rvc_nil ?_
        refine Awp.ret ?_
        subst hR
        exact ⟨.inl rfl, rfl, rfl⟩
       ·
        replace hR := of_false h10 hR
        refine Awp.skip ?_
        refine Awp.consP C ?_
        refine rvP C (.pv (.lit (.int .u64 n))) ?_
        refine rvP C (.pv (.lit (.int .u64 (IntKind.u64.wrap (bitI .and .u8 (vc.b.D[vc.at_.toNat]!) 127))))) ?_
        refine rvP C (.pv (.lit (.int .i64 shift))) ?_
        refine rvc_un (rexec_prim C (δ := { v := .pv (.lit (.int .u64 (shlI .u64 (IntKind.u64.wrap (bitI .and .u8 (vc.b.D[vc.at_.toNat]!) 127)) shift))) }) rfl rfl rfl rfl (by omega) rfl ?_)
        refine rvP C (.pv (.lit (.int .u64 (bitI .or .u64 n (shlI .u64 (IntKind.u64.wrap (bitI .and .u8 (vc.b.D[vc.at_.toNat]!) 127)) shift))))) ?_
        refine rvP C (.pv (.lit (.int .u64 (bitI .or .u64 n (shlI .u64 (IntKind.u64.wrap (bitI .and .u8 (vc.b.D[vc.at_.toNat]!) 127)) shift))))) ?_
        refine rvc_nil ?_
        refine Awp.consP C ?_
        refine rvP C (.pv (.lit (.int .u8 (vc.b.D[vc.at_.toNat]!)))) ?_
        refine rvP C (.pv (.lit (.bool (decide ((vc.b.D[vc.at_.toNat]!) < 128))))) ?_
        refine rvc_nil ?_
        refine Awp.cond (b := (decide ((vc.b.D[vc.at_.toNat]!) < 128))) rfl (fun h11 => ?_) (fun h11 => ?_)
        ·
         replace hR := of_true h11 hR
         refine Awp.consP C ?_
         refine rvP C (.pv (.lit (.int .u64 (bitI .or .u64 n (shlI .u64 (IntKind.u64.wrap (bitI .and .u8 (vc.b.D[vc.at_.toNat]!) 127)) shift))))) ?_
         refine rvP C (.pv (.lit (.int .u64 (bitI .or .u64 n (shlI .u64 (IntKind.u64.wrap (bitI .and .u8 (vc.b.D[vc.at_.toNat]!) 127)) shift))))) ?_
         refine rvc_nil ?_
         refine Awp.ret ?_
         subst hR
         exact ⟨.inl rfl, rfl, rfl⟩
        ·
         replace hR := of_false h11 hR
         refine Awp.skip ?_
         refine Awp.regionP C ?_
         refine rvP C (.pv (.lit (.int .i64 shift))) ?_
         refine rvP C (.pv (.lit (.int .i64 (IntKind.i64.wrap (shift + 7))))) ?_
         refine rvP C (.pv (.lit (.int .i64 (IntKind.i64.wrap (shift + 7))))) ?_
         refine rvc_nil ?_
         refine ⟨_, ((bitI .or .u64 n (shlI .u64 (IntKind.u64.wrap (bitI .and .u8 (vc.b.D[vc.at_.toNat]!) 127)) shift)), (IntKind.i64.wrap (shift + 7)), (Reader.mk vc.b (IntKind.i64.wrap (vc.at_ + 1)) vc.err vc.made)), ?_, ⟨rfl, (by rw [show ((Reader.mk vc.b (IntKind.i64.wrap (vc.at_ + 1)) vc.err vc.made).b.D.length - (Reader.mk vc.b (IntKind.i64.wrap (vc.at_ + 1)) vc.err vc.made).at_.toNat) + 1 = (vc.b.D.length - vc.at_.toNat) by (have := wrapI (vc.at_ + 1); have := ne_of_beq_false ‹(vc.at_ == (vc.b.D.length : Int)) = false›; dsimp only; omega)]; exact hR), ⟨(by have := wrapI (vc.at_ + 1); have := ne_of_beq_false ‹(vc.at_ == (vc.b.D.length : Int)) = false›; dsimp only; omega), (by have := wrapI (shift + 7); have := of_decide_eq_false ‹decide (shift > 63) = false›; dsimp only; omega)⟩⟩, ?_⟩
         · show ((Reader.mk vc.b (IntKind.i64.wrap (vc.at_ + 1)) vc.err vc.made).b.D.length - (Reader.mk vc.b (IntKind.i64.wrap (vc.at_ + 1)) vc.err vc.made).at_.toNat) < (vc.b.D.length - vc.at_.toNat); (have := wrapI (vc.at_ + 1); have := ne_of_beq_false ‹(vc.at_ == (vc.b.D.length : Int)) = false›; dsimp only; omega)
         · exact ⟨fun b => b, WeakerR.ofLI (I := [0]) (Ks := [0]) hI ⟨⟨rfl, rfl⟩, ⟨rfl, rfl⟩, ⟨rfl, rfl⟩, ⟨rfl, rfl⟩, trivial⟩ (okH_cons rfl rfl rfl rfl (okH_nil)) rfl rfl⟩
      ·
       replace hR := of_false h9 hR
       refine rvS ?_
       refine rvS ?_
       refine rvP C (.pv (.lit (.bool false))) ?_
       refine rvP C (.pv (.lit (.bool false))) ?_
       refine rvc_nil ?_
       refine Awp.condF (b := false) rfl rfl ?_
       refine Awp.skip ?_
       refine Awp.consP C ?_
       refine rvP C (.pv (.lit (.int .u64 n))) ?_
       refine rvP C (.pv (.lit (.int .u64 (IntKind.u64.wrap (bitI .and .u8 (vc.b.D[vc.at_.toNat]!) 127))))) ?_
       refine rvP C (.pv (.lit (.int .i64 shift))) ?_
       refine rvc_un (rexec_prim C (δ := { v := .pv (.lit (.int .u64 (shlI .u64 (IntKind.u64.wrap (bitI .and .u8 (vc.b.D[vc.at_.toNat]!) 127)) shift))) }) rfl rfl rfl rfl (by omega) rfl ?_)
       refine rvP C (.pv (.lit (.int .u64 (bitI .or .u64 n (shlI .u64 (IntKind.u64.wrap (bitI .and .u8 (vc.b.D[vc.at_.toNat]!) 127)) shift))))) ?_
       refine rvP C (.pv (.lit (.int .u64 (bitI .or .u64 n (shlI .u64 (IntKind.u64.wrap (bitI .and .u8 (vc.b.D[vc.at_.toNat]!) 127)) shift))))) ?_
       refine rvc_nil ?_
       refine Awp.consP C ?_
       refine rvP C (.pv (.lit (.int .u8 (vc.b.D[vc.at_.toNat]!)))) ?_
       refine rvP C (.pv (.lit (.bool (decide ((vc.b.D[vc.at_.toNat]!) < 128))))) ?_
       refine rvc_nil ?_
       refine Awp.cond (b := (decide ((vc.b.D[vc.at_.toNat]!) < 128))) rfl (fun h12 => ?_) (fun h12 => ?_)
       ·
        replace hR := of_true h12 hR
        refine Awp.consP C ?_
        refine rvP C (.pv (.lit (.int .u64 (bitI .or .u64 n (shlI .u64 (IntKind.u64.wrap (bitI .and .u8 (vc.b.D[vc.at_.toNat]!) 127)) shift))))) ?_
        refine rvP C (.pv (.lit (.int .u64 (bitI .or .u64 n (shlI .u64 (IntKind.u64.wrap (bitI .and .u8 (vc.b.D[vc.at_.toNat]!) 127)) shift))))) ?_
        refine rvc_nil ?_
        refine Awp.ret ?_
        subst hR
        exact ⟨.inl rfl, rfl, rfl⟩
       ·
        replace hR := of_false h12 hR
        refine Awp.skip ?_
        refine Awp.regionP C ?_
        refine rvP C (.pv (.lit (.int .i64 shift))) ?_
        refine rvP C (.pv (.lit (.int .i64 (IntKind.i64.wrap (shift + 7))))) ?_
        refine rvP C (.pv (.lit (.int .i64 (IntKind.i64.wrap (shift + 7))))) ?_
        refine rvc_nil ?_
        refine ⟨_, ((bitI .or .u64 n (shlI .u64 (IntKind.u64.wrap (bitI .and .u8 (vc.b.D[vc.at_.toNat]!) 127)) shift)), (IntKind.i64.wrap (shift + 7)), (Reader.mk vc.b (IntKind.i64.wrap (vc.at_ + 1)) vc.err vc.made)), ?_, ⟨rfl, (by rw [show ((Reader.mk vc.b (IntKind.i64.wrap (vc.at_ + 1)) vc.err vc.made).b.D.length - (Reader.mk vc.b (IntKind.i64.wrap (vc.at_ + 1)) vc.err vc.made).at_.toNat) + 1 = (vc.b.D.length - vc.at_.toNat) by (have := wrapI (vc.at_ + 1); have := ne_of_beq_false ‹(vc.at_ == (vc.b.D.length : Int)) = false›; dsimp only; omega)]; exact hR), ⟨(by have := wrapI (vc.at_ + 1); have := ne_of_beq_false ‹(vc.at_ == (vc.b.D.length : Int)) = false›; dsimp only; omega), (by have := wrapI (shift + 7); have := of_decide_eq_false ‹decide (shift > 63) = false›; dsimp only; omega)⟩⟩, ?_⟩
        · show ((Reader.mk vc.b (IntKind.i64.wrap (vc.at_ + 1)) vc.err vc.made).b.D.length - (Reader.mk vc.b (IntKind.i64.wrap (vc.at_ + 1)) vc.err vc.made).at_.toNat) < (vc.b.D.length - vc.at_.toNat); (have := wrapI (vc.at_ + 1); have := ne_of_beq_false ‹(vc.at_ == (vc.b.D.length : Int)) = false›; dsimp only; omega)
        · exact ⟨fun b => b, WeakerR.ofLI (I := [0]) (Ks := [0]) hI ⟨⟨rfl, rfl⟩, ⟨rfl, rfl⟩, ⟨rfl, rfl⟩, ⟨rfl, rfl⟩, trivial⟩ (okH_cons rfl rfl rfl rfl (okH_nil)) rfl rfl⟩
   ·
    replace hR := of_false h6 hR
    refine rvS ?_
    refine rvS ?_
    refine rvP C (.pv (.lit (.bool false))) ?_
    refine rvP C (.pv (.lit (.bool false))) ?_
    refine rvO C (.pv (.lit (.int .i64 shift))) ?_
    refine rvO C (.pv (.lit (.bool (decide (shift > 63))))) ?_
    refine rvP C (.pv (.lit (.bool (decide (shift > 63))))) ?_
    refine rvP C (.pv (.lit (.bool (decide (shift > 63))))) ?_
    refine rvc_nil ?_
    refine Awp.cond (b := (decide (shift > 63))) rfl (fun h13 => ?_) (fun h13 => ?_)
    ·
     replace hR := of_true h13 hR
     refine Awp.cons C (fun _ => .writer) (by kernel_rfl) ?_
     refine rvP C (.ptr 0 0) ?_
     refine rvP C (.pv (.lit (.int .i64 r.at_))) ?_
     refine rvc_un (rexec_callM hP C (b := 0) rfl rfl rfl (rdStop_calls (Reader.mk vc.b (IntKind.i64.wrap (vc.at_ + 1)) vc.err vc.made) r.at_ 5) rfl rfl ?_)
     refine rvc_nil ?_
     refine Awp.consP C ?_
     refine rvP C (.pv (.lit (.int .u64 0))) ?_
     refine rvc_nil ?_
     refine Awp.ret ?_
     subst hR
     exact ⟨.inl rfl, rfl, rfl⟩
    ·
     replace hR := of_false h13 hR
     refine Awp.consP C ?_
     refine rvP C (.pv (.lit (.int .u8 (vc.b.D[vc.at_.toNat]!)))) ?_
     refine rvP C (.pv (.lit (.bool ((vc.b.D[vc.at_.toNat]!) == 0)))) ?_
     refine rvP C (.pv (.lit (.bool ((vc.b.D[vc.at_.toNat]!) == 0)))) ?_
     refine rvc_case 67 ((vc.b.D[vc.at_.toNat]!) == 0) rfl (fun h14 => ?_) (fun h14 => ?_)
     ·
      replace hR := of_true h14 hR
      refine rvO C (.pv (.lit (.int .i64 shift))) ?_
      refine rvO C (.pv (.lit (.bool (decide (shift > 0))))) ?_
      refine rvP C (.pv (.lit (.bool (decide (shift > 0))))) ?_
      refine rvP C (.pv (.lit (.bool (decide (shift > 0))))) ?_
      refine rvc_nil ?_
      refine Awp.cond (b := (decide (shift > 0))) rfl (fun h15 => ?_) (fun h15 => ?_)
      ·
       replace hR := of_true h15 hR
       refine Awp.cons C (fun _ => .writer) (by kernel_rfl) ?_
       refine rvP C (.ptr 0 0) ?_
       refine rvP C (.pv (.lit (.int .i64 r.at_))) ?_
       refine rvc_un (rexec_callM hP C (b := 0) rfl rfl rfl (rdStop_calls (Reader.mk vc.b (IntKind.i64.wrap (vc.at_ + 1)) vc.err vc.made) r.at_ 10) rfl rfl ?_)
       refine rvc_nil ?_
       refine Awp.consP C ?_
       refine rvP C (.pv (.lit (.int .u64 0))) ?_
       refine rvc_nil ?_
       refine Awp.ret ?_
       subst hR
       exact ⟨.inl rfl, rfl, rfl⟩
      ·
       replace hR := of_false h15 hR
       refine Awp.skip ?_
       refine Awp.consP C ?_
       refine rvP C (.pv (.lit (.int .u64 n))) ?_
       refine rvP C (.pv (.lit (.int .u64 (IntKind.u64.wrap (bitI .and .u8 (vc.b.D[vc.at_.toNat]!) 127))))) ?_
       refine rvP C (.pv (.lit (.int .i64 shift))) ?_
       refine rvc_un (rexec_prim C (δ := { v := .pv (.lit (.int .u64 (shlI .u64 (IntKind.u64.wrap (bitI .and .u8 (vc.b.D[vc.at_.toNat]!) 127)) shift))) }) rfl rfl rfl rfl (by omega) rfl ?_)
       refine rvP C (.pv (.lit (.int .u64 (bitI .or .u64 n (shlI .u64 (IntKind.u64.wrap (bitI .and .u8 (vc.b.D[vc.at_.toNat]!) 127)) shift))))) ?_
       refine rvP C (.pv (.lit (.int .u64 (bitI .or .u64 n (shlI .u64 (IntKind.u64.wrap (bitI .and .u8 (vc.b.D[vc.at_.toNat]!) 127)) shift))))) ?_
       refine rvc_nil ?_
       refine Awp.consP C ?_
       refine rvP C (.pv (.lit (.int .u8 (vc.b.D[vc.at_.toNat]!)))) ?_
       refine rvP C (.pv (.lit (.bool (decide ((vc.b.D[vc.at_.toNat]!) < 128))))) ?_
       refine rvc_nil ?_
       refine Awp.cond (b := (decide ((vc.b.D[vc.at_.toNat]!) < 128))) rfl (fun h16 => ?_) (fun h16 => ?_)
       ·
        replace hR := of_true h16 hR
        refine Awp.consP C ?_
        refine rvP C (.pv (.lit (.int .u64 (bitI .or .u64 n (shlI .u64 (IntKind.u64.wrap (bitI .and .u8 (vc.b.D[vc.at_.toNat]!) 127)) shift))))) ?_
        refine rvP C (.pv (.lit (.int .u64 (bitI .or .u64 n (shlI .u64 (IntKind.u64.wrap (bitI .and .u8 (vc.b.D[vc.at_.toNat]!) 127)) shift))))) ?_
        refine rvc_nil ?_
        refine Awp.ret ?_
        subst hR
        exact ⟨.inl rfl, rfl, rfl⟩
       ·
        replace hR := of_false h16 hR
        refine Awp.skip ?_
        refine Awp.regionP C ?_
        refine rvP C (.pv (.lit (.int .i64 shift))) ?_
        refine rvP C (.pv (.lit (.int .i64 (IntKind.i64.wrap (shift + 7))))) ?_
        refine rvP C (.pv (.lit (.int .i64 (IntKind.i64.wrap (shift + 7))))) ?_
        refine rvc_nil ?_
        refine ⟨_, ((bitI .or .u64 n (shlI .u64 (IntKind.u64.wrap (bitI .and .u8 (vc.b.D[vc.at_.toNat]!) 127)) shift)), (IntKind.i64.wrap (shift + 7)), (Reader.mk vc.b (IntKind.i64.wrap (vc.at_ + 1)) vc.err vc.made)), ?_, ⟨rfl, (by rw [show ((Reader.mk vc.b (IntKind.i64.wrap (vc.at_ + 1)) vc.err vc.made).b.D.length - (Reader.mk vc.b (IntKind.i64.wrap (vc.at_ + 1)) vc.err vc.made).at_.toNat) + 1 = (vc.b.D.length - vc.at_.toNat) by (have := wrapI (vc.at_ + 1); have := ne_of_beq_false ‹(vc.at_ == (vc.b.D.length : Int)) = false›; dsimp only; omega)]; exact hR), ⟨(by have := wrapI (vc.at_ + 1); have := ne_of_beq_false ‹(vc.at_ == (vc.b.D.length : Int)) = false›; dsimp only; omega), (by have := wrapI (shift + 7); have := of_decide_eq_false ‹decide (shift > 63) = false›; dsimp only; omega)⟩⟩, ?_⟩
        · show ((Reader.mk vc.b (IntKind.i64.wrap (vc.at_ + 1)) vc.err vc.made).b.D.length - (Reader.mk vc.b (IntKind.i64.wrap (vc.at_ + 1)) vc.err vc.made).at_.toNat) < (vc.b.D.length - vc.at_.toNat); (have := wrapI (vc.at_ + 1); have := ne_of_beq_false ‹(vc.at_ == (vc.b.D.length : Int)) = false›; dsimp only; omega)
        · exact ⟨fun b => b, WeakerR.ofLI (I := [0]) (Ks := [0]) hI ⟨⟨rfl, rfl⟩, ⟨rfl, rfl⟩, ⟨rfl, rfl⟩, ⟨rfl, rfl⟩, trivial⟩ (okH_cons rfl rfl rfl rfl (okH_nil)) rfl rfl⟩
     ·
      replace hR := of_false h14 hR
      refine rvS ?_
      refine rvS ?_
      refine rvP C (.pv (.lit (.bool false))) ?_
      refine rvP C (.pv (.lit (.bool false))) ?_
      refine rvc_nil ?_
      refine Awp.condF (b := false) rfl rfl ?_
      refine Awp.skip ?_
      refine Awp.consP C ?_
      refine rvP C (.pv (.lit (.int .u64 n))) ?_
      refine rvP C (.pv (.lit (.int .u64 (IntKind.u64.wrap (bitI .and .u8 (vc.b.D[vc.at_.toNat]!) 127))))) ?_
      refine rvP C (.pv (.lit (.int .i64 shift))) ?_
      refine rvc_un (rexec_prim C (δ := { v := .pv (.lit (.int .u64 (shlI .u64 (IntKind.u64.wrap (bitI .and .u8 (vc.b.D[vc.at_.toNat]!) 127)) shift))) }) rfl rfl rfl rfl (by omega) rfl ?_)
      refine rvP C (.pv (.lit (.int .u64 (bitI .or .u64 n (shlI .u64 (IntKind.u64.wrap (bitI .and .u8 (vc.b.D[vc.at_.toNat]!) 127)) shift))))) ?_
      refine rvP C (.pv (.lit (.int .u64 (bitI .or .u64 n (shlI .u64 (IntKind.u64.wrap (bitI .and .u8 (vc.b.D[vc.at_.toNat]!) 127)) shift))))) ?_
      refine rvc_nil ?_
      refine Awp.consP C ?_
      refine rvP C (.pv (.lit (.int .u8 (vc.b.D[vc.at_.toNat]!)))) ?_
      refine rvP C (.pv (.lit (.bool (decide ((vc.b.D[vc.at_.toNat]!) < 128))))) ?_
      refine rvc_nil ?_
      refine Awp.cond (b := (decide ((vc.b.D[vc.at_.toNat]!) < 128))) rfl (fun h17 => ?_) (fun h17 => ?_)
      ·
       replace hR := of_true h17 hR
       refine Awp.consP C ?_
       refine rvP C (.pv (.lit (.int .u64 (bitI .or .u64 n (shlI .u64 (IntKind.u64.wrap (bitI .and .u8 (vc.b.D[vc.at_.toNat]!) 127)) shift))))) ?_
       refine rvP C (.pv (.lit (.int .u64 (bitI .or .u64 n (shlI .u64 (IntKind.u64.wrap (bitI .and .u8 (vc.b.D[vc.at_.toNat]!) 127)) shift))))) ?_
       refine rvc_nil ?_
       refine Awp.ret ?_
       subst hR
       exact ⟨.inl rfl, rfl, rfl⟩
      ·
       replace hR := of_false h17 hR
       refine Awp.skip ?_
       refine Awp.regionP C ?_
       refine rvP C (.pv (.lit (.int .i64 shift))) ?_
       refine rvP C (.pv (.lit (.int .i64 (IntKind.i64.wrap (shift + 7))))) ?_
       refine rvP C (.pv (.lit (.int .i64 (IntKind.i64.wrap (shift + 7))))) ?_
       refine rvc_nil ?_
       refine ⟨_, ((bitI .or .u64 n (shlI .u64 (IntKind.u64.wrap (bitI .and .u8 (vc.b.D[vc.at_.toNat]!) 127)) shift)), (IntKind.i64.wrap (shift + 7)), (Reader.mk vc.b (IntKind.i64.wrap (vc.at_ + 1)) vc.err vc.made)), ?_, ⟨rfl, (by rw [show ((Reader.mk vc.b (IntKind.i64.wrap (vc.at_ + 1)) vc.err vc.made).b.D.length - (Reader.mk vc.b (IntKind.i64.wrap (vc.at_ + 1)) vc.err vc.made).at_.toNat) + 1 = (vc.b.D.length - vc.at_.toNat) by (have := wrapI (vc.at_ + 1); have := ne_of_beq_false ‹(vc.at_ == (vc.b.D.length : Int)) = false›; dsimp only; omega)]; exact hR), ⟨(by have := wrapI (vc.at_ + 1); have := ne_of_beq_false ‹(vc.at_ == (vc.b.D.length : Int)) = false›; dsimp only; omega), (by have := wrapI (shift + 7); have := of_decide_eq_false ‹decide (shift > 63) = false›; dsimp only; omega)⟩⟩, ?_⟩
       · show ((Reader.mk vc.b (IntKind.i64.wrap (vc.at_ + 1)) vc.err vc.made).b.D.length - (Reader.mk vc.b (IntKind.i64.wrap (vc.at_ + 1)) vc.err vc.made).at_.toNat) < (vc.b.D.length - vc.at_.toNat); (have := wrapI (vc.at_ + 1); have := ne_of_beq_false ‹(vc.at_ == (vc.b.D.length : Int)) = false›; dsimp only; omega)
       · exact ⟨fun b => b, WeakerR.ofLI (I := [0]) (Ks := [0]) hI ⟨⟨rfl, rfl⟩, ⟨rfl, rfl⟩, ⟨rfl, rfl⟩, ⟨rfl, rfl⟩, trivial⟩ (okH_cons rfl rfl rfl rfl (okH_nil)) rfl rfl⟩
end Go.Proofs.Ytaffaalpgpepeaa
/- Numbers as bytes: how many bytes. No conditions. -/
namespace Go.Proofs.Ytaffaalpgpepeaa
open Go.Am
theorem shr7 (n : Int) : shrI .u64 n 7 = n / 128 := rfl
def putInv (b : Nat) (x : Int) (b1 : List Int) (n : Int) : Prop := ∃ k : Nat, b1.length = b + k ∧ 1 ≤ n ∧ n.toNat * 128 ^ k ≤ x.toNat
theorem putInv_start {D : List Int} {x y : Int} (h : 128 ≤ x) : putInv D.length x (D ++ [y]) (shrI .u64 x 7) := by
  rw [shr7]
  exact ⟨1, by simp, by omega, by omega⟩
theorem putInv_step {b : Nat} {x y n : Int} {b1 : List Int} (h : putInv b x b1 n) (hn : 128 ≤ n) : putInv b x (b1 ++ [y]) (shrI .u64 n 7) := by
  obtain ⟨k, h1, h2, h3⟩ := h
  rw [shr7]
  refine ⟨k + 1, by rw [List.length_append, List.length_singleton]; omega, by omega, Nat.le_trans ?_ h3⟩
  rw [Nat.pow_succ, Nat.mul_comm (128 ^ k), ← Nat.mul_assoc]
  exact Nat.mul_le_mul_right _ (by omega)
theorem putInv_le {b : Nat} {x n : Int} {b1 : List Int} (h : putInv b x b1 n) (hx : x < 18446744073709551616) : b1.length ≤ b + 9 := by
  obtain ⟨k, h1, h2, h3⟩ := h
  rcases Nat.lt_or_ge k 10 with hk | hk
  · omega
  · have h4 : 128 ^ 10 ≤ 128 ^ k := Nat.pow_le_pow_right (by decide) hk
    have h5 : 1 * 128 ^ k ≤ n.toNat * 128 ^ k := Nat.mul_le_mul_right _ (by omega)
    have h6 : (128 : Nat) ^ 10 = 1180591620717411303424 := by decide
    omega
end Go.Proofs.Ytaffaalpgpepeaa
/- Numbers as bytes. No conditions. -/
namespace Go.Proofs.Ytaffaalpgpepeaa
open Go.Am
def wPut_l1 (kk : (List Int) → Int → (Sl Int)) : Nat → (List Int) → Int → (Sl Int)
  | 0, _, _ => default
  | nn + 1, b1, n => (bif (decide (n ≥ 128)) then wPut_l1 kk nn (b1 ++ [(bitI .or .u8 (IntKind.u8.wrap n) 128)]) (shrI .u64 n 7) else kk b1 n)
def wPut (b : (Sl Int)) (x : Int) : (Sl Int) :=
  (bif (decide (x ≥ 128)) then wPut_l1 (fun b1 n => (Sl.mk false (b1 ++ [(IntKind.u8.wrap n)]))) ((shrI .u64 x 7).toNat + 1) (b.D ++ [(bitI .or .u8 (IntKind.u8.wrap x) 128)]) (shrI .u64 x 7) else (Sl.mk false (b.D ++ [(IntKind.u8.wrap x)])))
theorem wPut_calls (b : (Sl Int)) (x : Int) (hx : x < 18446744073709551616) (hl1 : b.D.length ≤ 1000000) : PCalls Try.prog 57 [sS (some b.nil) (eI .u8) b.D, sS (some false) (eI .u64) [x]] (sS (some (wPut b x).nil) (eI .u8) ((wPut b x).D)) := by
 generalize hR : wPut b x = R
 refine PCalls.of_body tabOk Try.func57 rfl rfl rfl rfl rfl mixed fun E hP C hI => ?_
 refine Awp.consP C ?_
 refine rvP C (sS (some true) (eI .u8) []) ?_
 refine rvc_nil ?_
 refine Awp.consP C ?_
 refine rvP C (sS (some b.nil) (eI .u8) b.D) ?_
 refine rvP C (sS (some b.nil) (eI .u8) b.D) ?_
 refine rvP C (.pv (.lit (.int .i64 (b.D.length : Int)))) ?_
 refine rvP C (sS (some b.nil) (eI .u8) b.D) ?_
 refine rvP C (.pv (.lit (.int .i64 (b.D.length : Int)))) ?_
 refine rvc_un (rexec_slice3 C (e := (eI .u8)) (D := b.D) rfl rfl rfl rfl rfl rfl ?_)
 refine rvP C (.tsl b.D.length (encL (eI .u8) b.D)) ?_
 refine rvc_nil ?_
 refine Awp.seq ?_
 refine Awp.consP C ?_
 refine rvP C (sS (some false) (eI .u64) [x]) ?_
 refine rvP C (.pv (.lit (.int .i64 1))) ?_
 refine rvP C (.pv (.lit (.int .i64 0))) ?_
 refine rvc_nil ?_
 refine Awp.block ?_
 refine Awp.rounds 2 ?_
 refine Arounds.succ ?_
 refine Awp.consP C ?_
 refine rvP C (.pv (.lit (.bool true))) ?_
 refine rvc_nil ?_
 refine Awp.seq ?_
 refine Awp.condT (b := true) rfl rfl ?_
 refine Awp.skip ?_
 refine Awp.seq ?_
 refine Awp.block ?_
 refine Awp.consP C ?_
 have h1 : [x][0]? = some x := rfl
 refine rvc_un (rexec_idxS C rfl rfl rfl rfl rfl rfl x (Int.natCast_nonneg _) h1 ?_)
 refine rvP C (.pv (.lit (.int .u64 x))) ?_
 refine rvP C (.pv (.lit (.int .u64 x))) ?_
 refine rvc_nil ?_
 refine Awp.seq ?_
 refine Awp.block ?_
 refine Awp.peelM (σ := ((List Int)) × Int) (fun v => [(0, .sl 900 0 v.1.length 1 false), (6, .pv (.lit (.int .u64 v.2))), (13, sS (some false) (eI .u64) [x]), (14, .pv (.lit (.int .i64 1))), (15, .pv (.lit (.int .i64 0)))]) (fun v => [(900, .cells (encC (eI .u8) v.1))]) [900] (fun n v => v.2.toNat ≤ n ∧ wPut_l1 (fun b1 n => (Sl.mk false (b1 ++ [(IntKind.u8.wrap n)]))) (n + 1) v.1 v.2 = R ∧ (putInv b.D.length x v.1 v.2)) (x.toNat + 1) ?_ (fun n_ v h2 => ?_)
 ·
  refine Awp.seq ?_
  refine Awp.consP C ?_
  refine rvP C (.pv (.lit (.int .u64 x))) ?_
  refine rvP C (.pv (.lit (.bool (decide (x ≥ 128))))) ?_
  refine rvc_nil ?_
  refine Awp.cond (b := (decide (x ≥ 128))) rfl (fun h6 => ?_) (fun h6 => ?_)
  ·
   replace hR := of_true h6 hR
   refine Awp.skip ?_
   refine Awp.block ?_
   refine Awp.consP C ?_
   refine rvP C (.tsl b.D.length (encL (eI .u8) b.D)) ?_
   refine rvP C (.pv (.lit (.int .u64 x))) ?_
   refine rvP C (.pv (.lit (.int .u8 (IntKind.u8.wrap x)))) ?_
   refine rvP C (.pv (.lit (.int .u8 (bitI .or .u8 (IntKind.u8.wrap x) 128)))) ?_
   refine rvc_un (rexec_buildSliceF C (eI .u8) [(bitI .or .u8 (IntKind.u8.wrap x) 128)] rfl rfl rfl rfl rfl rfl rfl (by decide) rfl ?_)
   refine rvc_un (rexec_appendT C rfl rfl rfl rfl rfl rfl rfl rfl (fun _ h => by cases h) rfl (en := (eI .u8)) (D0 := b.D) (D := [(bitI .or .u8 (IntKind.u8.wrap x) 128)]) rfl rfl (by simp) (by first | (have h_ := putInv_le hV hx; simp; omega) | (simp; omega)) (by decide) (nn := (b.D ++ [(bitI .or .u8 (IntKind.u8.wrap x) 128)]).length) (by simp) ?_)
   refine rvP C (.sl 26 0 ((b.D ++ [(bitI .or .u8 (IntKind.u8.wrap x) 128)]).length) 1 false) ?_
   refine rvc_nil ?_
   refine Awp.regionP C ?_
   refine rvP C (.pv (.lit (.int .u64 x))) ?_
   refine rvc_un (rexec_prim C (δ := { v := .pv (.lit (.int .u64 (shrI .u64 x 7))) }) rfl rfl rfl rfl (by first | decide | assumption | omega) rfl ?_)
   refine rvP C (.pv (.lit (.int .u64 (shrI .u64 x 7)))) ?_
   refine rvc_nil ?_
   refine ⟨(shrI .u64 x 7).toNat, ((b.D ++ [(bitI .or .u8 (IntKind.u8.wrap x) 128)]), (shrI .u64 x 7)), ?_, ⟨Nat.le_refl _, hR, putInv_start (of_decide_eq_true ‹decide (x ≥ 128) = true›)⟩, ?_⟩
   · show (shrI .u64 x 7).toNat < x.toNat + 1; have := of_decide_eq_true ‹decide (x ≥ 128) = true›; rw [shr7]; omega
   · exact ⟨fun b => bif b == 900 then 26 else (fun b => b) b, WeakerR.ofL (Ks := [900]) hI ⟨⟨rfl, rfl⟩, ⟨rfl, rfl⟩, ⟨rfl, rfl⟩, ⟨rfl, rfl⟩, ⟨rfl, rfl⟩, trivial⟩ (okH_list rfl rfl rfl (okH_nil)) rfl⟩
  ·
   replace hR := of_false h6 hR
   refine Awp.exit ?_
   refine Awp.regionP C ?_
   refine rvP C (.tsl b.D.length (encL (eI .u8) b.D)) ?_
   refine rvP C (.pv (.lit (.int .u64 x))) ?_
   refine rvP C (.pv (.lit (.int .u8 (IntKind.u8.wrap x)))) ?_
   refine rvc_un (rexec_buildSliceF C (eI .u8) [(IntKind.u8.wrap x)] rfl rfl rfl rfl rfl rfl rfl (by decide) rfl ?_)
   refine rvc_un (rexec_appendT C rfl rfl rfl rfl rfl rfl rfl rfl (fun _ h => by cases h) rfl (en := (eI .u8)) (D0 := b.D) (D := [(IntKind.u8.wrap x)]) rfl rfl (by simp) (by first | (have h_ := putInv_le hV hx; simp; omega) | (simp; omega)) (by decide) (nn := (b.D ++ [(IntKind.u8.wrap x)]).length) (by simp) ?_)
   refine rvP C (.sl 33 0 ((b.D ++ [(IntKind.u8.wrap x)]).length) 1 false) ?_
   refine rvc_nil ?_
   refine Awp.regionP C ?_
   refine rvP C (.pv (.lit (.int .i64 1))) ?_
   refine rvP C (.pv (.lit (.int .i64 1))) ?_
   refine rvc_nil ?_
   refine Arounds.succ ?_
   refine Awp.consP C ?_
   refine rvP C (.pv (.lit (.bool false))) ?_
   refine rvc_nil ?_
   refine Awp.seq ?_
   refine Awp.condF (b := false) rfl rfl ?_
   refine Awp.exit ?_
   refine Awp.consP C ?_
   refine rvP C (.sl 33 0 ((b.D ++ [(IntKind.u8.wrap x)]).length) 1 false) ?_
   refine rvP C (.sl 33 0 ((b.D ++ [(IntKind.u8.wrap x)]).length) 1 false) ?_
   refine rvc_nil ?_
   refine Awp.freezeW 33 (encL (eI .u8) (b.D ++ [(IntKind.u8.wrap x)])) ?_ [(4, sS (some false) (eI .u8) (b.D ++ [(IntKind.u8.wrap x)]))] [] ?_ ?_ ?_
   · rfl
   · exact ⟨⟨_, rfl, .inl (.inr ⟨_, _, _, rfl, rfl⟩)⟩, trivial⟩
   · exact trivial
   refine Awp.ret ?_
   subst hR
   exact ⟨.inl rfl, rfl⟩
 obtain ⟨b1, n⟩ := v
 obtain ⟨hm_, hR, hV⟩ := h2
 replace hm_ : n.toNat ≤ n_ := hm_
 replace hV : putInv b.D.length x b1 n := hV
 refine Awp.seq ?_
 refine Awp.consP C ?_
 refine rvP C (.pv (.lit (.int .u64 n))) ?_
 refine rvP C (.pv (.lit (.bool (decide (n ≥ 128))))) ?_
 refine rvc_nil ?_
 refine Awp.cond (b := (decide (n ≥ 128))) rfl (fun h4 => ?_) (fun h4 => ?_)
 ·
  replace hR := of_true h4 hR
  refine Awp.skip ?_
  refine Awp.block ?_
  refine Awp.consP C ?_
  refine rvP C (.sl 900 0 b1.length 1 false) ?_
  refine rvP C (.pv (.lit (.int .u64 n))) ?_
  refine rvP C (.pv (.lit (.int .u8 (IntKind.u8.wrap n)))) ?_
  refine rvP C (.pv (.lit (.int .u8 (bitI .or .u8 (IntKind.u8.wrap n) 128)))) ?_
  refine rvc_un (rexec_buildSliceF C (eI .u8) [(bitI .or .u8 (IntKind.u8.wrap n) 128)] rfl rfl rfl rfl rfl rfl rfl (by decide) rfl ?_)
  refine rvc_un (rexec_append C rfl rfl rfl rfl rfl rfl rfl rfl (fun _ h => by cases h) rfl (en := (eI .u8)) (D0 := b1) (D := [(bitI .or .u8 (IntKind.u8.wrap n) 128)]) rfl rfl rfl rfl (by first | (have h_ := putInv_le hV hx; simp; omega) | (simp; omega)) (by decide) (nn := (b1 ++ [(bitI .or .u8 (IntKind.u8.wrap n) 128)]).length) (by simp) ?_)
  refine rvP C (.sl 26 0 ((b1 ++ [(bitI .or .u8 (IntKind.u8.wrap n) 128)]).length) 1 false) ?_
  refine rvc_nil ?_
  refine Awp.regionP C ?_
  refine rvP C (.pv (.lit (.int .u64 n))) ?_
  refine rvc_un (rexec_prim C (δ := { v := .pv (.lit (.int .u64 (shrI .u64 n 7))) }) rfl rfl rfl rfl (by first | decide | assumption | omega) rfl ?_)
  refine rvP C (.pv (.lit (.int .u64 (shrI .u64 n 7)))) ?_
  refine rvc_nil ?_
  have h5 : (shrI .u64 n 7).toNat < n.toNat := by (have := of_decide_eq_true ‹decide (n ≥ 128) = true›; rw [shr7]; omega)
  obtain ⟨nn, rfl⟩ : ∃ nn, n_ = nn + 1 := ⟨n_ - 1, by omega⟩
  refine ⟨nn, ((b1 ++ [(bitI .or .u8 (IntKind.u8.wrap n) 128)]), (shrI .u64 n 7)), by omega, ⟨by show (shrI .u64 n 7).toNat ≤ nn; omega, hR, putInv_step hV (of_decide_eq_true ‹decide (n ≥ 128) = true›)⟩, ?_⟩
  · exact ⟨fun b => bif b == 900 then 26 else (fun b => b) b, WeakerR.ofL (Ks := [900]) hI ⟨⟨rfl, rfl⟩, ⟨rfl, rfl⟩, ⟨rfl, rfl⟩, ⟨rfl, rfl⟩, ⟨rfl, rfl⟩, trivial⟩ (okH_list rfl rfl rfl (okH_nil)) rfl⟩
 ·
  replace hR := of_false h4 hR
  refine Awp.exit ?_
  refine Awp.regionP C ?_
  refine rvP C (.sl 900 0 b1.length 1 false) ?_
  refine rvP C (.pv (.lit (.int .u64 n))) ?_
  refine rvP C (.pv (.lit (.int .u8 (IntKind.u8.wrap n)))) ?_
  refine rvc_un (rexec_buildSliceF C (eI .u8) [(IntKind.u8.wrap n)] rfl rfl rfl rfl rfl rfl rfl (by decide) rfl ?_)
  refine rvc_un (rexec_append C rfl rfl rfl rfl rfl rfl rfl rfl (fun _ h => by cases h) rfl (en := (eI .u8)) (D0 := b1) (D := [(IntKind.u8.wrap n)]) rfl rfl rfl rfl (by first | (have h_ := putInv_le hV hx; simp; omega) | (simp; omega)) (by decide) (nn := (b1 ++ [(IntKind.u8.wrap n)]).length) (by simp) ?_)
  refine rvP C (.sl 33 0 ((b1 ++ [(IntKind.u8.wrap n)]).length) 1 false) ?_
  refine rvc_nil ?_
  refine Awp.regionP C ?_
  refine rvP C (.pv (.lit (.int .i64 1))) ?_
  refine rvP C (.pv (.lit (.int .i64 1))) ?_
  refine rvc_nil ?_
  refine Arounds.succ ?_
  refine Awp.consP C ?_
  refine rvP C (.pv (.lit (.bool false))) ?_
  refine rvc_nil ?_
  refine Awp.seq ?_
  refine Awp.condF (b := false) rfl rfl ?_
  refine Awp.exit ?_
  refine Awp.consP C ?_
  refine rvP C (.sl 33 0 ((b1 ++ [(IntKind.u8.wrap n)]).length) 1 false) ?_
  refine rvP C (.sl 33 0 ((b1 ++ [(IntKind.u8.wrap n)]).length) 1 false) ?_
  refine rvc_nil ?_
  refine Awp.freezeW 33 (encL (eI .u8) (b1 ++ [(IntKind.u8.wrap n)])) ?_ [(4, sS (some false) (eI .u8) (b1 ++ [(IntKind.u8.wrap n)]))] [] ?_ ?_ ?_
  · rfl
  · exact ⟨⟨_, rfl, .inl (.inr ⟨_, _, _, rfl, rfl⟩)⟩, trivial⟩
  · exact trivial
  refine Awp.ret ?_
  subst hR
  exact ⟨.inl rfl, rfl⟩
end Go.Proofs.Ytaffaalpgpepeaa
/- An abstract machine over the kit's calls, part 36: calls that are handed a block and make one; append of nothing to nil. No conditions. -/
namespace Go.Am
section steps
variable {E : Env} {T : Tab} {cq : Oper → Cls} {n : Nat} {ops : Array Oper}
/-- A call that is handed a block (0), and makes one (1). -/
structure NCalls (P : Program) (f : FuncId) (avs : List AV) (k : Blk) (av : AV) (k1 k' : Blk) : Prop where
  fn : ∃ fn, P.funcs[f]? = some fn ∧ (fn.name == "runtime.NumGoroutine") = false ∧ fn.body.isNone = false
  args : AV.withinL (fun b => b == 0) avs = true
  res : av.within (fun b => b == 1) = true
  blk : k.within (fun _ => false) = true
  blk1 : k1.within (fun _ => false) = true
  blk' : k'.within (fun _ => false) = true
  calls : ACalls P f [0] avs [(0, k)] av [(0, k1), (1, k')]
end steps
end Go.Am
/- An abstract machine over the kit's calls, part 37: a call that is handed a row which nobody changes any more. No conditions. -/
namespace Go.Am
theorem VHs.split {ι : Nat → Option (Nat × Nat)} {imm : Nat → Prop} {w : World} : ∀ {xs ys : List AV} {vs : List Value}, VHs ι imm w (xs ++ ys) vs → ∃ us ws, vs = us ++ ws ∧ VHs ι imm w xs us ∧ VHs ι imm w ys ws
  | [], ys, vs, h => ⟨[], vs, rfl, rfl, h⟩
  | x :: xs, ys, vs, h => by
    simp only [List.cons_append, VHs] at h
    obtain ⟨v, us, rfl, h1, h2⟩ := h
    obtain ⟨us', ws, rfl, h3, h4⟩ := VHs.split h2
    exact ⟨v :: us', ws, rfl, ⟨v, us', rfl, h1, h3⟩, h4⟩
end Go.Am
/- An abstract machine over the kit's calls, part 38: values told in other words. No conditions. -/
namespace Go.Am
end Go.Am
/- Small functions of layout. No conditions. -/
namespace Go.Proofs.Ytaffaalpgpepeaa
open Go.Am
structure Member where
  node : Int
  site : Int
  fresh : Bool
  deriving Inhabited
def eMember : Enc Member := ⟨3, fun x => [.lit (.int .i64 x.node), .lit (.int .i64 x.site), .lit (.bool x.fresh)], fun _ => rfl⟩
structure Chain where
  epoch : Int
  members : (Sl Member)
  deriving Inhabited
def eChain : Enc Chain := ⟨2, fun x => [.lit (.int .i64 x.epoch), .sl (some x.members.nil) x.members.D.length (encL eMember x.members.D)], fun _ => rfl⟩
def mIn (n : Int) : Bool :=
  (bif (decide (n ≥ 0)) then (decide (n < 64)) else false)
theorem mIn_calls (n : Int)  : PCalls Try.prog 52 [.pv (.lit (.int .i64 n))] (.pv (.lit (.bool (mIn n)))) := by
 generalize hR : mIn n = R
 refine PCalls.of_body tabOk Try.func52 rfl rfl rfl rfl rfl mixed fun E hP C hI => ?_
 refine Awp.consP C ?_
 refine rvP C (.pv (.lit (.bool false))) ?_
 refine rvc_nil ?_
 refine Awp.consP C ?_
 refine rvP C (.pv (.lit (.int .i64 n))) ?_
 refine rvP C (.pv (.lit (.bool (decide (n ≥ 0))))) ?_
 refine rvP C (.pv (.lit (.bool (decide (n ≥ 0))))) ?_
 refine rvc_case 5 (decide (n ≥ 0)) rfl (fun h1 => ?_) (fun h1 => ?_)
 ·
  replace hR := of_true h1 hR
  refine rvO C (.pv (.lit (.int .i64 n))) ?_
  refine rvO C (.pv (.lit (.bool (decide (n < 64))))) ?_
  refine rvP C (.pv (.lit (.bool (decide (n < 64))))) ?_
  refine rvP C (.pv (.lit (.bool (decide (n < 64))))) ?_
  refine rvc_nil ?_
  refine Awp.ret ?_
  subst hR
  exact ⟨.inl rfl, rfl⟩
 ·
  replace hR := of_false h1 hR
  refine rvS ?_
  refine rvS ?_
  refine rvP C (.pv (.lit (.bool false))) ?_
  refine rvP C (.pv (.lit (.bool false))) ?_
  refine rvc_nil ?_
  refine Awp.ret ?_
  subst hR
  exact ⟨.inl rfl, rfl⟩
def mHas (s : Int) (n : Int) : Bool :=
  (bif (mIn n) then ((bitI .and .u64 (shrI .u64 s n) 1) == 1) else false)
theorem mHas_calls (s : Int) (n : Int)  : PCalls Try.prog 24 [.pv (.lit (.int .u64 s)), .pv (.lit (.int .i64 n))] (.pv (.lit (.bool (mHas s n)))) := by
 generalize hR : mHas s n = R
 refine PCalls.of_body tabOk Try.func24 rfl rfl rfl rfl rfl mixed fun E hP C hI => ?_
 refine Awp.consP C ?_
 refine rvP C (.pv (.lit (.bool false))) ?_
 refine rvc_nil ?_
 refine Awp.consP C ?_
 refine rvP C (.pv (.lit (.int .i64 n))) ?_
 refine rvc_un (rexec_call hP C rfl rfl rfl (mIn_calls n) ?_)
 refine rvP C (.pv (.lit (.bool (mIn n)))) ?_
 refine rvc_case 7 (mIn n) rfl (fun h1 => ?_) (fun h1 => ?_)
 ·
  replace hR := of_true h1 hR
  refine rvO C (.pv (.lit (.int .u64 s))) ?_
  refine rvO C (.pv (.lit (.int .i64 n))) ?_
  refine rvc_open rfl rfl rfl (rexec_prim C (δ := { v := .pv (.lit (.int .u64 (shrI .u64 s n))) }) rfl rfl rfl rfl (by simp [mIn] at h1; omega) rfl ?_)
  refine rvO C (.pv (.lit (.int .u64 (bitI .and .u64 (shrI .u64 s n) 1)))) ?_
  refine rvO C (.pv (.lit (.bool ((bitI .and .u64 (shrI .u64 s n) 1) == 1)))) ?_
  refine rvP C (.pv (.lit (.bool ((bitI .and .u64 (shrI .u64 s n) 1) == 1)))) ?_
  refine rvP C (.pv (.lit (.bool ((bitI .and .u64 (shrI .u64 s n) 1) == 1)))) ?_
  refine rvc_nil ?_
  refine Awp.ret ?_
  subst hR
  exact ⟨.inl rfl, rfl⟩
 ·
  replace hR := of_false h1 hR
  refine rvS ?_
  refine rvS ?_
  refine rvS ?_
  refine rvS ?_
  refine rvS ?_
  refine rvP C (.pv (.lit (.bool false))) ?_
  refine rvP C (.pv (.lit (.bool false))) ?_
  refine rvc_nil ?_
  refine Awp.ret ?_
  subst hR
  exact ⟨.inl rfl, rfl⟩
def mWith (s : Int) (n : Int) : Int :=
  (bif (!(mIn n)) then s else (bitI .or .u64 s (shlI .u64 1 n)))
theorem mWith_calls (s : Int) (n : Int)  : PCalls Try.prog 50 [.pv (.lit (.int .u64 s)), .pv (.lit (.int .i64 n))] (.pv (.lit (.int .u64 (mWith s n)))) := by
 generalize hR : mWith s n = R
 refine PCalls.of_body tabOk Try.func50 rfl rfl rfl rfl rfl mixed fun E hP C hI => ?_
 refine Awp.consP C ?_
 refine rvP C (.pv (.lit (.int .u64 0))) ?_
 refine rvc_nil ?_
 refine Awp.seq ?_
 refine Awp.consP C ?_
 refine rvP C (.pv (.lit (.int .i64 n))) ?_
 refine rvc_un (rexec_call hP C rfl rfl rfl (mIn_calls n) ?_)
 refine rvP C (.pv (.lit (.bool (!(mIn n))))) ?_
 refine rvc_nil ?_
 refine Awp.cond (b := (!(mIn n))) rfl (fun h1 => ?_) (fun h1 => ?_)
 ·
  replace hR := of_true h1 hR
  refine Awp.consP C ?_
  refine rvP C (.pv (.lit (.int .u64 s))) ?_
  refine rvP C (.pv (.lit (.int .u64 s))) ?_
  refine rvc_nil ?_
  refine Awp.ret ?_
  subst hR
  exact ⟨.inl rfl, rfl⟩
 ·
  replace hR := of_false h1 hR
  refine Awp.skip ?_
  refine Awp.consP C ?_
  refine rvP C (.pv (.lit (.int .u64 s))) ?_
  refine rvP C (.pv (.lit (.int .i64 n))) ?_
  refine rvc_un (rexec_prim C (δ := { v := .pv (.lit (.int .u64 (shlI .u64 1 n))) }) rfl rfl rfl rfl (by simp [mIn] at h1; omega) rfl ?_)
  refine rvP C (.pv (.lit (.int .u64 (bitI .or .u64 s (shlI .u64 1 n))))) ?_
  refine rvP C (.pv (.lit (.int .u64 (bitI .or .u64 s (shlI .u64 1 n))))) ?_
  refine rvc_nil ?_
  refine Awp.ret ?_
  subst hR
  exact ⟨.inl rfl, rfl⟩
def mLen (s : Int) : Int :=
  (IntKind.i64.wrap (shrI .u64 (IntKind.u64.wrap ((bitI .and .u64 (IntKind.u64.wrap ((IntKind.u64.wrap ((bitI .and .u64 (IntKind.u64.wrap (s - (bitI .and .u64 (shrI .u64 s 1) 6148914691236517205))) 3689348814741910323) + (bitI .and .u64 (shrI .u64 (IntKind.u64.wrap (s - (bitI .and .u64 (shrI .u64 s 1) 6148914691236517205))) 2) 3689348814741910323))) + (shrI .u64 (IntKind.u64.wrap ((bitI .and .u64 (IntKind.u64.wrap (s - (bitI .and .u64 (shrI .u64 s 1) 6148914691236517205))) 3689348814741910323) + (bitI .and .u64 (shrI .u64 (IntKind.u64.wrap (s - (bitI .and .u64 (shrI .u64 s 1) 6148914691236517205))) 2) 3689348814741910323))) 4))) 1085102592571150095) * 72340172838076673)) 56))
theorem mLen_calls (s : Int)  : PCalls Try.prog 26 [.pv (.lit (.int .u64 s))] (.pv (.lit (.int .i64 (mLen s)))) := by
 generalize hR : mLen s = R
 refine PCalls.of_body tabOk Try.func26 rfl rfl rfl rfl rfl mixed fun E hP C hI => ?_
 refine Awp.consP C ?_
 refine rvP C (.pv (.lit (.int .i64 0))) ?_
 refine rvc_nil ?_
 refine Awp.consP C ?_
 refine rvP C (.pv (.lit (.int .u64 s))) ?_
 refine rvP C (.pv (.lit (.int .u64 s))) ?_
 refine rvc_nil ?_
 refine Awp.consP C ?_
 refine rvP C (.pv (.lit (.int .u64 s))) ?_
 refine rvP C (.pv (.lit (.int .u64 s))) ?_
 refine rvc_un (rexec_prim C (δ := { v := .pv (.lit (.int .u64 (shrI .u64 s 1))) }) rfl rfl rfl rfl (by first | decide | assumption | omega) rfl ?_)
 refine rvP C (.pv (.lit (.int .u64 (bitI .and .u64 (shrI .u64 s 1) 6148914691236517205)))) ?_
 refine rvP C (.pv (.lit (.int .u64 (IntKind.u64.wrap (s - (bitI .and .u64 (shrI .u64 s 1) 6148914691236517205)))))) ?_
 refine rvP C (.pv (.lit (.int .u64 (IntKind.u64.wrap (s - (bitI .and .u64 (shrI .u64 s 1) 6148914691236517205)))))) ?_
 refine rvc_nil ?_
 refine Awp.consP C ?_
 refine rvP C (.pv (.lit (.int .u64 (IntKind.u64.wrap (s - (bitI .and .u64 (shrI .u64 s 1) 6148914691236517205)))))) ?_
 refine rvP C (.pv (.lit (.int .u64 (bitI .and .u64 (IntKind.u64.wrap (s - (bitI .and .u64 (shrI .u64 s 1) 6148914691236517205))) 3689348814741910323)))) ?_
 refine rvP C (.pv (.lit (.int .u64 (IntKind.u64.wrap (s - (bitI .and .u64 (shrI .u64 s 1) 6148914691236517205)))))) ?_
 refine rvc_un (rexec_prim C (δ := { v := .pv (.lit (.int .u64 (shrI .u64 (IntKind.u64.wrap (s - (bitI .and .u64 (shrI .u64 s 1) 6148914691236517205))) 2))) }) rfl rfl rfl rfl (by first | decide | assumption | omega) rfl ?_)
 refine rvP C (.pv (.lit (.int .u64 (bitI .and .u64 (shrI .u64 (IntKind.u64.wrap (s - (bitI .and .u64 (shrI .u64 s 1) 6148914691236517205))) 2) 3689348814741910323)))) ?_
 refine rvP C (.pv (.lit (.int .u64 (IntKind.u64.wrap ((bitI .and .u64 (IntKind.u64.wrap (s - (bitI .and .u64 (shrI .u64 s 1) 6148914691236517205))) 3689348814741910323) + (bitI .and .u64 (shrI .u64 (IntKind.u64.wrap (s - (bitI .and .u64 (shrI .u64 s 1) 6148914691236517205))) 2) 3689348814741910323)))))) ?_
 refine rvP C (.pv (.lit (.int .u64 (IntKind.u64.wrap ((bitI .and .u64 (IntKind.u64.wrap (s - (bitI .and .u64 (shrI .u64 s 1) 6148914691236517205))) 3689348814741910323) + (bitI .and .u64 (shrI .u64 (IntKind.u64.wrap (s - (bitI .and .u64 (shrI .u64 s 1) 6148914691236517205))) 2) 3689348814741910323)))))) ?_
 refine rvc_nil ?_
 refine Awp.consP C ?_
 refine rvP C (.pv (.lit (.int .u64 (IntKind.u64.wrap ((bitI .and .u64 (IntKind.u64.wrap (s - (bitI .and .u64 (shrI .u64 s 1) 6148914691236517205))) 3689348814741910323) + (bitI .and .u64 (shrI .u64 (IntKind.u64.wrap (s - (bitI .and .u64 (shrI .u64 s 1) 6148914691236517205))) 2) 3689348814741910323)))))) ?_
 refine rvP C (.pv (.lit (.int .u64 (IntKind.u64.wrap ((bitI .and .u64 (IntKind.u64.wrap (s - (bitI .and .u64 (shrI .u64 s 1) 6148914691236517205))) 3689348814741910323) + (bitI .and .u64 (shrI .u64 (IntKind.u64.wrap (s - (bitI .and .u64 (shrI .u64 s 1) 6148914691236517205))) 2) 3689348814741910323)))))) ?_
 refine rvc_un (rexec_prim C (δ := { v := .pv (.lit (.int .u64 (shrI .u64 (IntKind.u64.wrap ((bitI .and .u64 (IntKind.u64.wrap (s - (bitI .and .u64 (shrI .u64 s 1) 6148914691236517205))) 3689348814741910323) + (bitI .and .u64 (shrI .u64 (IntKind.u64.wrap (s - (bitI .and .u64 (shrI .u64 s 1) 6148914691236517205))) 2) 3689348814741910323))) 4))) }) rfl rfl rfl rfl (by first | decide | assumption | omega) rfl ?_)
 refine rvP C (.pv (.lit (.int .u64 (IntKind.u64.wrap ((IntKind.u64.wrap ((bitI .and .u64 (IntKind.u64.wrap (s - (bitI .and .u64 (shrI .u64 s 1) 6148914691236517205))) 3689348814741910323) + (bitI .and .u64 (shrI .u64 (IntKind.u64.wrap (s - (bitI .and .u64 (shrI .u64 s 1) 6148914691236517205))) 2) 3689348814741910323))) + (shrI .u64 (IntKind.u64.wrap ((bitI .and .u64 (IntKind.u64.wrap (s - (bitI .and .u64 (shrI .u64 s 1) 6148914691236517205))) 3689348814741910323) + (bitI .and .u64 (shrI .u64 (IntKind.u64.wrap (s - (bitI .and .u64 (shrI .u64 s 1) 6148914691236517205))) 2) 3689348814741910323))) 4)))))) ?_
 refine rvP C (.pv (.lit (.int .u64 (bitI .and .u64 (IntKind.u64.wrap ((IntKind.u64.wrap ((bitI .and .u64 (IntKind.u64.wrap (s - (bitI .and .u64 (shrI .u64 s 1) 6148914691236517205))) 3689348814741910323) + (bitI .and .u64 (shrI .u64 (IntKind.u64.wrap (s - (bitI .and .u64 (shrI .u64 s 1) 6148914691236517205))) 2) 3689348814741910323))) + (shrI .u64 (IntKind.u64.wrap ((bitI .and .u64 (IntKind.u64.wrap (s - (bitI .and .u64 (shrI .u64 s 1) 6148914691236517205))) 3689348814741910323) + (bitI .and .u64 (shrI .u64 (IntKind.u64.wrap (s - (bitI .and .u64 (shrI .u64 s 1) 6148914691236517205))) 2) 3689348814741910323))) 4))) 1085102592571150095)))) ?_
 refine rvP C (.pv (.lit (.int .u64 (bitI .and .u64 (IntKind.u64.wrap ((IntKind.u64.wrap ((bitI .and .u64 (IntKind.u64.wrap (s - (bitI .and .u64 (shrI .u64 s 1) 6148914691236517205))) 3689348814741910323) + (bitI .and .u64 (shrI .u64 (IntKind.u64.wrap (s - (bitI .and .u64 (shrI .u64 s 1) 6148914691236517205))) 2) 3689348814741910323))) + (shrI .u64 (IntKind.u64.wrap ((bitI .and .u64 (IntKind.u64.wrap (s - (bitI .and .u64 (shrI .u64 s 1) 6148914691236517205))) 3689348814741910323) + (bitI .and .u64 (shrI .u64 (IntKind.u64.wrap (s - (bitI .and .u64 (shrI .u64 s 1) 6148914691236517205))) 2) 3689348814741910323))) 4))) 1085102592571150095)))) ?_
 refine rvc_nil ?_
 refine Awp.consP C ?_
 refine rvP C (.pv (.lit (.int .u64 (bitI .and .u64 (IntKind.u64.wrap ((IntKind.u64.wrap ((bitI .and .u64 (IntKind.u64.wrap (s - (bitI .and .u64 (shrI .u64 s 1) 6148914691236517205))) 3689348814741910323) + (bitI .and .u64 (shrI .u64 (IntKind.u64.wrap (s - (bitI .and .u64 (shrI .u64 s 1) 6148914691236517205))) 2) 3689348814741910323))) + (shrI .u64 (IntKind.u64.wrap ((bitI .and .u64 (IntKind.u64.wrap (s - (bitI .and .u64 (shrI .u64 s 1) 6148914691236517205))) 3689348814741910323) + (bitI .and .u64 (shrI .u64 (IntKind.u64.wrap (s - (bitI .and .u64 (shrI .u64 s 1) 6148914691236517205))) 2) 3689348814741910323))) 4))) 1085102592571150095)))) ?_
 refine rvP C (.pv (.lit (.int .u64 (IntKind.u64.wrap ((bitI .and .u64 (IntKind.u64.wrap ((IntKind.u64.wrap ((bitI .and .u64 (IntKind.u64.wrap (s - (bitI .and .u64 (shrI .u64 s 1) 6148914691236517205))) 3689348814741910323) + (bitI .and .u64 (shrI .u64 (IntKind.u64.wrap (s - (bitI .and .u64 (shrI .u64 s 1) 6148914691236517205))) 2) 3689348814741910323))) + (shrI .u64 (IntKind.u64.wrap ((bitI .and .u64 (IntKind.u64.wrap (s - (bitI .and .u64 (shrI .u64 s 1) 6148914691236517205))) 3689348814741910323) + (bitI .and .u64 (shrI .u64 (IntKind.u64.wrap (s - (bitI .and .u64 (shrI .u64 s 1) 6148914691236517205))) 2) 3689348814741910323))) 4))) 1085102592571150095) * 72340172838076673))))) ?_
 refine rvc_un (rexec_prim C (δ := { v := .pv (.lit (.int .u64 (shrI .u64 (IntKind.u64.wrap ((bitI .and .u64 (IntKind.u64.wrap ((IntKind.u64.wrap ((bitI .and .u64 (IntKind.u64.wrap (s - (bitI .and .u64 (shrI .u64 s 1) 6148914691236517205))) 3689348814741910323) + (bitI .and .u64 (shrI .u64 (IntKind.u64.wrap (s - (bitI .and .u64 (shrI .u64 s 1) 6148914691236517205))) 2) 3689348814741910323))) + (shrI .u64 (IntKind.u64.wrap ((bitI .and .u64 (IntKind.u64.wrap (s - (bitI .and .u64 (shrI .u64 s 1) 6148914691236517205))) 3689348814741910323) + (bitI .and .u64 (shrI .u64 (IntKind.u64.wrap (s - (bitI .and .u64 (shrI .u64 s 1) 6148914691236517205))) 2) 3689348814741910323))) 4))) 1085102592571150095) * 72340172838076673)) 56))) }) rfl rfl rfl rfl (by first | decide | assumption | omega) rfl ?_)
 refine rvP C (.pv (.lit (.int .i64 (IntKind.i64.wrap (shrI .u64 (IntKind.u64.wrap ((bitI .and .u64 (IntKind.u64.wrap ((IntKind.u64.wrap ((bitI .and .u64 (IntKind.u64.wrap (s - (bitI .and .u64 (shrI .u64 s 1) 6148914691236517205))) 3689348814741910323) + (bitI .and .u64 (shrI .u64 (IntKind.u64.wrap (s - (bitI .and .u64 (shrI .u64 s 1) 6148914691236517205))) 2) 3689348814741910323))) + (shrI .u64 (IntKind.u64.wrap ((bitI .and .u64 (IntKind.u64.wrap (s - (bitI .and .u64 (shrI .u64 s 1) 6148914691236517205))) 3689348814741910323) + (bitI .and .u64 (shrI .u64 (IntKind.u64.wrap (s - (bitI .and .u64 (shrI .u64 s 1) 6148914691236517205))) 2) 3689348814741910323))) 4))) 1085102592571150095) * 72340172838076673)) 56))))) ?_
 refine rvP C (.pv (.lit (.int .i64 (IntKind.i64.wrap (shrI .u64 (IntKind.u64.wrap ((bitI .and .u64 (IntKind.u64.wrap ((IntKind.u64.wrap ((bitI .and .u64 (IntKind.u64.wrap (s - (bitI .and .u64 (shrI .u64 s 1) 6148914691236517205))) 3689348814741910323) + (bitI .and .u64 (shrI .u64 (IntKind.u64.wrap (s - (bitI .and .u64 (shrI .u64 s 1) 6148914691236517205))) 2) 3689348814741910323))) + (shrI .u64 (IntKind.u64.wrap ((bitI .and .u64 (IntKind.u64.wrap (s - (bitI .and .u64 (shrI .u64 s 1) 6148914691236517205))) 3689348814741910323) + (bitI .and .u64 (shrI .u64 (IntKind.u64.wrap (s - (bitI .and .u64 (shrI .u64 s 1) 6148914691236517205))) 2) 3689348814741910323))) 4))) 1085102592571150095) * 72340172838076673)) 56))))) ?_
 refine rvc_nil ?_
 refine Awp.ret ?_
 subst hR
 exact ⟨.inl rfl, rfl⟩
def mBut (s : Int) (t : Int) : Int :=
  (bitI .andNot .u64 s t)
theorem mBut_calls (s : Int) (t : Int)  : PCalls Try.prog 73 [.pv (.lit (.int .u64 s)), .pv (.lit (.int .u64 t))] (.pv (.lit (.int .u64 (mBut s t)))) := by
 generalize hR : mBut s t = R
 refine PCalls.of_body tabOk Try.func73 rfl rfl rfl rfl rfl mixed fun E hP C hI => ?_
 refine Awp.consP C ?_
 refine rvP C (.pv (.lit (.int .u64 0))) ?_
 refine rvc_nil ?_
 refine Awp.consP C ?_
 refine rvP C (.pv (.lit (.int .u64 s))) ?_
 refine rvP C (.pv (.lit (.int .u64 t))) ?_
 refine rvP C (.pv (.lit (.int .u64 (bitI .andNot .u64 s t)))) ?_
 refine rvP C (.pv (.lit (.int .u64 (bitI .andNot .u64 s t)))) ?_
 refine rvc_nil ?_
 refine Awp.ret ?_
 subst hR
 exact ⟨.inl rfl, rfl⟩
def member (m : Member) : Bool :=
  (bif (decide (m.node ≥ 0)) then (bif (decide (m.node < 6)) then (bif (decide (m.site ≥ 0)) then (decide (m.site < 3)) else false) else false) else false)
theorem member_calls (m : Member)  : PCalls Try.prog 49 [.agg [.pv (.lit (.int .i64 m.node)), .pv (.lit (.int .i64 m.site)), .pv (.lit (.bool m.fresh))]] (.pv (.lit (.bool (member m)))) := by
 generalize hR : member m = R
 refine PCalls.of_body tabOk Try.func49 rfl rfl rfl rfl rfl mixed fun E hP C hI => ?_
 refine Awp.consP C ?_
 refine rvc_un (rexec_prim C (δ := { v := .ptr 1 0, new := [(1, .cells [.pv (.lit (.int .i64 m.node)), .pv (.lit (.int .i64 m.site)), .pv (.lit (.bool m.fresh))])] }) rfl rfl rfl rfl trivial rfl ?_)
 refine rvP C (.pv (.lit (.bool false))) ?_
 refine rvc_nil ?_
 refine Awp.consP C ?_
 refine rvP C (.ptr 1 0) ?_
 refine rvP C (.pv (.lit (.int .i64 m.node))) ?_
 refine rvP C (.pv (.lit (.bool (decide (m.node ≥ 0))))) ?_
 refine rvP C (.pv (.lit (.bool (decide (m.node ≥ 0))))) ?_
 refine rvc_case 6 (decide (m.node ≥ 0)) rfl (fun h1 => ?_) (fun h1 => ?_)
 ·
  replace hR := of_true h1 hR
  refine rvO C (.ptr 1 0) ?_
  refine rvO C (.pv (.lit (.int .i64 m.node))) ?_
  refine rvO C (.pv (.lit (.bool (decide (m.node < 6))))) ?_
  refine rvP C (.pv (.lit (.bool (decide (m.node < 6))))) ?_
  refine rvP C (.pv (.lit (.bool (decide (m.node < 6))))) ?_
  refine rvc_case 11 (decide (m.node < 6)) rfl (fun h2 => ?_) (fun h2 => ?_)
  ·
   replace hR := of_true h2 hR
   refine rvO C (.ptr 1 1) ?_
   refine rvO C (.pv (.lit (.int .i64 m.site))) ?_
   refine rvO C (.pv (.lit (.bool (decide (m.site ≥ 0))))) ?_
   refine rvP C (.pv (.lit (.bool (decide (m.site ≥ 0))))) ?_
   refine rvP C (.pv (.lit (.bool (decide (m.site ≥ 0))))) ?_
   refine rvc_case 16 (decide (m.site ≥ 0)) rfl (fun h3 => ?_) (fun h3 => ?_)
   ·
    replace hR := of_true h3 hR
    refine rvO C (.ptr 1 1) ?_
    refine rvO C (.pv (.lit (.int .i64 m.site))) ?_
    refine rvO C (.pv (.lit (.bool (decide (m.site < 3))))) ?_
    refine rvP C (.pv (.lit (.bool (decide (m.site < 3))))) ?_
    refine rvP C (.pv (.lit (.bool (decide (m.site < 3))))) ?_
    refine rvc_nil ?_
    refine Awp.ret ?_
    subst hR
    exact ⟨.inl rfl, rfl⟩
   ·
    replace hR := of_false h3 hR
    refine rvS ?_
    refine rvS ?_
    refine rvS ?_
    refine rvP C (.pv (.lit (.bool false))) ?_
    refine rvP C (.pv (.lit (.bool false))) ?_
    refine rvc_nil ?_
    refine Awp.ret ?_
    subst hR
    exact ⟨.inl rfl, rfl⟩
  ·
   replace hR := of_false h2 hR
   refine rvS ?_
   refine rvS ?_
   refine rvS ?_
   refine rvP C (.pv (.lit (.bool false))) ?_
   refine rvP C (.pv (.lit (.bool false))) ?_
   refine rvS ?_
   refine rvS ?_
   refine rvS ?_
   refine rvP C (.pv (.lit (.bool false))) ?_
   refine rvP C (.pv (.lit (.bool false))) ?_
   refine rvc_nil ?_
   refine Awp.ret ?_
   subst hR
   exact ⟨.inl rfl, rfl⟩
 ·
  replace hR := of_false h1 hR
  refine rvS ?_
  refine rvS ?_
  refine rvS ?_
  refine rvP C (.pv (.lit (.bool false))) ?_
  refine rvP C (.pv (.lit (.bool false))) ?_
  refine rvS ?_
  refine rvS ?_
  refine rvS ?_
  refine rvP C (.pv (.lit (.bool false))) ?_
  refine rvP C (.pv (.lit (.bool false))) ?_
  refine rvS ?_
  refine rvS ?_
  refine rvS ?_
  refine rvP C (.pv (.lit (.bool false))) ?_
  refine rvP C (.pv (.lit (.bool false))) ?_
  refine rvc_nil ?_
  refine Awp.ret ?_
  subst hR
  exact ⟨.inl rfl, rfl⟩
def after (c : Chain) (l : (Sl Member)) : Chain :=
  (Chain.mk (IntKind.i64.wrap (c.epoch + 1)) l)
theorem after_calls (c : Chain) (l : (Sl Member))  : PCalls Try.prog 66 [.agg [.pv (.lit (.int .i64 c.epoch)), sS (some c.members.nil) eMember c.members.D], sS (some l.nil) eMember l.D] (.agg [.pv (.lit (.int .i64 ((after c l).epoch))), sS (some (after c l).members.nil) eMember ((after c l).members.D)]) := by
 generalize hR : after c l = R
 refine PCalls.of_body tabOk Try.func66 rfl rfl rfl rfl rfl mixed fun E hP C hI => ?_
 refine Awp.consP C ?_
 refine rvc_un (rexec_prim C (δ := { v := .ptr 2 0, new := [(2, .cells [.pv (.lit (.int .i64 c.epoch)), sS (some c.members.nil) eMember c.members.D])] }) rfl rfl rfl rfl trivial rfl ?_)
 refine rvc_un (rexec_prim C (δ := { v := .ptr 4 0, new := [(4, .cells [.pv (.lit (.int .i64 0)), sS (some true) eMember []])] }) rfl rfl rfl rfl trivial rfl ?_)
 refine rvc_nil ?_
 refine Awp.consP C ?_
 refine rvP C (.ptr 2 0) ?_
 refine rvP C (.pv (.lit (.int .i64 c.epoch))) ?_
 refine rvP C (.pv (.lit (.int .i64 (IntKind.i64.wrap (c.epoch + 1))))) ?_
 refine rvP C (sS (some l.nil) eMember l.D) ?_
 refine rvP C (.agg [.pv (.lit (.int .i64 (IntKind.i64.wrap (c.epoch + 1)))), sS (some l.nil) eMember l.D]) ?_
 refine rvc_un (rexec_prim C (δ := { v := .undef, wr := [(4, some (.cells [.pv (.lit (.int .i64 (IntKind.i64.wrap (c.epoch + 1)))), sS (some l.nil) eMember l.D]))] }) rfl rfl rfl rfl trivial rfl ?_)
 refine rvc_nil ?_
 refine Awp.ret ?_
 subst hR
 exact ⟨.inl rfl, rfl⟩
def check_l0 : List Member → Nat → Int → Int → Int
  | [], _, _, _ => 0
  | x :: xs, i, seen, site => (bif (!(member x)) then 80 else (bif (mHas seen x.node) then 80 else (bif (decide (x.site < site)) then 80 else check_l0 xs (i + 1) (mWith seen x.node) x.site)))
def check (c : Chain) : Int :=
  (bif (decide (c.epoch < 1)) then 80 else (bif (decide (c.epoch > 1099511627776)) then 80 else (bif ((c.members.D.length : Int) == 0) then 80 else (bif c.members.D[0]!.fresh then 80 else check_l0 c.members.D 0 0 0))))
theorem check_calls (c : Chain) (hl1 : c.members.D.length ≤ 9223372036854775807) : PCalls Try.prog 18 [.agg [.pv (.lit (.int .i64 c.epoch)), sS (some c.members.nil) eMember c.members.D]] (.pv (.lit (.int .i64 (check c)))) := by
 generalize hR : check c = R
 refine PCalls.of_body tabOk Try.func18 rfl rfl rfl rfl rfl mixed fun E hP C hI => ?_
 refine Awp.consP C ?_
 refine rvc_un (rexec_prim C (δ := { v := .ptr 1 0, new := [(1, .cells [.pv (.lit (.int .i64 c.epoch)), sS (some c.members.nil) eMember c.members.D])] }) rfl rfl rfl rfl trivial rfl ?_)
 refine rvP C (.pv (.lit (.int .i64 0))) ?_
 refine rvc_nil ?_
 refine Awp.seq ?_
 refine Awp.consP C ?_
 refine rvP C (.ptr 1 0) ?_
 refine rvP C (.pv (.lit (.int .i64 c.epoch))) ?_
 refine rvP C (.pv (.lit (.bool (decide (c.epoch < 1))))) ?_
 refine rvP C (.pv (.lit (.bool (decide (c.epoch < 1))))) ?_
 refine rvc_case 10 (decide (c.epoch < 1)) rfl (fun h1 => ?_) (fun h1 => ?_)
 ·
  replace hR := of_true h1 hR
  refine rvS ?_
  refine rvS ?_
  refine rvS ?_
  refine rvP C (.pv (.lit (.bool true))) ?_
  refine rvP C (.pv (.lit (.bool true))) ?_
  refine rvS ?_
  refine rvS ?_
  refine rvS ?_
  refine rvS ?_
  refine rvP C (.pv (.lit (.bool true))) ?_
  refine rvP C (.pv (.lit (.bool true))) ?_
  refine rvS ?_
  refine rvS ?_
  refine rvS ?_
  refine rvS ?_
  refine rvS ?_
  refine rvP C (.pv (.lit (.bool true))) ?_
  refine rvc_nil ?_
  refine Awp.condT (b := true) rfl rfl ?_
  refine Awp.consP C ?_
  refine rvP C (.pv (.lit (.int .i64 80))) ?_
  refine rvc_nil ?_
  refine Awp.ret ?_
  subst hR
  exact ⟨.inl rfl, rfl⟩
 ·
  replace hR := of_false h1 hR
  refine rvO C (.ptr 1 0) ?_
  refine rvO C (.pv (.lit (.int .i64 c.epoch))) ?_
  refine rvO C (.pv (.lit (.bool (decide (c.epoch > 1099511627776))))) ?_
  refine rvP C (.pv (.lit (.bool (decide (c.epoch > 1099511627776))))) ?_
  refine rvP C (.pv (.lit (.bool (decide (c.epoch > 1099511627776))))) ?_
  refine rvc_case 15 (decide (c.epoch > 1099511627776)) rfl (fun h2 => ?_) (fun h2 => ?_)
  ·
   replace hR := of_true h2 hR
   refine rvS ?_
   refine rvS ?_
   refine rvS ?_
   refine rvS ?_
   refine rvP C (.pv (.lit (.bool true))) ?_
   refine rvP C (.pv (.lit (.bool true))) ?_
   refine rvS ?_
   refine rvS ?_
   refine rvS ?_
   refine rvS ?_
   refine rvS ?_
   refine rvP C (.pv (.lit (.bool true))) ?_
   refine rvc_nil ?_
   refine Awp.condT (b := true) rfl rfl ?_
   refine Awp.consP C ?_
   refine rvP C (.pv (.lit (.int .i64 80))) ?_
   refine rvc_nil ?_
   refine Awp.ret ?_
   subst hR
   exact ⟨.inl rfl, rfl⟩
  ·
   replace hR := of_false h2 hR
   refine rvO C (.ptr 1 1) ?_
   refine rvO C (sS (some c.members.nil) eMember c.members.D) ?_
   refine rvO C (.pv (.lit (.int .i64 (c.members.D.length : Int)))) ?_
   refine rvO C (.pv (.lit (.bool ((c.members.D.length : Int) == 0)))) ?_
   refine rvP C (.pv (.lit (.bool ((c.members.D.length : Int) == 0)))) ?_
   refine rvP C (.pv (.lit (.bool ((c.members.D.length : Int) == 0)))) ?_
   refine rvc_case 21 ((c.members.D.length : Int) == 0) rfl (fun h3 => ?_) (fun h3 => ?_)
   ·
    replace hR := of_true h3 hR
    refine rvS ?_
    refine rvS ?_
    refine rvS ?_
    refine rvS ?_
    refine rvS ?_
    refine rvP C (.pv (.lit (.bool true))) ?_
    refine rvc_nil ?_
    refine Awp.condT (b := true) rfl rfl ?_
    refine Awp.consP C ?_
    refine rvP C (.pv (.lit (.int .i64 80))) ?_
    refine rvc_nil ?_
    refine Awp.ret ?_
    subst hR
    exact ⟨.inl rfl, rfl⟩
   ·
    replace hR := of_false h3 hR
    refine rvO C (.ptr 1 1) ?_
    refine rvO C (sS (some c.members.nil) eMember c.members.D) ?_
    have h4 : c.members.D[0]? = some c.members.D[0]! := getE (by have := of_decide_eq_false h1; have := of_decide_eq_false h2; have := ne_of_beq_false h3; omega)
    refine rvc_open rfl rfl rfl (rexec_idxS C rfl rfl rfl rfl rfl rfl (c.members.D[0]!) (Int.natCast_nonneg _) h4 ?_)
    refine rvO C (.rp [.lit (.bool (c.members.D[0]!.fresh))]) ?_
    refine rvO C (.pv (.lit (.bool (c.members.D[0]!.fresh)))) ?_
    refine rvP C (.pv (.lit (.bool (c.members.D[0]!.fresh)))) ?_
    refine rvc_nil ?_
    refine Awp.cond (b := c.members.D[0]!.fresh) rfl (fun h5 => ?_) (fun h5 => ?_)
    ·
     replace hR := of_true h5 hR
     refine Awp.consP C ?_
     refine rvP C (.pv (.lit (.int .i64 80))) ?_
     refine rvc_nil ?_
     refine Awp.ret ?_
     subst hR
     exact ⟨.inl rfl, rfl⟩
    ·
     replace hR := of_false h5 hR
     refine Awp.skip ?_
     refine Awp.consP C ?_
     refine rvP C (.pv (.lit (.int .u64 0))) ?_
     refine rvc_nil ?_
     refine Awp.consP C ?_
     refine rvP C (.pv (.lit (.int .i64 0))) ?_
     refine rvc_nil ?_
     refine Awp.seq ?_
     refine Awp.consP C ?_
     refine rvP C (.ptr 1 1) ?_
     refine rvP C (sS (some c.members.nil) eMember c.members.D) ?_
     refine rvP C (.pv (.lit (.int .i64 (c.members.D.length : Int)))) ?_
     refine rvP C (.pv (.lit (.int .i64 0))) ?_
     refine rvc_nil ?_
     refine Awp.block ?_
     refine Awp.forR (σ := Int × Int) (c.members.D.length) (fun i v => [(3, .pv (.lit (.int .u64 v.1))), (4, .pv (.lit (.int .i64 v.2))), (29, sS (some c.members.nil) eMember c.members.D), (30, .pv (.lit (.int .i64 (c.members.D.length : Int)))), (31, .pv (.lit (.int .i64 (i : Int))))]) (fun i v => []) [] (fun i v => check_l0 (c.members.D.drop i) i v.1 v.2 = R) (0, 0) ?_ ?_ (fun i v h6 hR => ?_)
     · exact hR
     · exact ⟨fun b => b, WeakerR.ofL (Ks := []) hI ⟨⟨rfl, rfl⟩, ⟨rfl, rfl⟩, ⟨rfl, rfl⟩, ⟨rfl, rfl⟩, ⟨rfl, rfl⟩, trivial⟩ (okH_nil) rfl⟩
     obtain ⟨seen, site⟩ := v
     refine Awp.consP C ?_
     refine rvP C (.pv (.lit (.bool (decide ((i : Int) < (c.members.D.length : Int)))))) ?_
     refine rvc_nil ?_
     refine Awp.seq ?_
     refine Awp.cond (b := (decide ((i : Int) < (c.members.D.length : Int)))) rfl (fun h7 => ?_) (fun h7 => ?_)
     ·
      have h8 : i < c.members.D.length := by have := of_decide_eq_true h7; omega
      obtain ⟨x, h9⟩ := getX h8
      rw [drop_at h9] at hR
      refine Awp.skip ?_
      refine Awp.seq ?_
      refine Awp.block ?_
      refine Awp.consP C ?_
      refine rvc_un (rexec_idxS C rfl rfl rfl rfl rfl rfl x (Int.natCast_nonneg _) h9 ?_)
      refine rvP C (.agg [.pv (.lit (.int .i64 x.node)), .pv (.lit (.int .i64 x.site)), .pv (.lit (.bool x.fresh))]) ?_
      refine rvc_un (rexec_prim C (δ := { v := .ptr 6 0, new := [(6, .cells [.pv (.lit (.int .i64 0)), .pv (.lit (.int .i64 0)), .pv (.lit (.bool false))])] }) rfl rfl rfl rfl trivial rfl ?_)
      refine rvc_un (rexec_prim C (δ := { v := .undef, wr := [(6, some (.cells [.pv (.lit (.int .i64 x.node)), .pv (.lit (.int .i64 x.site)), .pv (.lit (.bool x.fresh))]))] }) rfl rfl rfl rfl trivial rfl ?_)
      refine rvc_nil ?_
      refine Awp.seq ?_
      refine Awp.consP C ?_
      refine rvP C (.agg [.pv (.lit (.int .i64 x.node)), .pv (.lit (.int .i64 x.site)), .pv (.lit (.bool x.fresh))]) ?_
      refine rvc_un (rexec_call hP C rfl rfl rfl (member_calls x) ?_)
      refine rvP C (.pv (.lit (.bool (!(member x))))) ?_
      refine rvP C (.pv (.lit (.bool (!(member x))))) ?_
      refine rvc_case 38 (!(member x)) rfl (fun h10 => ?_) (fun h10 => ?_)
      ·
       replace hR := of_true h10 hR
       refine rvS ?_
       refine rvS ?_
       refine rvS ?_
       refine rvS ?_
       refine rvP C (.pv (.lit (.bool true))) ?_
       refine rvP C (.pv (.lit (.bool true))) ?_
       refine rvS ?_
       refine rvS ?_
       refine rvS ?_
       refine rvS ?_
       refine rvP C (.pv (.lit (.bool true))) ?_
       refine rvc_nil ?_
       refine Awp.condT (b := true) rfl rfl ?_
       refine Awp.consP C ?_
       refine rvP C (.pv (.lit (.int .i64 80))) ?_
       refine rvc_nil ?_
       refine Awp.ret ?_
       subst hR
       exact ⟨.inl rfl, rfl⟩
      ·
       replace hR := of_false h10 hR
       refine rvO C (.pv (.lit (.int .u64 seen))) ?_
       refine rvO C (.ptr 6 0) ?_
       refine rvO C (.pv (.lit (.int .i64 x.node))) ?_
       refine rvc_open rfl rfl rfl (rexec_call hP C rfl rfl rfl (mHas_calls seen x.node) ?_)
       refine rvP C (.pv (.lit (.bool (mHas seen x.node)))) ?_
       refine rvP C (.pv (.lit (.bool (mHas seen x.node)))) ?_
       refine rvc_case 44 (mHas seen x.node) rfl (fun h11 => ?_) (fun h11 => ?_)
       ·
        replace hR := of_true h11 hR
        refine rvS ?_
        refine rvS ?_
        refine rvS ?_
        refine rvS ?_
        refine rvP C (.pv (.lit (.bool true))) ?_
        refine rvc_nil ?_
        refine Awp.condT (b := true) rfl rfl ?_
        refine Awp.consP C ?_
        refine rvP C (.pv (.lit (.int .i64 80))) ?_
        refine rvc_nil ?_
        refine Awp.ret ?_
        subst hR
        exact ⟨.inl rfl, rfl⟩
       ·
        replace hR := of_false h11 hR
        refine rvO C (.ptr 6 1) ?_
        refine rvO C (.pv (.lit (.int .i64 x.site))) ?_
        refine rvO C (.pv (.lit (.int .i64 site))) ?_
        refine rvO C (.pv (.lit (.bool (decide (x.site < site))))) ?_
        refine rvP C (.pv (.lit (.bool (decide (x.site < site))))) ?_
        refine rvc_nil ?_
        refine Awp.cond (b := (decide (x.site < site))) rfl (fun h12 => ?_) (fun h12 => ?_)
        ·
         replace hR := of_true h12 hR
         refine Awp.consP C ?_
         refine rvP C (.pv (.lit (.int .i64 80))) ?_
         refine rvc_nil ?_
         refine Awp.ret ?_
         subst hR
         exact ⟨.inl rfl, rfl⟩
        ·
         replace hR := of_false h12 hR
         refine Awp.skip ?_
         refine Awp.regionP C ?_
         refine rvP C (.pv (.lit (.int .u64 seen))) ?_
         refine rvP C (.ptr 6 0) ?_
         refine rvP C (.pv (.lit (.int .i64 x.node))) ?_
         refine rvc_un (rexec_call hP C rfl rfl rfl (mWith_calls seen x.node) ?_)
         refine rvP C (.ptr 6 1) ?_
         refine rvP C (.pv (.lit (.int .i64 x.site))) ?_
         refine rvP C (.pv (.lit (.int .u64 (mWith seen x.node)))) ?_
         refine rvP C (.pv (.lit (.int .i64 x.site))) ?_
         refine rvc_nil ?_
         refine Awp.regionP C ?_
         refine rvP C (.pv (.lit (.int .i64 (IntKind.i64.wrap ((i : Int) + 1))))) ?_
         refine rvP C (.pv (.lit (.int .i64 (IntKind.i64.wrap ((i : Int) + 1))))) ?_
         refine rvc_nil ?_
         refine ⟨h8, ((mWith seen x.node), x.site), ?_, ?_⟩
         · exact hR
         · exact ⟨fun b => b, WeakerR.ofL (Ks := []) hI ⟨⟨rfl, rfl⟩, ⟨rfl, rfl⟩, ⟨rfl, rfl⟩, ⟨rfl, rfl⟩, ⟨lit_cast (wrap_i64 (by omega) (by omega)), rfl⟩, trivial⟩ (okH_nil) rfl⟩
     ·
      have h8 : ¬ i < c.members.D.length := by have := of_decide_eq_false h7; omega
      rw [drop_end h8] at hR
      refine Awp.exit ?_
      refine Awp.consP C ?_
      refine rvP C (.pv (.lit (.int .i64 0))) ?_
      refine rvc_nil ?_
      refine Awp.ret ?_
      subst hR
      exact ⟨.inl rfl, rfl⟩
def eqMembers_l0 (s2 : (Sl Member)) : List Member → Nat → Bool
  | [], _ => true
  | x :: xs, i => (bif (!((x.node == (s2.D[(i : Int).toNat]!.node)) && ((x.site == (s2.D[(i : Int).toNat]!.site)) && ((x.fresh == (s2.D[(i : Int).toNat]!.fresh)) && true)))) then false else eqMembers_l0 s2 xs (i + 1) )
def eqMembers (s1 : (Sl Member)) (s2 : (Sl Member)) : Bool :=
  (bif ((s1.D.length : Int) != (s2.D.length : Int)) then false else eqMembers_l0 s2 s1.D 0 )
theorem eqMembers_calls (s1 : (Sl Member)) (s2 : (Sl Member)) (hl1 : s1.D.length ≤ 9223372036854775807) : PCalls Try.prog 48 [sS (some s1.nil) eMember s1.D, sS (some s2.nil) eMember s2.D] (.pv (.lit (.bool (eqMembers s1 s2)))) := by
 generalize hR : eqMembers s1 s2 = R
 refine PCalls.of_body tabOk Try.func48 rfl rfl rfl rfl rfl mixed fun E hP C hI => ?_
 refine Awp.consP C ?_
 refine rvP C (.pv (.lit (.bool false))) ?_
 refine rvc_nil ?_
 refine Awp.seq ?_
 refine Awp.consP C ?_
 refine rvP C (sS (some s1.nil) eMember s1.D) ?_
 refine rvP C (.pv (.lit (.int .i64 (s1.D.length : Int)))) ?_
 refine rvP C (sS (some s2.nil) eMember s2.D) ?_
 refine rvP C (.pv (.lit (.int .i64 (s2.D.length : Int)))) ?_
 refine rvP C (.pv (.lit (.bool ((s1.D.length : Int) != (s2.D.length : Int))))) ?_
 refine rvc_nil ?_
 refine Awp.cond (b := ((s1.D.length : Int) != (s2.D.length : Int))) rfl (fun h1 => ?_) (fun h1 => ?_)
 ·
  replace hR := of_true h1 hR
  refine Awp.consP C ?_
  refine rvP C (.pv (.lit (.bool false))) ?_
  refine rvc_nil ?_
  refine Awp.ret ?_
  subst hR
  exact ⟨.inl rfl, rfl⟩
 ·
  replace hR := of_false h1 hR
  refine Awp.skip ?_
  refine Awp.seq ?_
  refine Awp.consP C ?_
  refine rvP C (sS (some s1.nil) eMember s1.D) ?_
  refine rvP C (.pv (.lit (.int .i64 (s1.D.length : Int)))) ?_
  refine rvP C (.pv (.lit (.int .i64 0))) ?_
  refine rvc_nil ?_
  refine Awp.block ?_
  refine Awp.forR (σ := Unit) (s1.D.length) (fun i _v => [(0, sS (some s1.nil) eMember s1.D), (1, sS (some s2.nil) eMember s2.D), (12, .pv (.lit (.int .i64 (s1.D.length : Int)))), (13, .pv (.lit (.int .i64 (i : Int))))]) (fun i _v => []) [] (fun i _v => eqMembers_l0 s2 (s1.D.drop i) i  = R) () ?_ ?_ (fun i _v h2 hR => ?_)
  · exact hR
  · exact ⟨fun b => b, WeakerR.ofL (Ks := []) hI ⟨⟨rfl, rfl⟩, ⟨rfl, rfl⟩, ⟨rfl, rfl⟩, ⟨rfl, rfl⟩, trivial⟩ (okH_nil) rfl⟩
  refine Awp.consP C ?_
  refine rvP C (.pv (.lit (.bool (decide ((i : Int) < (s1.D.length : Int)))))) ?_
  refine rvc_nil ?_
  refine Awp.seq ?_
  refine Awp.cond (b := (decide ((i : Int) < (s1.D.length : Int)))) rfl (fun h3 => ?_) (fun h3 => ?_)
  ·
   have h4 : i < s1.D.length := by have := of_decide_eq_true h3; omega
   obtain ⟨x, h5⟩ := getX h4
   rw [drop_at h5] at hR
   refine Awp.skip ?_
   refine Awp.seq ?_
   refine Awp.block ?_
   refine Awp.consP C ?_
   refine rvP C (.pv (.lit (.int .i64 (i : Int)))) ?_
   refine rvP C (.pv (.lit (.int .i64 (i : Int)))) ?_
   refine rvc_nil ?_
   refine Awp.consP C ?_
   refine rvP C (sS (some s1.nil) eMember s1.D) ?_
   refine rvP C (.pv (.lit (.int .i64 (i : Int)))) ?_
   refine rvc_un (rexec_idxS C rfl rfl rfl rfl rfl rfl x (Int.natCast_nonneg _) h5 ?_)
   refine rvP C (.agg [.pv (.lit (.int .i64 x.node)), .pv (.lit (.int .i64 x.site)), .pv (.lit (.bool x.fresh))]) ?_
   refine rvP C (sS (some s2.nil) eMember s2.D) ?_
   refine rvP C (.pv (.lit (.int .i64 (i : Int)))) ?_
   have h6 : s2.D[(i : Int).toNat]? = some s2.D[(i : Int).toNat]! := getE (by have := eq_of_bne_false h1; have := of_decide_eq_true h3; omega)
   refine rvc_un (rexec_idxS C rfl rfl rfl rfl rfl rfl (s2.D[(i : Int).toNat]!) (Int.natCast_nonneg _) h6 ?_)
   refine rvP C (.agg [.pv (.lit (.int .i64 (s2.D[(i : Int).toNat]!.node))), .pv (.lit (.int .i64 (s2.D[(i : Int).toNat]!.site))), .pv (.lit (.bool (s2.D[(i : Int).toNat]!.fresh)))]) ?_
   refine rvP C (.pv (.lit (.bool (!((x.node == (s2.D[(i : Int).toNat]!.node)) && ((x.site == (s2.D[(i : Int).toNat]!.site)) && ((x.fresh == (s2.D[(i : Int).toNat]!.fresh)) && true))))))) ?_
   refine rvc_nil ?_
   refine Awp.cond (b := (!((x.node == (s2.D[(i : Int).toNat]!.node)) && ((x.site == (s2.D[(i : Int).toNat]!.site)) && ((x.fresh == (s2.D[(i : Int).toNat]!.fresh)) && true))))) rfl (fun h7 => ?_) (fun h7 => ?_)
   ·
    replace hR := of_true h7 hR
    refine Awp.consP C ?_
    refine rvP C (.pv (.lit (.bool false))) ?_
    refine rvc_nil ?_
    refine Awp.ret ?_
    subst hR
    exact ⟨.inl rfl, rfl⟩
   ·
    replace hR := of_false h7 hR
    refine Awp.skip ?_
    refine Awp.regionP C ?_
    refine rvP C (.pv (.lit (.int .i64 (IntKind.i64.wrap ((i : Int) + 1))))) ?_
    refine rvP C (.pv (.lit (.int .i64 (IntKind.i64.wrap ((i : Int) + 1))))) ?_
    refine rvc_nil ?_
    refine ⟨h4, (), ?_, ?_⟩
    · exact hR
    · exact ⟨fun b => b, WeakerR.ofL (Ks := []) hI ⟨⟨rfl, rfl⟩, ⟨rfl, rfl⟩, ⟨rfl, rfl⟩, ⟨lit_cast (wrap_i64 (by omega) (by omega)), rfl⟩, trivial⟩ (okH_nil) rfl⟩
  ·
   have h4 : ¬ i < s1.D.length := by have := of_decide_eq_false h3; omega
   rw [drop_end h4] at hR
   refine Awp.exit ?_
   refine Awp.consP C ?_
   refine rvP C (.pv (.lit (.bool true))) ?_
   refine rvc_nil ?_
   refine Awp.ret ?_
   subst hR
   exact ⟨.inl rfl, rfl⟩
def same (a : Chain) (b : Chain) : Bool :=
  (bif (a.epoch == b.epoch) then (eqMembers a.members b.members) else false)
theorem same_calls (a : Chain) (b : Chain) (hl1 : a.members.D.length ≤ 9223372036854775807) : PCalls Try.prog 17 [.agg [.pv (.lit (.int .i64 a.epoch)), sS (some a.members.nil) eMember a.members.D], .agg [.pv (.lit (.int .i64 b.epoch)), sS (some b.members.nil) eMember b.members.D]] (.pv (.lit (.bool (same a b)))) := by
 generalize hR : same a b = R
 refine PCalls.of_body tabOk Try.func17 rfl rfl rfl rfl rfl mixed fun E hP C hI => ?_
 refine Awp.consP C ?_
 refine rvc_un (rexec_prim C (δ := { v := .ptr 2 0, new := [(2, .cells [.pv (.lit (.int .i64 a.epoch)), sS (some a.members.nil) eMember a.members.D])] }) rfl rfl rfl rfl trivial rfl ?_)
 refine rvc_un (rexec_prim C (δ := { v := .ptr 3 0, new := [(3, .cells [.pv (.lit (.int .i64 b.epoch)), sS (some b.members.nil) eMember b.members.D])] }) rfl rfl rfl rfl trivial rfl ?_)
 refine rvP C (.pv (.lit (.bool false))) ?_
 refine rvc_nil ?_
 refine Awp.consP C ?_
 refine rvP C (.ptr 2 0) ?_
 refine rvP C (.pv (.lit (.int .i64 a.epoch))) ?_
 refine rvP C (.ptr 3 0) ?_
 refine rvP C (.pv (.lit (.int .i64 b.epoch))) ?_
 refine rvP C (.pv (.lit (.bool (a.epoch == b.epoch)))) ?_
 refine rvP C (.pv (.lit (.bool (a.epoch == b.epoch)))) ?_
 refine rvc_case 10 (a.epoch == b.epoch) rfl (fun h1 => ?_) (fun h1 => ?_)
 ·
  replace hR := of_true h1 hR
  refine rvO C (.ptr 2 1) ?_
  refine rvO C (sS (some a.members.nil) eMember a.members.D) ?_
  refine rvO C (.ptr 3 1) ?_
  refine rvO C (sS (some b.members.nil) eMember b.members.D) ?_
  refine rvc_open rfl rfl rfl (rexec_call hP C rfl rfl rfl (eqMembers_calls a.members b.members hl1) ?_)
  refine rvP C (.pv (.lit (.bool (eqMembers a.members b.members)))) ?_
  refine rvP C (.pv (.lit (.bool (eqMembers a.members b.members)))) ?_
  refine rvc_nil ?_
  refine Awp.ret ?_
  subst hR
  exact ⟨.inl rfl, rfl⟩
 ·
  replace hR := of_false h1 hR
  refine rvS ?_
  refine rvS ?_
  refine rvS ?_
  refine rvS ?_
  refine rvS ?_
  refine rvP C (.pv (.lit (.bool false))) ?_
  refine rvP C (.pv (.lit (.bool false))) ?_
  refine rvc_nil ?_
  refine Awp.ret ?_
  subst hR
  exact ⟨.inl rfl, rfl⟩
def rCheck_l1 (x : Member) (kk : Int) : List Member → Nat → Int
  | [], _ => kk 
  | x1 :: x1s, i1 => (bif (x1.node == x.node) then 80 else (bif (decide (x1.site > x.site)) then 80 else rCheck_l1 x kk x1s (i1 + 1) ))
def rCheck_l0 (c : Chain) : List Member → Nat → Int
  | [], _ => 0
  | x :: xs, i => (bif (decide (x.node < 0)) then 80 else (bif (decide (x.node > 5)) then 80 else (bif (decide (x.site < 0)) then 80 else (bif (decide (x.site > 2)) then 80 else rCheck_l1 x (rCheck_l0 c xs (i + 1) ) (c.members.D.take i) 0 ))))
def rCheck (c : Chain) : Int :=
  (bif (decide (c.epoch < 1)) then 80 else (bif (decide (c.epoch > 1099511627776)) then 80 else (bif ((c.members.D.length : Int) == 0) then 80 else (bif (decide ((c.members.D.length : Int) > 6)) then 80 else (bif c.members.D[0]!.fresh then 80 else rCheck_l0 c c.members.D 0 )))))
def cloneMembers (s : (Sl Member)) : (Sl Member) :=
  (bif s.nil then (Sl.mk true []) else (Sl.mk false s.D))
theorem cloneMembers_calls (s : (Sl Member)) (hl1 : s.D.length ≤ 1000000) : PCalls Try.prog 12 [sS (some s.nil) eMember s.D] (sS (some (cloneMembers s).nil) eMember ((cloneMembers s).D)) := by
 generalize hR : cloneMembers s = R
 refine PCalls.of_body tabOk Try.func12 rfl rfl rfl rfl rfl mixed fun E hP C hI => ?_
 refine Awp.consP C ?_
 refine rvP C (sS (some true) eMember []) ?_
 refine rvc_nil ?_
 refine Awp.seq ?_
 refine Awp.consP C ?_
 refine rvP C (sS (some s.nil) eMember s.D) ?_
 refine rvc_un (rexec_eqNil C (f := s.nil) rfl rfl rfl rfl ?_)
 refine rvc_nil ?_
 refine Awp.cond (b := s.nil) rfl (fun h1 => ?_) (fun h1 => ?_)
 ·
  replace hR := of_true h1 hR
  refine Awp.consP C ?_
  refine rvP C (sS (some true) eMember []) ?_
  refine rvc_nil ?_
  refine Awp.ret ?_
  subst hR
  exact ⟨.inl rfl, rfl⟩
 ·
  replace hR := of_false h1 hR
  refine Awp.skip ?_
  refine Awp.consP C ?_
  refine rvc_un (rexec_prim C (δ := { v := .sl 5 0 0 3 true, new := [(5, .cells (encC eMember []))] }) rfl rfl rfl rfl trivial rfl ?_)
  refine rvP C (sS (some s.nil) eMember s.D) ?_
  refine rvc_un (rexec_append C rfl rfl rfl rfl rfl rfl rfl rfl (fun _ h => by cases h) rfl (en := eMember) (D0 := []) (D := s.D) rfl rfl rfl rfl (by first | omega | (simp <;> omega)) (by decide) (nn := s.D.length) (by simp) ?_)
  refine rvP C (.sl 7 0 s.D.length 3 false) ?_
  refine rvc_nil ?_
  refine Awp.freezeW 7 (encL eMember s.D) ?_ [(2, sS (some false) eMember s.D)] [] ?_ ?_ ?_
  · rfl
  · exact ⟨⟨_, rfl, .inl (.inr ⟨_, _, _, rfl, rfl⟩)⟩, trivial⟩
  · exact trivial
  refine Awp.ret ?_
  subst hR
  exact ⟨.inl rfl, rfl⟩
def nodes_l0 : List Member → Nat → Int → Int
  | [], _, s => s
  | x :: xs, i, s => nodes_l0 xs (i + 1) (mWith s x.node)
def nodes (c : Chain) : Int :=
  nodes_l0 c.members.D 0 0
theorem nodes_calls (c : Chain) (hl1 : c.members.D.length ≤ 9223372036854775807) : PCalls Try.prog 27 [.agg [.pv (.lit (.int .i64 c.epoch)), sS (some c.members.nil) eMember c.members.D]] (.pv (.lit (.int .u64 (nodes c)))) := by
 generalize hR : nodes c = R
 refine PCalls.of_body tabOk Try.func27 rfl rfl rfl rfl rfl mixed fun E hP C hI => ?_
 refine Awp.consP C ?_
 refine rvc_un (rexec_prim C (δ := { v := .ptr 1 0, new := [(1, .cells [.pv (.lit (.int .i64 c.epoch)), sS (some c.members.nil) eMember c.members.D])] }) rfl rfl rfl rfl trivial rfl ?_)
 refine rvP C (.pv (.lit (.int .u64 0))) ?_
 refine rvc_nil ?_
 refine Awp.consP C ?_
 refine rvP C (.pv (.lit (.int .u64 0))) ?_
 refine rvc_nil ?_
 refine Awp.seq ?_
 refine Awp.consP C ?_
 refine rvP C (.ptr 1 1) ?_
 refine rvP C (sS (some c.members.nil) eMember c.members.D) ?_
 refine rvP C (.pv (.lit (.int .i64 (c.members.D.length : Int)))) ?_
 refine rvP C (.pv (.lit (.int .i64 0))) ?_
 refine rvc_nil ?_
 refine Awp.block ?_
 refine Awp.forR (σ := Int) (c.members.D.length) (fun i v => [(3, .pv (.lit (.int .u64 v))), (7, sS (some c.members.nil) eMember c.members.D), (8, .pv (.lit (.int .i64 (c.members.D.length : Int)))), (9, .pv (.lit (.int .i64 (i : Int))))]) (fun i v => []) [] (fun i v => nodes_l0 (c.members.D.drop i) i v = R) 0 ?_ ?_ (fun i s h1 hR => ?_)
 · exact hR
 · exact ⟨fun b => b, WeakerR.ofL (Ks := []) hI ⟨⟨rfl, rfl⟩, ⟨rfl, rfl⟩, ⟨rfl, rfl⟩, ⟨rfl, rfl⟩, trivial⟩ (okH_nil) rfl⟩
 refine Awp.consP C ?_
 refine rvP C (.pv (.lit (.bool (decide ((i : Int) < (c.members.D.length : Int)))))) ?_
 refine rvc_nil ?_
 refine Awp.seq ?_
 refine Awp.cond (b := (decide ((i : Int) < (c.members.D.length : Int)))) rfl (fun h2 => ?_) (fun h2 => ?_)
 ·
  have h3 : i < c.members.D.length := by have := of_decide_eq_true h2; omega
  obtain ⟨x, h4⟩ := getX h3
  rw [drop_at h4] at hR
  refine Awp.skip ?_
  refine Awp.seq ?_
  refine Awp.block ?_
  refine Awp.consP C ?_
  refine rvc_un (rexec_idxS C rfl rfl rfl rfl rfl rfl x (Int.natCast_nonneg _) h4 ?_)
  refine rvP C (.agg [.pv (.lit (.int .i64 x.node)), .pv (.lit (.int .i64 x.site)), .pv (.lit (.bool x.fresh))]) ?_
  refine rvc_un (rexec_prim C (δ := { v := .ptr 5 0, new := [(5, .cells [.pv (.lit (.int .i64 0)), .pv (.lit (.int .i64 0)), .pv (.lit (.bool false))])] }) rfl rfl rfl rfl trivial rfl ?_)
  refine rvc_un (rexec_prim C (δ := { v := .undef, wr := [(5, some (.cells [.pv (.lit (.int .i64 x.node)), .pv (.lit (.int .i64 x.site)), .pv (.lit (.bool x.fresh))]))] }) rfl rfl rfl rfl trivial rfl ?_)
  refine rvc_nil ?_
  refine Awp.regionP C ?_
  refine rvP C (.pv (.lit (.int .u64 s))) ?_
  refine rvP C (.ptr 5 0) ?_
  refine rvP C (.pv (.lit (.int .i64 x.node))) ?_
  refine rvc_un (rexec_call hP C rfl rfl rfl (mWith_calls s x.node) ?_)
  refine rvP C (.pv (.lit (.int .u64 (mWith s x.node)))) ?_
  refine rvc_nil ?_
  refine Awp.regionP C ?_
  refine rvP C (.pv (.lit (.int .i64 (IntKind.i64.wrap ((i : Int) + 1))))) ?_
  refine rvP C (.pv (.lit (.int .i64 (IntKind.i64.wrap ((i : Int) + 1))))) ?_
  refine rvc_nil ?_
  refine ⟨h3, (mWith s x.node), ?_, ?_⟩
  · exact hR
  · exact ⟨fun b => b, WeakerR.ofL (Ks := []) hI ⟨⟨rfl, rfl⟩, ⟨rfl, rfl⟩, ⟨rfl, rfl⟩, ⟨lit_cast (wrap_i64 (by omega) (by omega)), rfl⟩, trivial⟩ (okH_nil) rfl⟩
 ·
  have h3 : ¬ i < c.members.D.length := by have := of_decide_eq_false h2; omega
  rw [drop_end h3] at hR
  refine Awp.exit ?_
  refine Awp.consP C ?_
  refine rvP C (.pv (.lit (.int .u64 s))) ?_
  refine rvP C (.pv (.lit (.int .u64 s))) ?_
  refine rvc_nil ?_
  refine Awp.ret ?_
  subst hR
  exact ⟨.inl rfl, rfl⟩
def whole_l0 : List Member → Nat → Int → Int
  | [], _, s => s
  | x :: xs, i, s => (bif (!x.fresh) then whole_l0 xs (i + 1) (mWith s x.node) else whole_l0 xs (i + 1) s)
def whole (c : Chain) : Int :=
  whole_l0 c.members.D 0 0
theorem whole_calls (c : Chain) (hl1 : c.members.D.length ≤ 9223372036854775807) : PCalls Try.prog 23 [.agg [.pv (.lit (.int .i64 c.epoch)), sS (some c.members.nil) eMember c.members.D]] (.pv (.lit (.int .u64 (whole c)))) := by
 generalize hR : whole c = R
 refine PCalls.of_body tabOk Try.func23 rfl rfl rfl rfl rfl mixed fun E hP C hI => ?_
 refine Awp.consP C ?_
 refine rvc_un (rexec_prim C (δ := { v := .ptr 1 0, new := [(1, .cells [.pv (.lit (.int .i64 c.epoch)), sS (some c.members.nil) eMember c.members.D])] }) rfl rfl rfl rfl trivial rfl ?_)
 refine rvP C (.pv (.lit (.int .u64 0))) ?_
 refine rvc_nil ?_
 refine Awp.consP C ?_
 refine rvP C (.pv (.lit (.int .u64 0))) ?_
 refine rvc_nil ?_
 refine Awp.seq ?_
 refine Awp.consP C ?_
 refine rvP C (.ptr 1 1) ?_
 refine rvP C (sS (some c.members.nil) eMember c.members.D) ?_
 refine rvP C (.pv (.lit (.int .i64 (c.members.D.length : Int)))) ?_
 refine rvP C (.pv (.lit (.int .i64 0))) ?_
 refine rvc_nil ?_
 refine Awp.block ?_
 refine Awp.forR (σ := Int) (c.members.D.length) (fun i v => [(3, .pv (.lit (.int .u64 v))), (7, sS (some c.members.nil) eMember c.members.D), (8, .pv (.lit (.int .i64 (c.members.D.length : Int)))), (9, .pv (.lit (.int .i64 (i : Int))))]) (fun i v => []) [] (fun i v => whole_l0 (c.members.D.drop i) i v = R) 0 ?_ ?_ (fun i s h1 hR => ?_)
 · exact hR
 · exact ⟨fun b => b, WeakerR.ofL (Ks := []) hI ⟨⟨rfl, rfl⟩, ⟨rfl, rfl⟩, ⟨rfl, rfl⟩, ⟨rfl, rfl⟩, trivial⟩ (okH_nil) rfl⟩
 refine Awp.consP C ?_
 refine rvP C (.pv (.lit (.bool (decide ((i : Int) < (c.members.D.length : Int)))))) ?_
 refine rvc_nil ?_
 refine Awp.seq ?_
 refine Awp.cond (b := (decide ((i : Int) < (c.members.D.length : Int)))) rfl (fun h2 => ?_) (fun h2 => ?_)
 ·
  have h3 : i < c.members.D.length := by have := of_decide_eq_true h2; omega
  obtain ⟨x, h4⟩ := getX h3
  rw [drop_at h4] at hR
  refine Awp.skip ?_
  refine Awp.seq ?_
  refine Awp.block ?_
  refine Awp.consP C ?_
  refine rvc_un (rexec_idxS C rfl rfl rfl rfl rfl rfl x (Int.natCast_nonneg _) h4 ?_)
  refine rvP C (.agg [.pv (.lit (.int .i64 x.node)), .pv (.lit (.int .i64 x.site)), .pv (.lit (.bool x.fresh))]) ?_
  refine rvc_un (rexec_prim C (δ := { v := .ptr 5 0, new := [(5, .cells [.pv (.lit (.int .i64 0)), .pv (.lit (.int .i64 0)), .pv (.lit (.bool false))])] }) rfl rfl rfl rfl trivial rfl ?_)
  refine rvc_un (rexec_prim C (δ := { v := .undef, wr := [(5, some (.cells [.pv (.lit (.int .i64 x.node)), .pv (.lit (.int .i64 x.site)), .pv (.lit (.bool x.fresh))]))] }) rfl rfl rfl rfl trivial rfl ?_)
  refine rvc_nil ?_
  refine Awp.consP C ?_
  refine rvP C (.ptr 5 2) ?_
  refine rvP C (.pv (.lit (.bool x.fresh))) ?_
  refine rvP C (.pv (.lit (.bool (!x.fresh)))) ?_
  refine rvc_nil ?_
  refine Awp.cond (b := (!x.fresh)) rfl (fun h5 => ?_) (fun h5 => ?_)
  ·
   replace hR := of_true h5 hR
   refine Awp.regionP C ?_
   refine rvP C (.pv (.lit (.int .u64 s))) ?_
   refine rvP C (.ptr 5 0) ?_
   refine rvP C (.pv (.lit (.int .i64 x.node))) ?_
   refine rvc_un (rexec_call hP C rfl rfl rfl (mWith_calls s x.node) ?_)
   refine rvP C (.pv (.lit (.int .u64 (mWith s x.node)))) ?_
   refine rvc_nil ?_
   refine Awp.regionP C ?_
   refine rvP C (.pv (.lit (.int .i64 (IntKind.i64.wrap ((i : Int) + 1))))) ?_
   refine rvP C (.pv (.lit (.int .i64 (IntKind.i64.wrap ((i : Int) + 1))))) ?_
   refine rvc_nil ?_
   refine ⟨h3, (mWith s x.node), ?_, ?_⟩
   · exact hR
   · exact ⟨fun b => b, WeakerR.ofL (Ks := []) hI ⟨⟨rfl, rfl⟩, ⟨rfl, rfl⟩, ⟨rfl, rfl⟩, ⟨lit_cast (wrap_i64 (by omega) (by omega)), rfl⟩, trivial⟩ (okH_nil) rfl⟩
  ·
   replace hR := of_false h5 hR
   refine Awp.skip ?_
   refine Awp.regionP C ?_
   refine rvP C (.pv (.lit (.int .i64 (IntKind.i64.wrap ((i : Int) + 1))))) ?_
   refine rvP C (.pv (.lit (.int .i64 (IntKind.i64.wrap ((i : Int) + 1))))) ?_
   refine rvc_nil ?_
   refine ⟨h3, s, ?_, ?_⟩
   · exact hR
   · exact ⟨fun b => b, WeakerR.ofL (Ks := []) hI ⟨⟨rfl, rfl⟩, ⟨rfl, rfl⟩, ⟨rfl, rfl⟩, ⟨lit_cast (wrap_i64 (by omega) (by omega)), rfl⟩, trivial⟩ (okH_nil) rfl⟩
 ·
  have h3 : ¬ i < c.members.D.length := by have := of_decide_eq_false h2; omega
  rw [drop_end h3] at hR
  refine Awp.exit ?_
  refine Awp.consP C ?_
  refine rvP C (.pv (.lit (.int .u64 s))) ?_
  refine rvP C (.pv (.lit (.int .u64 s))) ?_
  refine rvc_nil ?_
  refine Awp.ret ?_
  subst hR
  exact ⟨.inl rfl, rfl⟩
def maskOf_l0 : List Int → Nat → Int → Int
  | [], _, s => s
  | x :: xs, i, s => maskOf_l0 xs (i + 1) (mWith s x)
def maskOf (l : (Sl Int)) : Int :=
  maskOf_l0 l.D 0 0
theorem maskOf_calls (l : (Sl Int)) (hl1 : l.D.length ≤ 1000000) : PCalls Try.prog 37 [sS (some l.nil) (eI .i64) l.D] (.pv (.lit (.int .u64 (maskOf l)))) := by
 generalize hR : maskOf l = R
 refine PCalls.of_body tabOk Try.func37 rfl rfl rfl rfl rfl mixed fun E hP C hI => ?_
 refine Awp.consP C ?_
 refine rvP C (.pv (.lit (.int .u64 0))) ?_
 refine rvc_nil ?_
 refine Awp.consP C ?_
 refine rvP C (.pv (.lit (.int .u64 0))) ?_
 refine rvc_nil ?_
 refine Awp.seq ?_
 refine Awp.consP C ?_
 refine rvP C (sS (some l.nil) (eI .i64) l.D) ?_
 refine rvP C (.pv (.lit (.int .i64 (l.D.length : Int)))) ?_
 refine rvP C (.pv (.lit (.int .i64 0))) ?_
 refine rvc_nil ?_
 refine Awp.block ?_
 refine Awp.forR (σ := Int) (l.D.length) (fun i v => [(3, .pv (.lit (.int .u64 v))), (6, sS (some l.nil) (eI .i64) l.D), (7, .pv (.lit (.int .i64 (l.D.length : Int)))), (8, .pv (.lit (.int .i64 (i : Int))))]) (fun i v => []) [] (fun i v => maskOf_l0 (l.D.drop i) i v = R) 0 ?_ ?_ (fun i s h1 hR => ?_)
 · exact hR
 · exact ⟨fun b => b, WeakerR.ofL (Ks := []) hI ⟨⟨rfl, rfl⟩, ⟨rfl, rfl⟩, ⟨rfl, rfl⟩, ⟨rfl, rfl⟩, trivial⟩ (okH_nil) rfl⟩
 refine Awp.consP C ?_
 refine rvP C (.pv (.lit (.bool (decide ((i : Int) < (l.D.length : Int)))))) ?_
 refine rvc_nil ?_
 refine Awp.seq ?_
 refine Awp.cond (b := (decide ((i : Int) < (l.D.length : Int)))) rfl (fun h2 => ?_) (fun h2 => ?_)
 ·
  have h3 : i < l.D.length := by have := of_decide_eq_true h2; omega
  obtain ⟨x, h4⟩ := getX h3
  rw [drop_at h4] at hR
  refine Awp.skip ?_
  refine Awp.seq ?_
  refine Awp.block ?_
  refine Awp.consP C ?_
  refine rvc_un (rexec_idxS C rfl rfl rfl rfl rfl rfl x (Int.natCast_nonneg _) h4 ?_)
  refine rvP C (.pv (.lit (.int .i64 x))) ?_
  refine rvP C (.pv (.lit (.int .i64 x))) ?_
  refine rvc_nil ?_
  refine Awp.regionP C ?_
  refine rvP C (.pv (.lit (.int .u64 s))) ?_
  refine rvP C (.pv (.lit (.int .i64 x))) ?_
  refine rvc_un (rexec_call hP C rfl rfl rfl (mWith_calls s x) ?_)
  refine rvP C (.pv (.lit (.int .u64 (mWith s x)))) ?_
  refine rvc_nil ?_
  refine Awp.regionP C ?_
  refine rvP C (.pv (.lit (.int .i64 (IntKind.i64.wrap ((i : Int) + 1))))) ?_
  refine rvP C (.pv (.lit (.int .i64 (IntKind.i64.wrap ((i : Int) + 1))))) ?_
  refine rvc_nil ?_
  refine ⟨h3, (mWith s x), ?_, ?_⟩
  · exact hR
  · exact ⟨fun b => b, WeakerR.ofL (Ks := []) hI ⟨⟨rfl, rfl⟩, ⟨rfl, rfl⟩, ⟨rfl, rfl⟩, ⟨lit_cast (wrap_i64 (by omega) (by omega)), rfl⟩, trivial⟩ (okH_nil) rfl⟩
 ·
  have h3 : ¬ i < l.D.length := by have := of_decide_eq_false h2; omega
  rw [drop_end h3] at hR
  refine Awp.exit ?_
  refine Awp.consP C ?_
  refine rvP C (.pv (.lit (.int .u64 s))) ?_
  refine rvP C (.pv (.lit (.int .u64 s))) ?_
  refine rvc_nil ?_
  refine Awp.ret ?_
  subst hR
  exact ⟨.inl rfl, rfl⟩
def without_l0 (c : Chain) (gone : Int) : List Member → Nat → (List Member) → Chain × Int
  | [], _, l => (bif (decide (c.epoch ≥ 1099511627776)) then ((Chain.mk 0 (Sl.mk true [])), 5) else (bif ((l.length : Int) == (c.members.D.length : Int)) then ((Chain.mk 0 (Sl.mk true [])), 81) else (bif ((l.length : Int) == 0) then ((Chain.mk 0 (Sl.mk true [])), 83) else ((after c (Sl.mk l.isEmpty l)), 0))))
  | x :: xs, i, l => (bif (!(mHas gone x.node)) then (bif (decide ((l.length : Int) > 0)) then without_l0 c gone xs (i + 1) (l ++ [x]) else (bif (!x.fresh) then without_l0 c gone xs (i + 1) (l ++ [x]) else without_l0 c gone xs (i + 1) l)) else without_l0 c gone xs (i + 1) l)
def without (c : Chain) (gone : Int) : Chain × Int :=
  without_l0 c gone c.members.D 0 []
theorem without_calls (c : Chain) (gone : Int) (hl1 : c.members.D.length ≤ 1000000) : PCalls Try.prog 64 [.agg [.pv (.lit (.int .i64 c.epoch)), sS (some c.members.nil) eMember c.members.D], .pv (.lit (.int .u64 gone))] (.tup [.agg [.pv (.lit (.int .i64 ((without c gone).1.epoch))), sS (some (without c gone).1.members.nil) eMember ((without c gone).1.members.D)], .pv (.lit (.int .i64 ((without c gone).2)))]) := by
 generalize hR : without c gone = R
 refine PCalls.of_body tabOk Try.func64 rfl rfl rfl rfl rfl mixed fun E hP C hI => ?_
 refine Awp.consP C ?_
 refine rvc_un (rexec_prim C (δ := { v := .ptr 2 0, new := [(2, .cells [.pv (.lit (.int .i64 c.epoch)), sS (some c.members.nil) eMember c.members.D])] }) rfl rfl rfl rfl trivial rfl ?_)
 refine rvc_un (rexec_prim C (δ := { v := .ptr 4 0, new := [(4, .cells [.pv (.lit (.int .i64 0)), sS (some true) eMember []])] }) rfl rfl rfl rfl trivial rfl ?_)
 refine rvP C (.pv (.lit (.int .i64 0))) ?_
 refine rvc_nil ?_
 refine Awp.consP C ?_
 refine rvP C (sS (some true) eMember []) ?_
 refine rvc_nil ?_
 refine Awp.seq ?_
 refine Awp.consP C ?_
 refine rvP C (.ptr 2 1) ?_
 refine rvP C (sS (some c.members.nil) eMember c.members.D) ?_
 refine rvP C (.pv (.lit (.int .i64 (c.members.D.length : Int)))) ?_
 refine rvP C (.pv (.lit (.int .i64 0))) ?_
 refine rvc_nil ?_
 refine Awp.block ?_
 refine Awp.forR (σ := ((List Member))) (c.members.D.length) (fun i v => [(1, .pv (.lit (.int .u64 gone))), (2, .ptr 2 0), (4, .ptr 4 0), (6, grow 900 eMember v), (10, sS (some c.members.nil) eMember c.members.D), (11, .pv (.lit (.int .i64 (c.members.D.length : Int)))), (12, .pv (.lit (.int .i64 (i : Int))))]) (fun i v => (growH 900 eMember v ++ ([(2, .cells [.pv (.lit (.int .i64 c.epoch)), sS (some c.members.nil) eMember c.members.D]), (4, .cells [.pv (.lit (.int .i64 0)), sS (some true) eMember []])]))) [2, 4, 900] (fun i v => (without_l0 c gone (c.members.D.drop i) i v = R) ∧ (v.length ≤ i)) [] ?_ ?_ (fun i l h1 hR => ?_)
 · exact ⟨hR, (by first | omega | (simp <;> omega))⟩
 · exact ⟨fun b => b, WeakerR.ofL (Ks := [2, 4, 900]) hI ⟨⟨rfl, rfl⟩, ⟨rfl, rfl⟩, ⟨rfl, rfl⟩, ⟨rfl, rfl⟩, ⟨rfl, rfl⟩, ⟨rfl, rfl⟩, ⟨rfl, rfl⟩, trivial⟩ (okH_grow (fun hne => absurd rfl hne) rfl rfl (okH_cons rfl rfl rfl rfl (okH_cons rfl rfl rfl rfl (okH_nil)))) rfl⟩
 obtain ⟨hR, hi_l⟩ := hR
 replace hi_l : l.length ≤ i := hi_l
 by_cases h2 : l = []
 ·
  refine Awp.wordsR [(1, .pv (.lit (.int .u64 gone))), (2, .ptr 2 0), (4, .ptr 4 0), (6, sS (some l.isEmpty) eMember l), (10, sS (some c.members.nil) eMember c.members.D), (11, .pv (.lit (.int .i64 (c.members.D.length : Int)))), (12, .pv (.lit (.int .i64 (i : Int))))] [(2, .cells [.pv (.lit (.int .i64 c.epoch)), sS (some c.members.nil) eMember c.members.D]), (4, .cells [.pv (.lit (.int .i64 0)), sS (some true) eMember []])] [2, 4] (WeakerR.ofL (Ks := [2, 4]) hI ⟨⟨rfl, rfl⟩, ⟨rfl, rfl⟩, ⟨rfl, rfl⟩, ⟨(by exact grow_at_nil (b := 900) (e := eMember) (l := l) rfl h2), rfl⟩, ⟨rfl, rfl⟩, ⟨rfl, rfl⟩, ⟨rfl, rfl⟩, trivial⟩ (okH_cons (look_nil h2 rfl) rfl rfl rfl (okH_cons (look_nil h2 rfl) rfl rfl rfl (okH_nil))) rfl) ?_
  refine Awp.consP C ?_
  refine rvP C (.pv (.lit (.bool (decide ((i : Int) < (c.members.D.length : Int)))))) ?_
  refine rvc_nil ?_
  refine Awp.seq ?_
  refine Awp.cond (b := (decide ((i : Int) < (c.members.D.length : Int)))) rfl (fun h3 => ?_) (fun h3 => ?_)
  ·
   have h4 : i < c.members.D.length := by have := of_decide_eq_true h3; omega
   obtain ⟨x, h5⟩ := getX h4
   rw [drop_at h5] at hR
   refine Awp.skip ?_
   refine Awp.seq ?_
   refine Awp.block ?_
   refine Awp.consP C ?_
   refine rvc_un (rexec_idxS C rfl rfl rfl rfl rfl rfl x (Int.natCast_nonneg _) h5 ?_)
   refine rvP C (.agg [.pv (.lit (.int .i64 x.node)), .pv (.lit (.int .i64 x.site)), .pv (.lit (.bool x.fresh))]) ?_
   refine rvc_un (rexec_prim C (δ := { v := .ptr 8 0, new := [(8, .cells [.pv (.lit (.int .i64 0)), .pv (.lit (.int .i64 0)), .pv (.lit (.bool false))])] }) rfl rfl rfl rfl trivial rfl ?_)
   refine rvc_un (rexec_prim C (δ := { v := .undef, wr := [(8, some (.cells [.pv (.lit (.int .i64 x.node)), .pv (.lit (.int .i64 x.site)), .pv (.lit (.bool x.fresh))]))] }) rfl rfl rfl rfl trivial rfl ?_)
   refine rvc_nil ?_
   refine Awp.consP C ?_
   refine rvP C (.pv (.lit (.int .u64 gone))) ?_
   refine rvP C (.ptr 8 0) ?_
   refine rvP C (.pv (.lit (.int .i64 x.node))) ?_
   refine rvc_un (rexec_call hP C rfl rfl rfl (mHas_calls gone x.node) ?_)
   refine rvP C (.pv (.lit (.bool (!(mHas gone x.node))))) ?_
   refine rvP C (.pv (.lit (.bool (!(mHas gone x.node))))) ?_
   refine rvc_case 21 (!(mHas gone x.node)) rfl (fun h6 => ?_) (fun h6 => ?_)
   ·
    replace hR := of_true h6 hR
    refine rvO C (sS (some l.isEmpty) eMember l) ?_
    refine rvO C (.pv (.lit (.int .i64 (l.length : Int)))) ?_
    refine rvO C (.pv (.lit (.bool (decide ((l.length : Int) > 0))))) ?_
    refine rvO C (.pv (.lit (.bool (decide ((l.length : Int) > 0))))) ?_
    refine rvc_case 25 (decide ((l.length : Int) > 0)) rfl (fun h7 => ?_) (fun h7 => ?_)
    ·
     replace hR := of_true h7 hR
     refine rvS ?_
     refine rvS ?_
     refine rvS ?_
     refine rvO C (.pv (.lit (.bool true))) ?_
     refine rvP C (.pv (.lit (.bool true))) ?_
     refine rvc_nil ?_
     refine Awp.condT (b := true) rfl rfl ?_
     refine Awp.regionP C ?_
     refine rvP C (sS (some l.isEmpty) eMember l) ?_
     refine rvP C (.agg [.pv (.lit (.int .i64 x.node)), .pv (.lit (.int .i64 x.site)), .pv (.lit (.bool x.fresh))]) ?_
     refine rvc_un (rexec_buildSliceF C eMember [x] rfl rfl rfl rfl rfl rfl rfl (by decide) rfl ?_)
     refine rvc_un (rexec_appendG C rfl rfl rfl rfl rfl rfl rfl rfl (fun _ h => by cases h) rfl (en := eMember) (l := l) (D := [x]) rfl rfl h2 (by rw [h2]; rfl) (by simp) (by have := of_decide_eq_true h3; have := of_decide_eq_true h7; first | omega | (simp <;> omega)) (by decide) (nn := (l ++ [x]).length) (by simp) ?_)
     refine rvP C (.sl 34 0 ((l ++ [x]).length) 3 false) ?_
     refine rvc_nil ?_
     refine Awp.regionP C ?_
     refine rvP C (.pv (.lit (.int .i64 (IntKind.i64.wrap ((i : Int) + 1))))) ?_
     refine rvP C (.pv (.lit (.int .i64 (IntKind.i64.wrap ((i : Int) + 1))))) ?_
     refine rvc_nil ?_
     refine ⟨h4, (l ++ [x]), ?_, ?_⟩
     · exact ⟨hR, (by first | omega | (simp <;> omega))⟩
     · exact ⟨fun b => bif b == 900 then 34 else (fun b => b) b, WeakerR.ofL (Ks := [2, 4, 900]) hI ⟨⟨rfl, rfl⟩, ⟨rfl, rfl⟩, ⟨rfl, rfl⟩, ⟨grow_to rfl rfl app_ne rfl rfl, grow_within rfl⟩, ⟨rfl, rfl⟩, ⟨rfl, rfl⟩, ⟨lit_cast (wrap_i64 (by omega) (by omega)), rfl⟩, trivial⟩ (okH_grow (fun _ => rfl) rfl rfl (okH_cons rfl rfl rfl rfl (okH_cons rfl rfl rfl rfl (okH_nil)))) rfl⟩
    ·
     replace hR := of_false h7 hR
     refine rvO C (.ptr 8 2) ?_
     refine rvO C (.pv (.lit (.bool x.fresh))) ?_
     refine rvO C (.pv (.lit (.bool (!x.fresh)))) ?_
     refine rvO C (.pv (.lit (.bool (!x.fresh)))) ?_
     refine rvP C (.pv (.lit (.bool (!x.fresh)))) ?_
     refine rvc_nil ?_
     refine Awp.cond (b := (!x.fresh)) rfl (fun h8 => ?_) (fun h8 => ?_)
     ·
      replace hR := of_true h8 hR
      refine Awp.regionP C ?_
      refine rvP C (sS (some l.isEmpty) eMember l) ?_
      refine rvP C (.agg [.pv (.lit (.int .i64 x.node)), .pv (.lit (.int .i64 x.site)), .pv (.lit (.bool x.fresh))]) ?_
      refine rvc_un (rexec_buildSliceF C eMember [x] rfl rfl rfl rfl rfl rfl rfl (by decide) rfl ?_)
      refine rvc_un (rexec_appendG C rfl rfl rfl rfl rfl rfl rfl rfl (fun _ h => by cases h) rfl (en := eMember) (l := l) (D := [x]) rfl rfl h2 (by rw [h2]; rfl) (by simp) (by have := of_decide_eq_true h3; have := of_decide_eq_false h7; first | omega | (simp <;> omega)) (by decide) (nn := (l ++ [x]).length) (by simp) ?_)
      refine rvP C (.sl 34 0 ((l ++ [x]).length) 3 false) ?_
      refine rvc_nil ?_
      refine Awp.regionP C ?_
      refine rvP C (.pv (.lit (.int .i64 (IntKind.i64.wrap ((i : Int) + 1))))) ?_
      refine rvP C (.pv (.lit (.int .i64 (IntKind.i64.wrap ((i : Int) + 1))))) ?_
      refine rvc_nil ?_
      refine ⟨h4, (l ++ [x]), ?_, ?_⟩
      · exact ⟨hR, (by first | omega | (simp <;> omega))⟩
      · exact ⟨fun b => bif b == 900 then 34 else (fun b => b) b, WeakerR.ofL (Ks := [2, 4, 900]) hI ⟨⟨rfl, rfl⟩, ⟨rfl, rfl⟩, ⟨rfl, rfl⟩, ⟨grow_to rfl rfl app_ne rfl rfl, grow_within rfl⟩, ⟨rfl, rfl⟩, ⟨rfl, rfl⟩, ⟨lit_cast (wrap_i64 (by omega) (by omega)), rfl⟩, trivial⟩ (okH_grow (fun _ => rfl) rfl rfl (okH_cons rfl rfl rfl rfl (okH_cons rfl rfl rfl rfl (okH_nil)))) rfl⟩
     ·
      replace hR := of_false h8 hR
      refine Awp.skip ?_
      refine Awp.regionP C ?_
      refine rvP C (.pv (.lit (.int .i64 (IntKind.i64.wrap ((i : Int) + 1))))) ?_
      refine rvP C (.pv (.lit (.int .i64 (IntKind.i64.wrap ((i : Int) + 1))))) ?_
      refine rvc_nil ?_
      refine ⟨h4, l, ?_, ?_⟩
      · exact ⟨hR, (by first | omega | (simp <;> omega))⟩
      · exact ⟨fun b => b, WeakerR.ofL (Ks := [2, 4, 900]) hI ⟨⟨rfl, rfl⟩, ⟨rfl, rfl⟩, ⟨rfl, rfl⟩, ⟨grow_to_nil rfl h2 (.inr rfl), grow_within rfl⟩, ⟨rfl, rfl⟩, ⟨rfl, rfl⟩, ⟨lit_cast (wrap_i64 (by omega) (by omega)), rfl⟩, trivial⟩ (okH_grow (fun hne => absurd h2 hne) rfl rfl (okH_cons rfl rfl rfl rfl (okH_cons rfl rfl rfl rfl (okH_nil)))) rfl⟩
   ·
    replace hR := of_false h6 hR
    refine rvS ?_
    refine rvS ?_
    refine rvS ?_
    refine rvS ?_
    refine rvc_shutU rfl rfl rfl ?_
    refine rvc_shutU rfl rfl rfl ?_
    refine rvc_shutU rfl rfl rfl ?_
    refine rvS ?_
    refine rvP C (.pv (.lit (.bool false))) ?_
    refine rvc_nil ?_
    refine Awp.condF (b := false) rfl rfl ?_
    refine Awp.skip ?_
    refine Awp.regionP C ?_
    refine rvP C (.pv (.lit (.int .i64 (IntKind.i64.wrap ((i : Int) + 1))))) ?_
    refine rvP C (.pv (.lit (.int .i64 (IntKind.i64.wrap ((i : Int) + 1))))) ?_
    refine rvc_nil ?_
    refine ⟨h4, l, ?_, ?_⟩
    · exact ⟨hR, (by first | omega | (simp <;> omega))⟩
    · exact ⟨fun b => b, WeakerR.ofL (Ks := [2, 4, 900]) hI ⟨⟨rfl, rfl⟩, ⟨rfl, rfl⟩, ⟨rfl, rfl⟩, ⟨grow_to_nil rfl h2 (.inr rfl), grow_within rfl⟩, ⟨rfl, rfl⟩, ⟨rfl, rfl⟩, ⟨lit_cast (wrap_i64 (by omega) (by omega)), rfl⟩, trivial⟩ (okH_grow (fun hne => absurd h2 hne) rfl rfl (okH_cons rfl rfl rfl rfl (okH_cons rfl rfl rfl rfl (okH_nil)))) rfl⟩
  ·
   have h4 : ¬ i < c.members.D.length := by have := of_decide_eq_false h3; omega
   rw [drop_end h4] at hR
   refine Awp.exit ?_
   refine Awp.seq ?_
   refine Awp.block ?_
   refine Awp.consP C ?_
   refine rvP C (.ptr 2 0) ?_
   refine rvP C (.pv (.lit (.int .i64 c.epoch))) ?_
   refine rvP C (.pv (.lit (.bool (decide (c.epoch ≥ 1099511627776))))) ?_
   refine rvP C (.pv (.lit (.bool (decide (c.epoch ≥ 1099511627776))))) ?_
   refine rvc_nil ?_
   refine Awp.cond (b := (decide (c.epoch ≥ 1099511627776))) rfl (fun h9 => ?_) (fun h9 => ?_)
   ·
    replace hR := of_true h9 hR
    refine Awp.consP C ?_
    refine rvP C (.agg [.pv (.lit (.int .i64 0)), sS (some true) eMember []]) ?_
    refine rvc_un (rexec_prim C (δ := { v := .undef, wr := [(4, some (.cells [.pv (.lit (.int .i64 0)), sS (some true) eMember []]))] }) rfl rfl rfl rfl trivial rfl ?_)
    refine rvP C (.pv (.lit (.int .i64 5))) ?_
    refine rvc_nil ?_
    refine Awp.ret ?_
    subst hR
    exact ⟨.inl rfl, rfl⟩
   ·
    replace hR := of_false h9 hR
    refine Awp.consP C ?_
    refine rvP C (sS (some l.isEmpty) eMember l) ?_
    refine rvP C (.pv (.lit (.int .i64 (l.length : Int)))) ?_
    refine rvP C (.ptr 2 1) ?_
    refine rvP C (sS (some c.members.nil) eMember c.members.D) ?_
    refine rvP C (.pv (.lit (.int .i64 (c.members.D.length : Int)))) ?_
    refine rvP C (.pv (.lit (.bool ((l.length : Int) == (c.members.D.length : Int))))) ?_
    refine rvP C (.pv (.lit (.bool ((l.length : Int) == (c.members.D.length : Int))))) ?_
    refine rvc_nil ?_
    refine Awp.cond (b := ((l.length : Int) == (c.members.D.length : Int))) rfl (fun h10 => ?_) (fun h10 => ?_)
    ·
     replace hR := of_true h10 hR
     refine Awp.consP C ?_
     refine rvP C (.agg [.pv (.lit (.int .i64 0)), sS (some true) eMember []]) ?_
     refine rvc_un (rexec_prim C (δ := { v := .undef, wr := [(4, some (.cells [.pv (.lit (.int .i64 0)), sS (some true) eMember []]))] }) rfl rfl rfl rfl trivial rfl ?_)
     refine rvP C (.pv (.lit (.int .i64 81))) ?_
     refine rvc_nil ?_
     refine Awp.ret ?_
     subst hR
     exact ⟨.inl rfl, rfl⟩
    ·
     replace hR := of_false h10 hR
     refine Awp.consP C ?_
     refine rvP C (sS (some l.isEmpty) eMember l) ?_
     refine rvP C (.pv (.lit (.int .i64 (l.length : Int)))) ?_
     refine rvP C (.pv (.lit (.bool ((l.length : Int) == 0)))) ?_
     refine rvP C (.pv (.lit (.bool ((l.length : Int) == 0)))) ?_
     refine rvc_nil ?_
     refine Awp.cond (b := ((l.length : Int) == 0)) rfl (fun h11 => ?_) (fun h11 => ?_)
     ·
      replace hR := of_true h11 hR
      refine Awp.consP C ?_
      refine rvP C (.agg [.pv (.lit (.int .i64 0)), sS (some true) eMember []]) ?_
      refine rvc_un (rexec_prim C (δ := { v := .undef, wr := [(4, some (.cells [.pv (.lit (.int .i64 0)), sS (some true) eMember []]))] }) rfl rfl rfl rfl trivial rfl ?_)
      refine rvP C (.pv (.lit (.int .i64 83))) ?_
      refine rvc_nil ?_
      refine Awp.ret ?_
      subst hR
      exact ⟨.inl rfl, rfl⟩
     ·
      replace hR := of_false h11 hR
      refine Awp.skip ?_
      refine Awp.consP C ?_
      refine rvP C (.agg [.pv (.lit (.int .i64 c.epoch)), sS (some c.members.nil) eMember c.members.D]) ?_
      refine rvP C (sS (some l.isEmpty) eMember l) ?_
      refine rvc_un (rexec_call hP C rfl rfl rfl (after_calls c (Sl.mk l.isEmpty l)) ?_)
      refine rvc_un (rexec_prim C (δ := { v := .undef, wr := [(4, some (.cells [.pv (.lit (.int .i64 ((after c (Sl.mk l.isEmpty l)).epoch))), sS (some (after c (Sl.mk l.isEmpty l)).members.nil) eMember ((after c (Sl.mk l.isEmpty l)).members.D)]))] }) rfl rfl rfl rfl trivial rfl ?_)
      refine rvP C (.pv (.lit (.int .i64 0))) ?_
      refine rvc_nil ?_
      refine Awp.ret ?_
      subst hR
      exact ⟨.inl rfl, rfl⟩
 ·
  refine Awp.wordsR [(1, .pv (.lit (.int .u64 gone))), (2, .ptr 2 0), (4, .ptr 4 0), (6, .sl 900 0 l.length 3 false), (10, sS (some c.members.nil) eMember c.members.D), (11, .pv (.lit (.int .i64 (c.members.D.length : Int)))), (12, .pv (.lit (.int .i64 (i : Int))))] [(900, .cells (encC eMember l)), (2, .cells [.pv (.lit (.int .i64 c.epoch)), sS (some c.members.nil) eMember c.members.D]), (4, .cells [.pv (.lit (.int .i64 0)), sS (some true) eMember []])] [2, 4, 900] (WeakerR.ofL (Ks := [2, 4, 900]) hI ⟨⟨rfl, rfl⟩, ⟨rfl, rfl⟩, ⟨rfl, rfl⟩, ⟨(by exact grow_at_cons (b := 900) (b' := 900) (e := eMember) (l := l) rfl h2 rfl rfl rfl), rfl⟩, ⟨rfl, rfl⟩, ⟨rfl, rfl⟩, ⟨rfl, rfl⟩, trivial⟩ (okH_list (look_cons h2 rfl) rfl rfl (okH_cons (look_cons h2 rfl) rfl rfl rfl (okH_cons (look_cons h2 rfl) rfl rfl rfl (okH_nil)))) rfl) ?_
  refine Awp.consP C ?_
  refine rvP C (.pv (.lit (.bool (decide ((i : Int) < (c.members.D.length : Int)))))) ?_
  refine rvc_nil ?_
  refine Awp.seq ?_
  refine Awp.cond (b := (decide ((i : Int) < (c.members.D.length : Int)))) rfl (fun h12 => ?_) (fun h12 => ?_)
  ·
   have h13 : i < c.members.D.length := by have := of_decide_eq_true h12; omega
   obtain ⟨x, h14⟩ := getX h13
   rw [drop_at h14] at hR
   refine Awp.skip ?_
   refine Awp.seq ?_
   refine Awp.block ?_
   refine Awp.consP C ?_
   refine rvc_un (rexec_idxS C rfl rfl rfl rfl rfl rfl x (Int.natCast_nonneg _) h14 ?_)
   refine rvP C (.agg [.pv (.lit (.int .i64 x.node)), .pv (.lit (.int .i64 x.site)), .pv (.lit (.bool x.fresh))]) ?_
   refine rvc_un (rexec_prim C (δ := { v := .ptr 8 0, new := [(8, .cells [.pv (.lit (.int .i64 0)), .pv (.lit (.int .i64 0)), .pv (.lit (.bool false))])] }) rfl rfl rfl rfl trivial rfl ?_)
   refine rvc_un (rexec_prim C (δ := { v := .undef, wr := [(8, some (.cells [.pv (.lit (.int .i64 x.node)), .pv (.lit (.int .i64 x.site)), .pv (.lit (.bool x.fresh))]))] }) rfl rfl rfl rfl trivial rfl ?_)
   refine rvc_nil ?_
   refine Awp.consP C ?_
   refine rvP C (.pv (.lit (.int .u64 gone))) ?_
   refine rvP C (.ptr 8 0) ?_
   refine rvP C (.pv (.lit (.int .i64 x.node))) ?_
   refine rvc_un (rexec_call hP C rfl rfl rfl (mHas_calls gone x.node) ?_)
   refine rvP C (.pv (.lit (.bool (!(mHas gone x.node))))) ?_
   refine rvP C (.pv (.lit (.bool (!(mHas gone x.node))))) ?_
   refine rvc_case 21 (!(mHas gone x.node)) rfl (fun h15 => ?_) (fun h15 => ?_)
   ·
    replace hR := of_true h15 hR
    refine rvO C (.sl 900 0 l.length 3 false) ?_
    refine rvO C (.pv (.lit (.int .i64 (l.length : Int)))) ?_
    refine rvO C (.pv (.lit (.bool (decide ((l.length : Int) > 0))))) ?_
    refine rvO C (.pv (.lit (.bool (decide ((l.length : Int) > 0))))) ?_
    refine rvc_case 25 (decide ((l.length : Int) > 0)) rfl (fun h16 => ?_) (fun h16 => ?_)
    ·
     replace hR := of_true h16 hR
     refine rvS ?_
     refine rvS ?_
     refine rvS ?_
     refine rvO C (.pv (.lit (.bool true))) ?_
     refine rvP C (.pv (.lit (.bool true))) ?_
     refine rvc_nil ?_
     refine Awp.condT (b := true) rfl rfl ?_
     refine Awp.regionP C ?_
     refine rvP C (.sl 900 0 l.length 3 false) ?_
     refine rvP C (.agg [.pv (.lit (.int .i64 x.node)), .pv (.lit (.int .i64 x.site)), .pv (.lit (.bool x.fresh))]) ?_
     refine rvc_un (rexec_buildSliceF C eMember [x] rfl rfl rfl rfl rfl rfl rfl (by decide) rfl ?_)
     refine rvc_un (rexec_append C rfl rfl rfl rfl rfl rfl rfl rfl (fun _ h => by cases h) rfl (en := eMember) (D0 := l) (D := [x]) rfl rfl rfl rfl (by have := of_decide_eq_true h12; have := of_decide_eq_true h16; first | omega | (simp <;> omega)) (by decide) (nn := (l ++ [x]).length) (by simp) ?_)
     refine rvP C (.sl 34 0 ((l ++ [x]).length) 3 false) ?_
     refine rvc_nil ?_
     refine Awp.regionP C ?_
     refine rvP C (.pv (.lit (.int .i64 (IntKind.i64.wrap ((i : Int) + 1))))) ?_
     refine rvP C (.pv (.lit (.int .i64 (IntKind.i64.wrap ((i : Int) + 1))))) ?_
     refine rvc_nil ?_
     refine ⟨h13, (l ++ [x]), ?_, ?_⟩
     · exact ⟨hR, (by first | omega | (simp <;> omega))⟩
     · exact ⟨fun b => bif b == 900 then 34 else (fun b => b) b, WeakerR.ofL (Ks := [2, 4, 900]) hI ⟨⟨rfl, rfl⟩, ⟨rfl, rfl⟩, ⟨rfl, rfl⟩, ⟨grow_to rfl rfl app_ne rfl rfl, grow_within rfl⟩, ⟨rfl, rfl⟩, ⟨rfl, rfl⟩, ⟨lit_cast (wrap_i64 (by omega) (by omega)), rfl⟩, trivial⟩ (okH_grow (fun _ => rfl) rfl rfl (okH_cons rfl rfl rfl rfl (okH_cons rfl rfl rfl rfl (okH_nil)))) rfl⟩
    ·
     replace hR := of_false h16 hR
     refine rvO C (.ptr 8 2) ?_
     refine rvO C (.pv (.lit (.bool x.fresh))) ?_
     refine rvO C (.pv (.lit (.bool (!x.fresh)))) ?_
     refine rvO C (.pv (.lit (.bool (!x.fresh)))) ?_
     refine rvP C (.pv (.lit (.bool (!x.fresh)))) ?_
     refine rvc_nil ?_
     refine Awp.cond (b := (!x.fresh)) rfl (fun h17 => ?_) (fun h17 => ?_)
     ·
      replace hR := of_true h17 hR
      refine Awp.regionP C ?_
      refine rvP C (.sl 900 0 l.length 3 false) ?_
      refine rvP C (.agg [.pv (.lit (.int .i64 x.node)), .pv (.lit (.int .i64 x.site)), .pv (.lit (.bool x.fresh))]) ?_
      refine rvc_un (rexec_buildSliceF C eMember [x] rfl rfl rfl rfl rfl rfl rfl (by decide) rfl ?_)
      refine rvc_un (rexec_append C rfl rfl rfl rfl rfl rfl rfl rfl (fun _ h => by cases h) rfl (en := eMember) (D0 := l) (D := [x]) rfl rfl rfl rfl (by have := of_decide_eq_true h12; have := of_decide_eq_false h16; first | omega | (simp <;> omega)) (by decide) (nn := (l ++ [x]).length) (by simp) ?_)
      refine rvP C (.sl 34 0 ((l ++ [x]).length) 3 false) ?_
      refine rvc_nil ?_
      refine Awp.regionP C ?_
      refine rvP C (.pv (.lit (.int .i64 (IntKind.i64.wrap ((i : Int) + 1))))) ?_
      refine rvP C (.pv (.lit (.int .i64 (IntKind.i64.wrap ((i : Int) + 1))))) ?_
      refine rvc_nil ?_
      refine ⟨h13, (l ++ [x]), ?_, ?_⟩
      · exact ⟨hR, (by first | omega | (simp <;> omega))⟩
      · exact ⟨fun b => bif b == 900 then 34 else (fun b => b) b, WeakerR.ofL (Ks := [2, 4, 900]) hI ⟨⟨rfl, rfl⟩, ⟨rfl, rfl⟩, ⟨rfl, rfl⟩, ⟨grow_to rfl rfl app_ne rfl rfl, grow_within rfl⟩, ⟨rfl, rfl⟩, ⟨rfl, rfl⟩, ⟨lit_cast (wrap_i64 (by omega) (by omega)), rfl⟩, trivial⟩ (okH_grow (fun _ => rfl) rfl rfl (okH_cons rfl rfl rfl rfl (okH_cons rfl rfl rfl rfl (okH_nil)))) rfl⟩
     ·
      replace hR := of_false h17 hR
      refine Awp.skip ?_
      refine Awp.regionP C ?_
      refine rvP C (.pv (.lit (.int .i64 (IntKind.i64.wrap ((i : Int) + 1))))) ?_
      refine rvP C (.pv (.lit (.int .i64 (IntKind.i64.wrap ((i : Int) + 1))))) ?_
      refine rvc_nil ?_
      refine ⟨h13, l, ?_, ?_⟩
      · exact ⟨hR, (by first | omega | (simp <;> omega))⟩
      · exact ⟨fun b => b, WeakerR.ofL (Ks := [2, 4, 900]) hI ⟨⟨rfl, rfl⟩, ⟨rfl, rfl⟩, ⟨rfl, rfl⟩, ⟨grow_to rfl rfl h2 rfl rfl, grow_within rfl⟩, ⟨rfl, rfl⟩, ⟨rfl, rfl⟩, ⟨lit_cast (wrap_i64 (by omega) (by omega)), rfl⟩, trivial⟩ (okH_grow (fun _ => rfl) rfl rfl (okH_cons rfl rfl rfl rfl (okH_cons rfl rfl rfl rfl (okH_nil)))) rfl⟩
   ·
    replace hR := of_false h15 hR
    refine rvS ?_
    refine rvS ?_
    refine rvS ?_
    refine rvS ?_
    refine rvc_shutU rfl rfl rfl ?_
    refine rvc_shutU rfl rfl rfl ?_
    refine rvc_shutU rfl rfl rfl ?_
    refine rvS ?_
    refine rvP C (.pv (.lit (.bool false))) ?_
    refine rvc_nil ?_
    refine Awp.condF (b := false) rfl rfl ?_
    refine Awp.skip ?_
    refine Awp.regionP C ?_
    refine rvP C (.pv (.lit (.int .i64 (IntKind.i64.wrap ((i : Int) + 1))))) ?_
    refine rvP C (.pv (.lit (.int .i64 (IntKind.i64.wrap ((i : Int) + 1))))) ?_
    refine rvc_nil ?_
    refine ⟨h13, l, ?_, ?_⟩
    · exact ⟨hR, (by first | omega | (simp <;> omega))⟩
    · exact ⟨fun b => b, WeakerR.ofL (Ks := [2, 4, 900]) hI ⟨⟨rfl, rfl⟩, ⟨rfl, rfl⟩, ⟨rfl, rfl⟩, ⟨grow_to rfl rfl h2 rfl rfl, grow_within rfl⟩, ⟨rfl, rfl⟩, ⟨rfl, rfl⟩, ⟨lit_cast (wrap_i64 (by omega) (by omega)), rfl⟩, trivial⟩ (okH_grow (fun _ => rfl) rfl rfl (okH_cons rfl rfl rfl rfl (okH_cons rfl rfl rfl rfl (okH_nil)))) rfl⟩
  ·
   have h13 : ¬ i < c.members.D.length := by have := of_decide_eq_false h12; omega
   rw [drop_end h13] at hR
   refine Awp.exit ?_
   refine Awp.seq ?_
   refine Awp.block ?_
   refine Awp.consP C ?_
   refine rvP C (.ptr 2 0) ?_
   refine rvP C (.pv (.lit (.int .i64 c.epoch))) ?_
   refine rvP C (.pv (.lit (.bool (decide (c.epoch ≥ 1099511627776))))) ?_
   refine rvP C (.pv (.lit (.bool (decide (c.epoch ≥ 1099511627776))))) ?_
   refine rvc_nil ?_
   refine Awp.cond (b := (decide (c.epoch ≥ 1099511627776))) rfl (fun h18 => ?_) (fun h18 => ?_)
   ·
    replace hR := of_true h18 hR
    refine Awp.consP C ?_
    refine rvP C (.agg [.pv (.lit (.int .i64 0)), sS (some true) eMember []]) ?_
    refine rvc_un (rexec_prim C (δ := { v := .undef, wr := [(4, some (.cells [.pv (.lit (.int .i64 0)), sS (some true) eMember []]))] }) rfl rfl rfl rfl trivial rfl ?_)
    refine rvP C (.pv (.lit (.int .i64 5))) ?_
    refine rvc_nil ?_
    refine Awp.ret ?_
    subst hR
    exact ⟨.inl rfl, rfl⟩
   ·
    replace hR := of_false h18 hR
    refine Awp.consP C ?_
    refine rvP C (.sl 900 0 l.length 3 false) ?_
    refine rvP C (.pv (.lit (.int .i64 (l.length : Int)))) ?_
    refine rvP C (.ptr 2 1) ?_
    refine rvP C (sS (some c.members.nil) eMember c.members.D) ?_
    refine rvP C (.pv (.lit (.int .i64 (c.members.D.length : Int)))) ?_
    refine rvP C (.pv (.lit (.bool ((l.length : Int) == (c.members.D.length : Int))))) ?_
    refine rvP C (.pv (.lit (.bool ((l.length : Int) == (c.members.D.length : Int))))) ?_
    refine rvc_nil ?_
    refine Awp.cond (b := ((l.length : Int) == (c.members.D.length : Int))) rfl (fun h19 => ?_) (fun h19 => ?_)
    ·
     replace hR := of_true h19 hR
     refine Awp.consP C ?_
     refine rvP C (.agg [.pv (.lit (.int .i64 0)), sS (some true) eMember []]) ?_
     refine rvc_un (rexec_prim C (δ := { v := .undef, wr := [(4, some (.cells [.pv (.lit (.int .i64 0)), sS (some true) eMember []]))] }) rfl rfl rfl rfl trivial rfl ?_)
     refine rvP C (.pv (.lit (.int .i64 81))) ?_
     refine rvc_nil ?_
     refine Awp.ret ?_
     subst hR
     exact ⟨.inl rfl, rfl⟩
    ·
     replace hR := of_false h19 hR
     refine Awp.consP C ?_
     refine rvP C (.sl 900 0 l.length 3 false) ?_
     refine rvP C (.pv (.lit (.int .i64 (l.length : Int)))) ?_
     refine rvP C (.pv (.lit (.bool ((l.length : Int) == 0)))) ?_
     refine rvP C (.pv (.lit (.bool ((l.length : Int) == 0)))) ?_
     refine rvc_nil ?_
     refine Awp.cond (b := ((l.length : Int) == 0)) rfl (fun h20 => ?_) (fun h20 => ?_)
     ·
      replace hR := of_true h20 hR
      refine Awp.consP C ?_
      refine rvP C (.agg [.pv (.lit (.int .i64 0)), sS (some true) eMember []]) ?_
      refine rvc_un (rexec_prim C (δ := { v := .undef, wr := [(4, some (.cells [.pv (.lit (.int .i64 0)), sS (some true) eMember []]))] }) rfl rfl rfl rfl trivial rfl ?_)
      refine rvP C (.pv (.lit (.int .i64 83))) ?_
      refine rvc_nil ?_
      refine Awp.ret ?_
      subst hR
      exact ⟨.inl rfl, rfl⟩
     ·
      replace hR := of_false h20 hR
      refine Awp.skip ?_
      refine Awp.freezeW 900 (encL eMember l) ?_ [(2, .ptr 2 0), (4, .ptr 4 0), (6, sS (some l.isEmpty) eMember l)] [(2, .cells [.pv (.lit (.int .i64 c.epoch)), sS (some c.members.nil) eMember c.members.D]), (4, .cells [.pv (.lit (.int .i64 0)), sS (some true) eMember []])] ?_ ?_ ?_
      · rfl
      · exact ⟨⟨_, rfl, .inl (.inl rfl)⟩, ⟨_, rfl, .inl (.inl rfl)⟩, ⟨_, rfl, .inl (.inr ⟨_, _, _, rfl, by rw [ne_isEmpty h2]; rfl⟩)⟩, trivial⟩
      · exact ⟨⟨(by show (2 : Nat) ≠ 900; decide), .inl rfl⟩, ⟨(by show (4 : Nat) ≠ 900; decide), .inl rfl⟩, trivial⟩
      refine Awp.consP C ?_
      refine rvP C (.agg [.pv (.lit (.int .i64 c.epoch)), sS (some c.members.nil) eMember c.members.D]) ?_
      refine rvP C (sS (some l.isEmpty) eMember l) ?_
      refine rvc_un (rexec_call hP C rfl rfl rfl (after_calls c (Sl.mk l.isEmpty l)) ?_)
      refine rvc_un (rexec_prim C (δ := { v := .undef, wr := [(4, some (.cells [.pv (.lit (.int .i64 ((after c (Sl.mk l.isEmpty l)).epoch))), sS (some (after c (Sl.mk l.isEmpty l)).members.nil) eMember ((after c (Sl.mk l.isEmpty l)).members.D)]))] }) rfl rfl rfl rfl trivial rfl ?_)
      refine rvP C (.pv (.lit (.int .i64 0))) ?_
      refine rvc_nil ?_
      refine Awp.ret ?_
      subst hR
      exact ⟨.inl rfl, rfl⟩
def firstC_l1 (i : Nat) (kk : (List Member) → (Chain × Int)) : List Member → Nat → (List Member) → Chain × Int
  | [], _, vc1 => kk vc1
  | x :: xs, i1, vc1 => (bif (x.site == (i : Int)) then firstC_l1 i kk xs (i1 + 1) (vc1 ++ [(Member.mk x.node x.site false)]) else firstC_l1 i kk xs (i1 + 1) vc1)
def firstC_l0 (l : (Sl Member)) : Nat → Nat → (List Member) → Chain × Int
  | 0, _, vc => (bif ((vc.length : Int) != (l.D.length : Int)) then ((Chain.mk 0 (Sl.mk true [])), 80) else (bif ((check (Chain.mk 1 (Sl.mk vc.isEmpty vc))) != 0) then ((Chain.mk 0 (Sl.mk true [])), 80) else ((Chain.mk 1 (Sl.mk vc.isEmpty vc)), 0)))
  | k + 1, i, vc => firstC_l1 i (fun vc2 => firstC_l0 l k (i + 1) vc2) l.D 0 vc
def firstC (l : (Sl Member)) : Chain × Int :=
  firstC_l0 l 3 0 []
theorem firstC_calls (l : (Sl Member)) (hl1 : l.D.length ≤ 1000000) : PCalls Try.prog 54 [sS (some l.nil) eMember l.D] (.tup [.agg [.pv (.lit (.int .i64 ((firstC l).1.epoch))), sS (some (firstC l).1.members.nil) eMember ((firstC l).1.members.D)], .pv (.lit (.int .i64 ((firstC l).2)))]) := by
 generalize hR : firstC l = R
 refine PCalls.of_body tabOk Try.func54 rfl rfl rfl rfl rfl mixed fun E hP C hI => ?_
 refine Awp.consP C ?_
 refine rvc_un (rexec_prim C (δ := { v := .ptr 2 0, new := [(2, .cells [.pv (.lit (.int .i64 0)), sS (some true) eMember []])] }) rfl rfl rfl rfl trivial rfl ?_)
 refine rvP C (.pv (.lit (.int .i64 0))) ?_
 refine rvc_nil ?_
 refine Awp.consP C ?_
 refine rvP C (.agg [.pv (.lit (.int .i64 1)), sS (some true) eMember []]) ?_
 refine rvc_un (rexec_prim C (δ := { v := .ptr 4 0, new := [(4, .cells [.pv (.lit (.int .i64 0)), sS (some true) eMember []])] }) rfl rfl rfl rfl trivial rfl ?_)
 refine rvc_un (rexec_prim C (δ := { v := .undef, wr := [(4, some (.cells [.pv (.lit (.int .i64 1)), sS (some true) eMember []]))] }) rfl rfl rfl rfl trivial rfl ?_)
 refine rvc_nil ?_
 refine Awp.seq ?_
 refine Awp.consP C ?_
 refine rvP C (.pv (.lit (.int .i64 0))) ?_
 refine rvc_nil ?_
 refine Awp.block ?_
 refine Awp.forR (σ := ((List Member))) (3) (fun i v => [(0, sS (some l.nil) eMember l.D), (2, .ptr 2 0), (4, .ptr 4 0), (9, .pv (.lit (.int .i64 (i : Int))))]) (fun i v => (growH 900 eMember v ++ ([(2, .cells [.pv (.lit (.int .i64 0)), sS (some true) eMember []]), (4, .cells [.pv (.lit (.int .i64 1)), grow 900 eMember v])]))) [2, 4, 900] (fun i v => (firstC_l0 l (3 - i) i v = R) ∧ (v.length ≤ i * 1000000)) [] ?_ ?_ (fun i vc h1 hR => ?_)
 · exact ⟨hR, (by first | omega | (simp <;> omega))⟩
 · exact ⟨fun b => b, WeakerR.ofL (Ks := [2, 4, 900]) hI ⟨⟨rfl, rfl⟩, ⟨rfl, rfl⟩, ⟨rfl, rfl⟩, ⟨rfl, rfl⟩, trivial⟩ (okH_grow (fun hne => absurd rfl hne) rfl rfl (okH_cons rfl rfl rfl rfl (okH_cons (cellsTo rfl (by exact ⟨rfl, grow_to_nil rfl rfl (.inl rfl), trivial⟩)) rfl rfl (win_cells (by exact ⟨rfl, grow_within rfl, trivial⟩)) (okH_nil)))) rfl⟩
 obtain ⟨hR, hi_vc⟩ := hR
 replace hi_vc : vc.length ≤ i * 1000000 := hi_vc
 by_cases h2 : vc = []
 ·
  refine Awp.wordsR [(0, sS (some l.nil) eMember l.D), (2, .ptr 2 0), (4, .ptr 4 0), (9, .pv (.lit (.int .i64 (i : Int))))] [(2, .cells [.pv (.lit (.int .i64 0)), sS (some true) eMember []]), (4, .cells [.pv (.lit (.int .i64 1)), sS (some vc.isEmpty) eMember vc])] [2, 4] (WeakerR.ofL (Ks := [2, 4]) hI ⟨⟨rfl, rfl⟩, ⟨rfl, rfl⟩, ⟨rfl, rfl⟩, ⟨rfl, rfl⟩, trivial⟩ (okH_cons (look_nil h2 rfl) rfl rfl rfl (okH_cons (cellsTo (look_nil h2 rfl) (by exact ⟨rfl, (by exact grow_at_nil (b := 900) (e := eMember) (l := vc) rfl h2), trivial⟩)) rfl rfl (win_cells (by exact ⟨rfl, rfl, trivial⟩)) (okH_nil))) rfl) ?_
  refine Awp.consP C ?_
  refine rvP C (.pv (.lit (.bool (decide ((i : Int) < 3))))) ?_
  refine rvc_nil ?_
  refine Awp.seq ?_
  refine Awp.cond (b := (decide ((i : Int) < 3))) rfl (fun h3 => ?_) (fun h3 => ?_)
  ·
   have h4 : i < 3 := by have := of_decide_eq_true h3; omega
   obtain ⟨k, h5⟩ : ∃ k, 3 - i = k + 1 := ⟨3 - i - 1, by omega⟩
   rw [h5] at hR
   refine Awp.skip ?_
   refine Awp.seq ?_
   refine Awp.block ?_
   refine Awp.consP C ?_
   refine rvP C (.pv (.lit (.int .i64 (i : Int)))) ?_
   refine rvP C (.pv (.lit (.int .i64 (i : Int)))) ?_
   refine rvc_nil ?_
   refine Awp.consP C ?_
   refine rvP C (sS (some l.nil) eMember l.D) ?_
   refine rvP C (.pv (.lit (.int .i64 (l.D.length : Int)))) ?_
   refine rvP C (.pv (.lit (.int .i64 0))) ?_
   refine rvc_nil ?_
   refine Awp.block ?_
   refine Awp.forR (σ := ((List Member))) (l.D.length) (fun i1 v => [(0, sS (some l.nil) eMember l.D), (2, .ptr 2 0), (4, .ptr 4 0), (5, .pv (.lit (.int .i64 (i : Int)))), (9, .pv (.lit (.int .i64 (i : Int)))), (12, sS (some l.nil) eMember l.D), (13, .pv (.lit (.int .i64 (l.D.length : Int)))), (14, .pv (.lit (.int .i64 (i1 : Int))))]) (fun i1 v => (growH 901 eMember v ++ ([(2, .cells [.pv (.lit (.int .i64 0)), sS (some true) eMember []]), (4, .cells [.pv (.lit (.int .i64 1)), grow 901 eMember v])]))) [2, 4, 901] (fun i1 v => (firstC_l1 i (fun vc1 => firstC_l0 l k (i + 1) vc1) (l.D.drop i1) i1 v = R) ∧ (v.length ≤ vc.length + i1)) vc ?_ ?_ (fun i1 vc1 h6 hR => ?_)
   · exact ⟨hR, (by first | omega | (simp <;> omega))⟩
   · exact ⟨fun b => b, WeakerR.ofL (Ks := [2, 4, 901]) hI ⟨⟨rfl, rfl⟩, ⟨rfl, rfl⟩, ⟨rfl, rfl⟩, ⟨rfl, rfl⟩, ⟨rfl, rfl⟩, ⟨rfl, rfl⟩, ⟨rfl, rfl⟩, ⟨rfl, rfl⟩, trivial⟩ (okH_grow (fun hne => absurd h2 hne) rfl rfl (okH_cons rfl rfl rfl rfl (okH_cons (cellsTo rfl (by exact ⟨rfl, grow_to_nil rfl h2 (.inr rfl), trivial⟩)) rfl rfl (win_cells (by exact ⟨rfl, grow_within rfl, trivial⟩)) (okH_nil)))) rfl⟩
   obtain ⟨hR, hi_vc1⟩ := hR
   replace hi_vc1 : vc1.length ≤ vc.length + i1 := hi_vc1
   by_cases h7 : vc1 = []
   ·
    refine Awp.wordsR [(0, sS (some l.nil) eMember l.D), (2, .ptr 2 0), (4, .ptr 4 0), (5, .pv (.lit (.int .i64 (i : Int)))), (9, .pv (.lit (.int .i64 (i : Int)))), (12, sS (some l.nil) eMember l.D), (13, .pv (.lit (.int .i64 (l.D.length : Int)))), (14, .pv (.lit (.int .i64 (i1 : Int))))] [(2, .cells [.pv (.lit (.int .i64 0)), sS (some true) eMember []]), (4, .cells [.pv (.lit (.int .i64 1)), sS (some vc1.isEmpty) eMember vc1])] [2, 4] (WeakerR.ofL (Ks := [2, 4]) hI ⟨⟨rfl, rfl⟩, ⟨rfl, rfl⟩, ⟨rfl, rfl⟩, ⟨rfl, rfl⟩, ⟨rfl, rfl⟩, ⟨rfl, rfl⟩, ⟨rfl, rfl⟩, ⟨rfl, rfl⟩, trivial⟩ (okH_cons (look_nil h7 rfl) rfl rfl rfl (okH_cons (cellsTo (look_nil h7 rfl) (by exact ⟨rfl, (by exact grow_at_nil (b := 901) (e := eMember) (l := vc1) rfl h7), trivial⟩)) rfl rfl (win_cells (by exact ⟨rfl, rfl, trivial⟩)) (okH_nil))) rfl) ?_
    refine Awp.consP C ?_
    refine rvP C (.pv (.lit (.bool (decide ((i1 : Int) < (l.D.length : Int)))))) ?_
    refine rvc_nil ?_
    refine Awp.seq ?_
    refine Awp.cond (b := (decide ((i1 : Int) < (l.D.length : Int)))) rfl (fun h8 => ?_) (fun h8 => ?_)
    ·
     have h9 : i1 < l.D.length := by have := of_decide_eq_true h8; omega
     obtain ⟨x, h10⟩ := getX h9
     rw [drop_at h10] at hR
     refine Awp.skip ?_
     refine Awp.seq ?_
     refine Awp.block ?_
     refine Awp.consP C ?_
     refine rvc_un (rexec_idxS C rfl rfl rfl rfl rfl rfl x (Int.natCast_nonneg _) h10 ?_)
     refine rvP C (.agg [.pv (.lit (.int .i64 x.node)), .pv (.lit (.int .i64 x.site)), .pv (.lit (.bool x.fresh))]) ?_
     refine rvc_un (rexec_prim C (δ := { v := .ptr 7 0, new := [(7, .cells [.pv (.lit (.int .i64 0)), .pv (.lit (.int .i64 0)), .pv (.lit (.bool false))])] }) rfl rfl rfl rfl trivial rfl ?_)
     refine rvc_un (rexec_prim C (δ := { v := .undef, wr := [(7, some (.cells [.pv (.lit (.int .i64 x.node)), .pv (.lit (.int .i64 x.site)), .pv (.lit (.bool x.fresh))]))] }) rfl rfl rfl rfl trivial rfl ?_)
     refine rvc_nil ?_
     refine Awp.consP C ?_
     refine rvP C (.ptr 7 1) ?_
     refine rvP C (.pv (.lit (.int .i64 x.site))) ?_
     refine rvP C (.pv (.lit (.int .i64 (i : Int)))) ?_
     refine rvP C (.pv (.lit (.bool (x.site == (i : Int))))) ?_
     refine rvc_nil ?_
     refine Awp.cond (b := (x.site == (i : Int))) rfl (fun h11 => ?_) (fun h11 => ?_)
     ·
      replace hR := of_true h11 hR
      refine Awp.consP C ?_
      refine rvP C (.ptr 7 2) ?_
      refine rvc_un (rexec_prim C (δ := { v := .undef, wr := [(7, some (.cells [.pv (.lit (.int .i64 x.node)), .pv (.lit (.int .i64 x.site)), .pv (.lit (.bool false))]))] }) rfl rfl rfl rfl trivial rfl ?_)
      refine rvc_nil ?_
      refine Awp.regionP C ?_
      refine rvP C (.ptr 4 1) ?_
      refine rvP C (sS (some vc1.isEmpty) eMember vc1) ?_
      refine rvP C (.agg [.pv (.lit (.int .i64 x.node)), .pv (.lit (.int .i64 x.site)), .pv (.lit (.bool false))]) ?_
      refine rvc_un (rexec_buildSliceF C eMember [(Member.mk x.node x.site false)] rfl rfl rfl rfl rfl rfl rfl (by decide) rfl ?_)
      refine rvc_un (rexec_appendG C rfl rfl rfl rfl rfl rfl rfl rfl (fun _ h => by cases h) rfl (en := eMember) (l := vc1) (D := [(Member.mk x.node x.site false)]) rfl rfl h7 (by rw [h7]; rfl) (by simp) (by have := of_decide_eq_true h3; have := of_decide_eq_true h8; have := beq_iff_eq.1 h11; first | omega | (simp <;> omega)) (by decide) (nn := (vc1 ++ [(Member.mk x.node x.site false)]).length) (by simp) ?_)
      refine rvP C (.ptr 4 1) ?_
      refine rvc_un (rexec_prim C (δ := { v := .undef, wr := [(4, some (.cells [.pv (.lit (.int .i64 1)), .sl 27 0 ((vc1 ++ [(Member.mk x.node x.site false)]).length) 3 false]))] }) rfl rfl rfl rfl trivial rfl ?_)
      refine rvc_nil ?_
      refine Awp.regionP C ?_
      refine rvP C (.pv (.lit (.int .i64 (IntKind.i64.wrap ((i1 : Int) + 1))))) ?_
      refine rvP C (.pv (.lit (.int .i64 (IntKind.i64.wrap ((i1 : Int) + 1))))) ?_
      refine rvc_nil ?_
      refine ⟨h9, (vc1 ++ [(Member.mk x.node x.site false)]), ?_, ?_⟩
      · exact ⟨hR, (by first | omega | (simp <;> omega))⟩
      · exact ⟨fun b => bif b == 901 then 27 else (fun b => b) b, WeakerR.ofL (Ks := [2, 4, 901]) hI ⟨⟨rfl, rfl⟩, ⟨rfl, rfl⟩, ⟨rfl, rfl⟩, ⟨rfl, rfl⟩, ⟨rfl, rfl⟩, ⟨rfl, rfl⟩, ⟨rfl, rfl⟩, ⟨lit_cast (wrap_i64 (by omega) (by omega)), rfl⟩, trivial⟩ (okH_grow (fun _ => rfl) rfl rfl (okH_cons rfl rfl rfl rfl (okH_cons (cellsTo rfl (by exact ⟨rfl, grow_to rfl rfl app_ne rfl rfl, trivial⟩)) rfl rfl (win_cells (by exact ⟨rfl, grow_within rfl, trivial⟩)) (okH_nil)))) rfl⟩
     ·
      replace hR := of_false h11 hR
      refine Awp.skip ?_
      refine Awp.regionP C ?_
      refine rvP C (.pv (.lit (.int .i64 (IntKind.i64.wrap ((i1 : Int) + 1))))) ?_
      refine rvP C (.pv (.lit (.int .i64 (IntKind.i64.wrap ((i1 : Int) + 1))))) ?_
      refine rvc_nil ?_
      refine ⟨h9, vc1, ?_, ?_⟩
      · exact ⟨hR, (by first | omega | (simp <;> omega))⟩
      · exact ⟨fun b => b, WeakerR.ofL (Ks := [2, 4, 901]) hI ⟨⟨rfl, rfl⟩, ⟨rfl, rfl⟩, ⟨rfl, rfl⟩, ⟨rfl, rfl⟩, ⟨rfl, rfl⟩, ⟨rfl, rfl⟩, ⟨rfl, rfl⟩, ⟨lit_cast (wrap_i64 (by omega) (by omega)), rfl⟩, trivial⟩ (okH_grow (fun hne => absurd h7 hne) rfl rfl (okH_cons rfl rfl rfl rfl (okH_cons (cellsTo rfl (by exact ⟨rfl, grow_to_nil rfl h7 (.inr rfl), trivial⟩)) rfl rfl (win_cells (by exact ⟨rfl, grow_within rfl, trivial⟩)) (okH_nil)))) rfl⟩
    ·
     have h9 : ¬ i1 < l.D.length := by have := of_decide_eq_false h8; omega
     rw [drop_end h9] at hR
     refine Awp.exit ?_
     refine Awp.regionP C ?_
     refine rvP C (.pv (.lit (.int .i64 (IntKind.i64.wrap ((i : Int) + 1))))) ?_
     refine rvP C (.pv (.lit (.int .i64 (IntKind.i64.wrap ((i : Int) + 1))))) ?_
     refine rvc_nil ?_
     refine ⟨h4, vc1, ?_, ?_⟩
     · exact ⟨(by rw [show 3 - (i + 1) = k by omega]; exact hR), (by first | omega | (simp <;> omega))⟩
     · exact ⟨fun b => b, WeakerR.ofL (Ks := [2, 4, 900]) hI ⟨⟨rfl, rfl⟩, ⟨rfl, rfl⟩, ⟨rfl, rfl⟩, ⟨lit_cast (wrap_i64 (by omega) (by omega)), rfl⟩, trivial⟩ (okH_grow (fun hne => absurd h7 hne) rfl rfl (okH_cons rfl rfl rfl rfl (okH_cons (cellsTo rfl (by exact ⟨rfl, grow_to_nil rfl h7 (.inr rfl), trivial⟩)) rfl rfl (win_cells (by exact ⟨rfl, grow_within rfl, trivial⟩)) (okH_nil)))) rfl⟩
   ·
    refine Awp.wordsR [(0, sS (some l.nil) eMember l.D), (2, .ptr 2 0), (4, .ptr 4 0), (5, .pv (.lit (.int .i64 (i : Int)))), (9, .pv (.lit (.int .i64 (i : Int)))), (12, sS (some l.nil) eMember l.D), (13, .pv (.lit (.int .i64 (l.D.length : Int)))), (14, .pv (.lit (.int .i64 (i1 : Int))))] [(901, .cells (encC eMember vc1)), (2, .cells [.pv (.lit (.int .i64 0)), sS (some true) eMember []]), (4, .cells [.pv (.lit (.int .i64 1)), .sl 901 0 vc1.length 3 false])] [2, 4, 901] (WeakerR.ofL (Ks := [2, 4, 901]) hI ⟨⟨rfl, rfl⟩, ⟨rfl, rfl⟩, ⟨rfl, rfl⟩, ⟨rfl, rfl⟩, ⟨rfl, rfl⟩, ⟨rfl, rfl⟩, ⟨rfl, rfl⟩, ⟨rfl, rfl⟩, trivial⟩ (okH_list (look_cons h7 rfl) rfl rfl (okH_cons (look_cons h7 rfl) rfl rfl rfl (okH_cons (cellsTo (look_cons h7 rfl) (by exact ⟨rfl, (by exact grow_at_cons (b := 901) (b' := 901) (e := eMember) (l := vc1) rfl h7 rfl rfl rfl), trivial⟩)) rfl rfl (win_cells (by exact ⟨rfl, rfl, trivial⟩)) (okH_nil)))) rfl) ?_
    refine Awp.consP C ?_
    refine rvP C (.pv (.lit (.bool (decide ((i1 : Int) < (l.D.length : Int)))))) ?_
    refine rvc_nil ?_
    refine Awp.seq ?_
    refine Awp.cond (b := (decide ((i1 : Int) < (l.D.length : Int)))) rfl (fun h12 => ?_) (fun h12 => ?_)
    ·
     have h13 : i1 < l.D.length := by have := of_decide_eq_true h12; omega
     obtain ⟨x, h14⟩ := getX h13
     rw [drop_at h14] at hR
     refine Awp.skip ?_
     refine Awp.seq ?_
     refine Awp.block ?_
     refine Awp.consP C ?_
     refine rvc_un (rexec_idxS C rfl rfl rfl rfl rfl rfl x (Int.natCast_nonneg _) h14 ?_)
     refine rvP C (.agg [.pv (.lit (.int .i64 x.node)), .pv (.lit (.int .i64 x.site)), .pv (.lit (.bool x.fresh))]) ?_
     refine rvc_un (rexec_prim C (δ := { v := .ptr 7 0, new := [(7, .cells [.pv (.lit (.int .i64 0)), .pv (.lit (.int .i64 0)), .pv (.lit (.bool false))])] }) rfl rfl rfl rfl trivial rfl ?_)
     refine rvc_un (rexec_prim C (δ := { v := .undef, wr := [(7, some (.cells [.pv (.lit (.int .i64 x.node)), .pv (.lit (.int .i64 x.site)), .pv (.lit (.bool x.fresh))]))] }) rfl rfl rfl rfl trivial rfl ?_)
     refine rvc_nil ?_
     refine Awp.consP C ?_
     refine rvP C (.ptr 7 1) ?_
     refine rvP C (.pv (.lit (.int .i64 x.site))) ?_
     refine rvP C (.pv (.lit (.int .i64 (i : Int)))) ?_
     refine rvP C (.pv (.lit (.bool (x.site == (i : Int))))) ?_
     refine rvc_nil ?_
     refine Awp.cond (b := (x.site == (i : Int))) rfl (fun h15 => ?_) (fun h15 => ?_)
     ·
      replace hR := of_true h15 hR
      refine Awp.consP C ?_
      refine rvP C (.ptr 7 2) ?_
      refine rvc_un (rexec_prim C (δ := { v := .undef, wr := [(7, some (.cells [.pv (.lit (.int .i64 x.node)), .pv (.lit (.int .i64 x.site)), .pv (.lit (.bool false))]))] }) rfl rfl rfl rfl trivial rfl ?_)
      refine rvc_nil ?_
      refine Awp.regionP C ?_
      refine rvP C (.ptr 4 1) ?_
      refine rvP C (.sl 901 0 vc1.length 3 false) ?_
      refine rvP C (.agg [.pv (.lit (.int .i64 x.node)), .pv (.lit (.int .i64 x.site)), .pv (.lit (.bool false))]) ?_
      refine rvc_un (rexec_buildSliceF C eMember [(Member.mk x.node x.site false)] rfl rfl rfl rfl rfl rfl rfl (by decide) rfl ?_)
      refine rvc_un (rexec_append C rfl rfl rfl rfl rfl rfl rfl rfl (fun _ h => by cases h) rfl (en := eMember) (D0 := vc1) (D := [(Member.mk x.node x.site false)]) rfl rfl rfl rfl (by have := of_decide_eq_true h3; have := of_decide_eq_true h12; have := beq_iff_eq.1 h15; first | omega | (simp <;> omega)) (by decide) (nn := (vc1 ++ [(Member.mk x.node x.site false)]).length) (by simp) ?_)
      refine rvP C (.ptr 4 1) ?_
      refine rvc_un (rexec_prim C (δ := { v := .undef, wr := [(4, some (.cells [.pv (.lit (.int .i64 1)), .sl 27 0 ((vc1 ++ [(Member.mk x.node x.site false)]).length) 3 false]))] }) rfl rfl rfl rfl trivial rfl ?_)
      refine rvc_nil ?_
      refine Awp.regionP C ?_
      refine rvP C (.pv (.lit (.int .i64 (IntKind.i64.wrap ((i1 : Int) + 1))))) ?_
      refine rvP C (.pv (.lit (.int .i64 (IntKind.i64.wrap ((i1 : Int) + 1))))) ?_
      refine rvc_nil ?_
      refine ⟨h13, (vc1 ++ [(Member.mk x.node x.site false)]), ?_, ?_⟩
      · exact ⟨hR, (by first | omega | (simp <;> omega))⟩
      · exact ⟨fun b => bif b == 901 then 27 else (fun b => b) b, WeakerR.ofL (Ks := [2, 4, 901]) hI ⟨⟨rfl, rfl⟩, ⟨rfl, rfl⟩, ⟨rfl, rfl⟩, ⟨rfl, rfl⟩, ⟨rfl, rfl⟩, ⟨rfl, rfl⟩, ⟨rfl, rfl⟩, ⟨lit_cast (wrap_i64 (by omega) (by omega)), rfl⟩, trivial⟩ (okH_grow (fun _ => rfl) rfl rfl (okH_cons rfl rfl rfl rfl (okH_cons (cellsTo rfl (by exact ⟨rfl, grow_to rfl rfl app_ne rfl rfl, trivial⟩)) rfl rfl (win_cells (by exact ⟨rfl, grow_within rfl, trivial⟩)) (okH_nil)))) rfl⟩
     ·
      replace hR := of_false h15 hR
      refine Awp.skip ?_
      refine Awp.regionP C ?_
      refine rvP C (.pv (.lit (.int .i64 (IntKind.i64.wrap ((i1 : Int) + 1))))) ?_
      refine rvP C (.pv (.lit (.int .i64 (IntKind.i64.wrap ((i1 : Int) + 1))))) ?_
      refine rvc_nil ?_
      refine ⟨h13, vc1, ?_, ?_⟩
      · exact ⟨hR, (by first | omega | (simp <;> omega))⟩
      · exact ⟨fun b => b, WeakerR.ofL (Ks := [2, 4, 901]) hI ⟨⟨rfl, rfl⟩, ⟨rfl, rfl⟩, ⟨rfl, rfl⟩, ⟨rfl, rfl⟩, ⟨rfl, rfl⟩, ⟨rfl, rfl⟩, ⟨rfl, rfl⟩, ⟨lit_cast (wrap_i64 (by omega) (by omega)), rfl⟩, trivial⟩ (okH_grow (fun _ => rfl) rfl rfl (okH_cons rfl rfl rfl rfl (okH_cons (cellsTo rfl (by exact ⟨rfl, grow_to rfl rfl h7 rfl rfl, trivial⟩)) rfl rfl (win_cells (by exact ⟨rfl, grow_within rfl, trivial⟩)) (okH_nil)))) rfl⟩
    ·
     have h13 : ¬ i1 < l.D.length := by have := of_decide_eq_false h12; omega
     rw [drop_end h13] at hR
     refine Awp.exit ?_
     refine Awp.regionP C ?_
     refine rvP C (.pv (.lit (.int .i64 (IntKind.i64.wrap ((i : Int) + 1))))) ?_
     refine rvP C (.pv (.lit (.int .i64 (IntKind.i64.wrap ((i : Int) + 1))))) ?_
     refine rvc_nil ?_
     refine ⟨h4, vc1, ?_, ?_⟩
     · exact ⟨(by rw [show 3 - (i + 1) = k by omega]; exact hR), (by first | omega | (simp <;> omega))⟩
     · exact ⟨fun b => bif b == 900 then 901 else (fun b => b) b, WeakerR.ofL (Ks := [2, 4, 900]) hI ⟨⟨rfl, rfl⟩, ⟨rfl, rfl⟩, ⟨rfl, rfl⟩, ⟨lit_cast (wrap_i64 (by omega) (by omega)), rfl⟩, trivial⟩ (okH_grow (fun _ => rfl) rfl rfl (okH_cons rfl rfl rfl rfl (okH_cons (cellsTo rfl (by exact ⟨rfl, grow_to rfl rfl h7 rfl rfl, trivial⟩)) rfl rfl (win_cells (by exact ⟨rfl, grow_within rfl, trivial⟩)) (okH_nil)))) rfl⟩
  ·
   rw [show 3 - i = 0 by have := of_decide_eq_false h3; omega] at hR
   refine Awp.exit ?_
   refine Awp.seq ?_
   refine Awp.consP C ?_
   refine rvP C (.ptr 4 1) ?_
   refine rvP C (sS (some vc.isEmpty) eMember vc) ?_
   refine rvP C (.pv (.lit (.int .i64 (vc.length : Int)))) ?_
   refine rvP C (sS (some l.nil) eMember l.D) ?_
   refine rvP C (.pv (.lit (.int .i64 (l.D.length : Int)))) ?_
   refine rvP C (.pv (.lit (.bool ((vc.length : Int) != (l.D.length : Int))))) ?_
   refine rvP C (.pv (.lit (.bool ((vc.length : Int) != (l.D.length : Int))))) ?_
   refine rvc_case 37 ((vc.length : Int) != (l.D.length : Int)) rfl (fun h16 => ?_) (fun h16 => ?_)
   ·
    replace hR := of_true h16 hR
    refine rvS ?_
    refine rvS ?_
    refine rvS ?_
    refine rvP C (.pv (.lit (.bool true))) ?_
    refine rvc_nil ?_
    refine Awp.condT (b := true) rfl rfl ?_
    refine Awp.consP C ?_
    refine rvP C (.agg [.pv (.lit (.int .i64 0)), sS (some true) eMember []]) ?_
    refine rvc_un (rexec_prim C (δ := { v := .undef, wr := [(2, some (.cells [.pv (.lit (.int .i64 0)), sS (some true) eMember []]))] }) rfl rfl rfl rfl trivial rfl ?_)
    refine rvP C (.pv (.lit (.int .i64 80))) ?_
    refine rvc_nil ?_
    refine Awp.ret ?_
    subst hR
    exact ⟨.inl rfl, rfl⟩
   ·
    replace hR := of_false h16 hR
    refine rvO C (.agg [.pv (.lit (.int .i64 1)), sS (some vc.isEmpty) eMember vc]) ?_
    refine rvc_open rfl rfl rfl (rexec_call hP C rfl rfl rfl (check_calls (Chain.mk 1 (Sl.mk vc.isEmpty vc)) (by show vc.length ≤ 9223372036854775807; have := of_decide_eq_false h3; have := eq_of_bne_false h16; omega)) ?_)
    refine rvO C (.pv (.lit (.bool ((check (Chain.mk 1 (Sl.mk vc.isEmpty vc))) != 0)))) ?_
    refine rvP C (.pv (.lit (.bool ((check (Chain.mk 1 (Sl.mk vc.isEmpty vc))) != 0)))) ?_
    refine rvc_nil ?_
    refine Awp.cond (b := ((check (Chain.mk 1 (Sl.mk vc.isEmpty vc))) != 0)) rfl (fun h17 => ?_) (fun h17 => ?_)
    ·
     replace hR := of_true h17 hR
     refine Awp.consP C ?_
     refine rvP C (.agg [.pv (.lit (.int .i64 0)), sS (some true) eMember []]) ?_
     refine rvc_un (rexec_prim C (δ := { v := .undef, wr := [(2, some (.cells [.pv (.lit (.int .i64 0)), sS (some true) eMember []]))] }) rfl rfl rfl rfl trivial rfl ?_)
     refine rvP C (.pv (.lit (.int .i64 80))) ?_
     refine rvc_nil ?_
     refine Awp.ret ?_
     subst hR
     exact ⟨.inl rfl, rfl⟩
    ·
     replace hR := of_false h17 hR
     refine Awp.skip ?_
     refine Awp.consP C ?_
     refine rvP C (.agg [.pv (.lit (.int .i64 1)), sS (some vc.isEmpty) eMember vc]) ?_
     refine rvc_un (rexec_prim C (δ := { v := .undef, wr := [(2, some (.cells [.pv (.lit (.int .i64 1)), sS (some vc.isEmpty) eMember vc]))] }) rfl rfl rfl rfl trivial rfl ?_)
     refine rvP C (.pv (.lit (.int .i64 0))) ?_
     refine rvc_nil ?_
     refine Awp.ret ?_
     subst hR
     exact ⟨.inl rfl, rfl⟩
 ·
  refine Awp.wordsR [(0, sS (some l.nil) eMember l.D), (2, .ptr 2 0), (4, .ptr 4 0), (9, .pv (.lit (.int .i64 (i : Int))))] [(900, .cells (encC eMember vc)), (2, .cells [.pv (.lit (.int .i64 0)), sS (some true) eMember []]), (4, .cells [.pv (.lit (.int .i64 1)), .sl 900 0 vc.length 3 false])] [2, 4, 900] (WeakerR.ofL (Ks := [2, 4, 900]) hI ⟨⟨rfl, rfl⟩, ⟨rfl, rfl⟩, ⟨rfl, rfl⟩, ⟨rfl, rfl⟩, trivial⟩ (okH_list (look_cons h2 rfl) rfl rfl (okH_cons (look_cons h2 rfl) rfl rfl rfl (okH_cons (cellsTo (look_cons h2 rfl) (by exact ⟨rfl, (by exact grow_at_cons (b := 900) (b' := 900) (e := eMember) (l := vc) rfl h2 rfl rfl rfl), trivial⟩)) rfl rfl (win_cells (by exact ⟨rfl, rfl, trivial⟩)) (okH_nil)))) rfl) ?_
  refine Awp.consP C ?_
  refine rvP C (.pv (.lit (.bool (decide ((i : Int) < 3))))) ?_
  refine rvc_nil ?_
  refine Awp.seq ?_
  refine Awp.cond (b := (decide ((i : Int) < 3))) rfl (fun h18 => ?_) (fun h18 => ?_)
  ·
   have h19 : i < 3 := by have := of_decide_eq_true h18; omega
   obtain ⟨k, h20⟩ : ∃ k, 3 - i = k + 1 := ⟨3 - i - 1, by omega⟩
   rw [h20] at hR
   refine Awp.skip ?_
   refine Awp.seq ?_
   refine Awp.block ?_
   refine Awp.consP C ?_
   refine rvP C (.pv (.lit (.int .i64 (i : Int)))) ?_
   refine rvP C (.pv (.lit (.int .i64 (i : Int)))) ?_
   refine rvc_nil ?_
   refine Awp.consP C ?_
   refine rvP C (sS (some l.nil) eMember l.D) ?_
   refine rvP C (.pv (.lit (.int .i64 (l.D.length : Int)))) ?_
   refine rvP C (.pv (.lit (.int .i64 0))) ?_
   refine rvc_nil ?_
   refine Awp.block ?_
   refine Awp.forR (σ := ((List Member))) (l.D.length) (fun i2 v => [(0, sS (some l.nil) eMember l.D), (2, .ptr 2 0), (4, .ptr 4 0), (5, .pv (.lit (.int .i64 (i : Int)))), (9, .pv (.lit (.int .i64 (i : Int)))), (12, sS (some l.nil) eMember l.D), (13, .pv (.lit (.int .i64 (l.D.length : Int)))), (14, .pv (.lit (.int .i64 (i2 : Int))))]) (fun i2 v => [(2, .cells [.pv (.lit (.int .i64 0)), sS (some true) eMember []]), (4, .cells [.pv (.lit (.int .i64 1)), .sl 902 0 v.length 3 false]), (902, .cells (encC eMember v))]) [2, 4, 902] (fun i2 v => (firstC_l1 i (fun vc2 => firstC_l0 l k (i + 1) vc2) (l.D.drop i2) i2 v = R) ∧ (v ≠ [] ∧ v.length ≤ vc.length + i2)) vc ?_ ?_ (fun i2 vc2 h21 hR => ?_)
   · exact ⟨hR, ⟨h2, (by first | omega | (simp <;> omega))⟩⟩
   · exact ⟨fun b => bif b == 902 then 900 else (fun b => b) b, WeakerR.ofL (Ks := [2, 4, 902]) hI ⟨⟨rfl, rfl⟩, ⟨rfl, rfl⟩, ⟨rfl, rfl⟩, ⟨rfl, rfl⟩, ⟨rfl, rfl⟩, ⟨rfl, rfl⟩, ⟨rfl, rfl⟩, ⟨rfl, rfl⟩, trivial⟩ (okH_cons rfl rfl rfl rfl (okH_cons rfl rfl rfl rfl (okH_list rfl rfl rfl (okH_nil)))) rfl⟩
   obtain ⟨hR, ⟨hn_vc2, hi_vc2⟩⟩ := hR
   replace hi_vc2 : vc2.length ≤ vc.length + i2 := hi_vc2
   refine Awp.consP C ?_
   refine rvP C (.pv (.lit (.bool (decide ((i2 : Int) < (l.D.length : Int)))))) ?_
   refine rvc_nil ?_
   refine Awp.seq ?_
   refine Awp.cond (b := (decide ((i2 : Int) < (l.D.length : Int)))) rfl (fun h22 => ?_) (fun h22 => ?_)
   ·
    have h23 : i2 < l.D.length := by have := of_decide_eq_true h22; omega
    obtain ⟨x1, h24⟩ := getX h23
    rw [drop_at h24] at hR
    refine Awp.skip ?_
    refine Awp.seq ?_
    refine Awp.block ?_
    refine Awp.consP C ?_
    refine rvc_un (rexec_idxS C rfl rfl rfl rfl rfl rfl x1 (Int.natCast_nonneg _) h24 ?_)
    refine rvP C (.agg [.pv (.lit (.int .i64 x1.node)), .pv (.lit (.int .i64 x1.site)), .pv (.lit (.bool x1.fresh))]) ?_
    refine rvc_un (rexec_prim C (δ := { v := .ptr 7 0, new := [(7, .cells [.pv (.lit (.int .i64 0)), .pv (.lit (.int .i64 0)), .pv (.lit (.bool false))])] }) rfl rfl rfl rfl trivial rfl ?_)
    refine rvc_un (rexec_prim C (δ := { v := .undef, wr := [(7, some (.cells [.pv (.lit (.int .i64 x1.node)), .pv (.lit (.int .i64 x1.site)), .pv (.lit (.bool x1.fresh))]))] }) rfl rfl rfl rfl trivial rfl ?_)
    refine rvc_nil ?_
    refine Awp.consP C ?_
    refine rvP C (.ptr 7 1) ?_
    refine rvP C (.pv (.lit (.int .i64 x1.site))) ?_
    refine rvP C (.pv (.lit (.int .i64 (i : Int)))) ?_
    refine rvP C (.pv (.lit (.bool (x1.site == (i : Int))))) ?_
    refine rvc_nil ?_
    refine Awp.cond (b := (x1.site == (i : Int))) rfl (fun h25 => ?_) (fun h25 => ?_)
    ·
     replace hR := of_true h25 hR
     refine Awp.consP C ?_
     refine rvP C (.ptr 7 2) ?_
     refine rvc_un (rexec_prim C (δ := { v := .undef, wr := [(7, some (.cells [.pv (.lit (.int .i64 x1.node)), .pv (.lit (.int .i64 x1.site)), .pv (.lit (.bool false))]))] }) rfl rfl rfl rfl trivial rfl ?_)
     refine rvc_nil ?_
     refine Awp.regionP C ?_
     refine rvP C (.ptr 4 1) ?_
     refine rvP C (.sl 902 0 vc2.length 3 false) ?_
     refine rvP C (.agg [.pv (.lit (.int .i64 x1.node)), .pv (.lit (.int .i64 x1.site)), .pv (.lit (.bool false))]) ?_
     refine rvc_un (rexec_buildSliceF C eMember [(Member.mk x1.node x1.site false)] rfl rfl rfl rfl rfl rfl rfl (by decide) rfl ?_)
     refine rvc_un (rexec_append C rfl rfl rfl rfl rfl rfl rfl rfl (fun _ h => by cases h) rfl (en := eMember) (D0 := vc2) (D := [(Member.mk x1.node x1.site false)]) rfl rfl rfl rfl (by have := of_decide_eq_true h18; have := of_decide_eq_true h22; have := beq_iff_eq.1 h25; first | omega | (simp <;> omega)) (by decide) (nn := (vc2 ++ [(Member.mk x1.node x1.site false)]).length) (by simp) ?_)
     refine rvP C (.ptr 4 1) ?_
     refine rvc_un (rexec_prim C (δ := { v := .undef, wr := [(4, some (.cells [.pv (.lit (.int .i64 1)), .sl 27 0 ((vc2 ++ [(Member.mk x1.node x1.site false)]).length) 3 false]))] }) rfl rfl rfl rfl trivial rfl ?_)
     refine rvc_nil ?_
     refine Awp.regionP C ?_
     refine rvP C (.pv (.lit (.int .i64 (IntKind.i64.wrap ((i2 : Int) + 1))))) ?_
     refine rvP C (.pv (.lit (.int .i64 (IntKind.i64.wrap ((i2 : Int) + 1))))) ?_
     refine rvc_nil ?_
     refine ⟨h23, (vc2 ++ [(Member.mk x1.node x1.site false)]), ?_, ?_⟩
     · exact ⟨hR, ⟨app_ne, (by first | omega | (simp <;> omega))⟩⟩
     · exact ⟨fun b => bif b == 902 then 27 else (fun b => b) b, WeakerR.ofL (Ks := [2, 4, 902]) hI ⟨⟨rfl, rfl⟩, ⟨rfl, rfl⟩, ⟨rfl, rfl⟩, ⟨rfl, rfl⟩, ⟨rfl, rfl⟩, ⟨rfl, rfl⟩, ⟨rfl, rfl⟩, ⟨lit_cast (wrap_i64 (by omega) (by omega)), rfl⟩, trivial⟩ (okH_cons rfl rfl rfl rfl (okH_cons rfl rfl rfl rfl (okH_list rfl rfl rfl (okH_nil)))) rfl⟩
    ·
     replace hR := of_false h25 hR
     refine Awp.skip ?_
     refine Awp.regionP C ?_
     refine rvP C (.pv (.lit (.int .i64 (IntKind.i64.wrap ((i2 : Int) + 1))))) ?_
     refine rvP C (.pv (.lit (.int .i64 (IntKind.i64.wrap ((i2 : Int) + 1))))) ?_
     refine rvc_nil ?_
     refine ⟨h23, vc2, ?_, ?_⟩
     · exact ⟨hR, ⟨hn_vc2, (by first | omega | (simp <;> omega))⟩⟩
     · exact ⟨fun b => b, WeakerR.ofL (Ks := [2, 4, 902]) hI ⟨⟨rfl, rfl⟩, ⟨rfl, rfl⟩, ⟨rfl, rfl⟩, ⟨rfl, rfl⟩, ⟨rfl, rfl⟩, ⟨rfl, rfl⟩, ⟨rfl, rfl⟩, ⟨lit_cast (wrap_i64 (by omega) (by omega)), rfl⟩, trivial⟩ (okH_cons rfl rfl rfl rfl (okH_cons rfl rfl rfl rfl (okH_list rfl rfl rfl (okH_nil)))) rfl⟩
   ·
    have h23 : ¬ i2 < l.D.length := by have := of_decide_eq_false h22; omega
    rw [drop_end h23] at hR
    refine Awp.exit ?_
    refine Awp.regionP C ?_
    refine rvP C (.pv (.lit (.int .i64 (IntKind.i64.wrap ((i : Int) + 1))))) ?_
    refine rvP C (.pv (.lit (.int .i64 (IntKind.i64.wrap ((i : Int) + 1))))) ?_
    refine rvc_nil ?_
    refine ⟨h19, vc2, ?_, ?_⟩
    · exact ⟨(by rw [show 3 - (i + 1) = k by omega]; exact hR), (by first | omega | (simp <;> omega))⟩
    · exact ⟨fun b => bif b == 900 then 902 else (fun b => b) b, WeakerR.ofL (Ks := [2, 4, 900]) hI ⟨⟨rfl, rfl⟩, ⟨rfl, rfl⟩, ⟨rfl, rfl⟩, ⟨lit_cast (wrap_i64 (by omega) (by omega)), rfl⟩, trivial⟩ (okH_grow (fun _ => rfl) rfl rfl (okH_cons rfl rfl rfl rfl (okH_cons (cellsTo rfl (by exact ⟨rfl, grow_to rfl rfl hn_vc2 rfl rfl, trivial⟩)) rfl rfl (win_cells (by exact ⟨rfl, grow_within rfl, trivial⟩)) (okH_nil)))) rfl⟩
  ·
   rw [show 3 - i = 0 by have := of_decide_eq_false h18; omega] at hR
   refine Awp.exit ?_
   refine Awp.seq ?_
   refine Awp.freezeW 900 (encL eMember vc) ?_ [(0, sS (some l.nil) eMember l.D), (2, .ptr 2 0), (4, .ptr 4 0)] [(2, .cells [.pv (.lit (.int .i64 0)), sS (some true) eMember []]), (4, .cells [.pv (.lit (.int .i64 1)), sS (some vc.isEmpty) eMember vc])] ?_ ?_ ?_
   · rfl
   · exact ⟨⟨_, rfl, .inl (.inl rfl)⟩, ⟨_, rfl, .inl (.inl rfl)⟩, ⟨_, rfl, .inl (.inl rfl)⟩, trivial⟩
   · exact ⟨⟨(by show (2 : Nat) ≠ 900; decide), .inl rfl⟩, ⟨(by show (4 : Nat) ≠ 900; decide), .inr ⟨_, _, rfl, rfl, ⟨.inl rfl, .inr ⟨_, _, _, rfl, by rw [ne_isEmpty h2]; rfl⟩, trivial⟩⟩⟩, trivial⟩
   refine Awp.consP C ?_
   refine rvP C (.ptr 4 1) ?_
   refine rvP C (sS (some vc.isEmpty) eMember vc) ?_
   refine rvP C (.pv (.lit (.int .i64 (vc.length : Int)))) ?_
   refine rvP C (sS (some l.nil) eMember l.D) ?_
   refine rvP C (.pv (.lit (.int .i64 (l.D.length : Int)))) ?_
   refine rvP C (.pv (.lit (.bool ((vc.length : Int) != (l.D.length : Int))))) ?_
   refine rvP C (.pv (.lit (.bool ((vc.length : Int) != (l.D.length : Int))))) ?_
   refine rvc_case 37 ((vc.length : Int) != (l.D.length : Int)) rfl (fun h26 => ?_) (fun h26 => ?_)
   ·
    replace hR := of_true h26 hR
    refine rvS ?_
    refine rvS ?_
    refine rvS ?_
    refine rvP C (.pv (.lit (.bool true))) ?_
    refine rvc_nil ?_
    refine Awp.condT (b := true) rfl rfl ?_
    refine Awp.consP C ?_
    refine rvP C (.agg [.pv (.lit (.int .i64 0)), sS (some true) eMember []]) ?_
    refine rvc_un (rexec_prim C (δ := { v := .undef, wr := [(2, some (.cells [.pv (.lit (.int .i64 0)), sS (some true) eMember []]))] }) rfl rfl rfl rfl trivial rfl ?_)
    refine rvP C (.pv (.lit (.int .i64 80))) ?_
    refine rvc_nil ?_
    refine Awp.ret ?_
    subst hR
    exact ⟨.inl rfl, rfl⟩
   ·
    replace hR := of_false h26 hR
    refine rvO C (.agg [.pv (.lit (.int .i64 1)), sS (some vc.isEmpty) eMember vc]) ?_
    refine rvc_open rfl rfl rfl (rexec_call hP C rfl rfl rfl (check_calls (Chain.mk 1 (Sl.mk vc.isEmpty vc)) (by show vc.length ≤ 9223372036854775807; have := of_decide_eq_false h18; have := eq_of_bne_false h26; omega)) ?_)
    refine rvO C (.pv (.lit (.bool ((check (Chain.mk 1 (Sl.mk vc.isEmpty vc))) != 0)))) ?_
    refine rvP C (.pv (.lit (.bool ((check (Chain.mk 1 (Sl.mk vc.isEmpty vc))) != 0)))) ?_
    refine rvc_nil ?_
    refine Awp.cond (b := ((check (Chain.mk 1 (Sl.mk vc.isEmpty vc))) != 0)) rfl (fun h27 => ?_) (fun h27 => ?_)
    ·
     replace hR := of_true h27 hR
     refine Awp.consP C ?_
     refine rvP C (.agg [.pv (.lit (.int .i64 0)), sS (some true) eMember []]) ?_
     refine rvc_un (rexec_prim C (δ := { v := .undef, wr := [(2, some (.cells [.pv (.lit (.int .i64 0)), sS (some true) eMember []]))] }) rfl rfl rfl rfl trivial rfl ?_)
     refine rvP C (.pv (.lit (.int .i64 80))) ?_
     refine rvc_nil ?_
     refine Awp.ret ?_
     subst hR
     exact ⟨.inl rfl, rfl⟩
    ·
     replace hR := of_false h27 hR
     refine Awp.skip ?_
     refine Awp.consP C ?_
     refine rvP C (.agg [.pv (.lit (.int .i64 1)), sS (some vc.isEmpty) eMember vc]) ?_
     refine rvc_un (rexec_prim C (δ := { v := .undef, wr := [(2, some (.cells [.pv (.lit (.int .i64 1)), sS (some vc.isEmpty) eMember vc]))] }) rfl rfl rfl rfl trivial rfl ?_)
     refine rvP C (.pv (.lit (.int .i64 0))) ?_
     refine rvc_nil ?_
     refine Awp.ret ?_
     subst hR
     exact ⟨.inl rfl, rfl⟩
 -- !! two models: ('(bif ((vc.length : Int) != (l.D.length : Int)) then ((Chain.mk 0 (Sl.mk true [])), 80) else (bif ((check (Chain.mk 1 (Sl.mk vc.isEmpty vc))) != 0) then ((Chain.mk 0 (Sl.mk true [])), 80) else ((Chain.mk 1 (Sl.mk vc.isEmpty vc)), 0)))', 'firstC_l1 i (fun vc1 => firstC_l0 l k (i + 1) vc1) l.D 0 vc') ||| ('(bif ((vc.length : Int) != (l.D.length : Int)) then ((Chain.mk 0 (Sl.mk true [])), 80) else (bif ((check (Chain.mk 1 (Sl.mk vc.isEmpty vc))) != 0) then ((Chain.mk 0 (Sl.mk true [])), 80) else ((Chain.mk 1 (Sl.mk vc.isEmpty vc)), 0)))', 'firstC_l1 i (fun vc2 => firstC_l0 l k (i + 1) vc2) l.D 0 vc')
def indexFunc_l0 (f : Member → Bool) : List Member → Nat → Int
  | [], _ => (-1)
  | x :: xs, i => (bif (f x) then (i : Int) else indexFunc_l0 f xs (i + 1) )
def indexFunc (s : (Sl Member)) (f : Member → Bool) : Int :=
  indexFunc_l0 f s.D 0
theorem indexFunc_calls (s : (Sl Member)) (f : Member → Bool) (g1 : Nat) (caps1 : List AV) (hp1 : ∀ (x0 : Member), PCalls Try.prog g1 ([.agg [.pv (.lit (.int .i64 x0.node)), .pv (.lit (.int .i64 x0.site)), .pv (.lit (.bool x0.fresh))]] ++ caps1) (.pv (.lit (.bool (f x0))))) (hw1 : AV.withinL (fun _ => false) caps1 = true) (hl1 : s.D.length ≤ 9223372036854775807) : PCalls Try.prog 74 [sS (some s.nil) eMember s.D, .fn g1 [] caps1] (.pv (.lit (.int .i64 (indexFunc s f)))) := by
 generalize hR : indexFunc s f = R
 refine PCalls.of_body tabOk Try.func74 rfl rfl rfl (by simp [AV.withinL, AV.within, sS, hw1]) rfl mixed fun E hP C hI => ?_
 refine Awp.consP C ?_
 refine rvP C (.pv (.lit (.int .i64 0))) ?_
 refine rvc_nil ?_
 refine Awp.seq ?_
 refine Awp.consP C ?_
 refine rvP C (sS (some s.nil) eMember s.D) ?_
 refine rvP C (.pv (.lit (.int .i64 (s.D.length : Int)))) ?_
 refine rvP C (.pv (.lit (.int .i64 0))) ?_
 refine rvc_nil ?_
 refine Awp.block ?_
 refine Awp.forR (σ := Unit) (s.D.length) (fun i _v => [(0, sS (some s.nil) eMember s.D), (1, .fn g1 [] caps1), (7, .pv (.lit (.int .i64 (s.D.length : Int)))), (8, .pv (.lit (.int .i64 (i : Int))))]) (fun i _v => []) [] (fun i _v => indexFunc_l0 f (s.D.drop i) i  = R) () ?_ ?_ (fun i _v h1 hR => ?_)
 · exact hR
 · exact ⟨fun b => b, WeakerR.ofL (Ks := []) hI ⟨⟨rfl, rfl⟩, ⟨fn_to rfl hw1, fn_win hw1⟩, ⟨rfl, rfl⟩, ⟨rfl, rfl⟩, trivial⟩ (okH_nil) rfl⟩
 refine Awp.consP C ?_
 refine rvP C (.pv (.lit (.bool (decide ((i : Int) < (s.D.length : Int)))))) ?_
 refine rvc_nil ?_
 refine Awp.seq ?_
 refine Awp.cond (b := (decide ((i : Int) < (s.D.length : Int)))) rfl (fun h2 => ?_) (fun h2 => ?_)
 ·
  have h3 : i < s.D.length := by have := of_decide_eq_true h2; omega
  obtain ⟨x, h4⟩ := getX h3
  rw [drop_at h4] at hR
  refine Awp.skip ?_
  refine Awp.seq ?_
  refine Awp.block ?_
  refine Awp.consP C ?_
  refine rvP C (.pv (.lit (.int .i64 (i : Int)))) ?_
  refine rvP C (.pv (.lit (.int .i64 (i : Int)))) ?_
  refine rvc_nil ?_
  refine Awp.consP C ?_
  refine rvP C (.fn g1 [] caps1) ?_
  refine rvP C (sS (some s.nil) eMember s.D) ?_
  refine rvP C (.pv (.lit (.int .i64 (i : Int)))) ?_
  refine rvc_un (rexec_idxS C rfl rfl rfl rfl rfl rfl x (Int.natCast_nonneg _) h4 ?_)
  refine rvP C (.agg [.pv (.lit (.int .i64 x.node)), .pv (.lit (.int .i64 x.site)), .pv (.lit (.bool x.fresh))]) ?_
  refine rvc_un (rexec_callV hP C rfl rfl rfl rfl (hp1 x) rfl ?_)
  refine rvc_nil ?_
  refine Awp.cond (b := (f x)) rfl (fun h5 => ?_) (fun h5 => ?_)
  ·
   replace hR := of_true h5 hR
   refine Awp.consP C ?_
   refine rvP C (.pv (.lit (.int .i64 (i : Int)))) ?_
   refine rvP C (.pv (.lit (.int .i64 (i : Int)))) ?_
   refine rvc_nil ?_
   refine Awp.ret ?_
   subst hR
   exact ⟨.inl rfl, rfl⟩
  ·
   replace hR := of_false h5 hR
   refine Awp.skip ?_
   refine Awp.regionP C ?_
   refine rvP C (.pv (.lit (.int .i64 (IntKind.i64.wrap ((i : Int) + 1))))) ?_
   refine rvP C (.pv (.lit (.int .i64 (IntKind.i64.wrap ((i : Int) + 1))))) ?_
   refine rvc_nil ?_
   refine ⟨h3, (), ?_, ?_⟩
   · exact hR
   · exact ⟨fun b => b, WeakerR.ofL (Ks := []) hI ⟨⟨rfl, rfl⟩, ⟨fn_to rfl hw1, fn_win hw1⟩, ⟨rfl, rfl⟩, ⟨lit_cast (wrap_i64 (by omega) (by omega)), rfl⟩, trivial⟩ (okH_nil) rfl⟩
 ·
  have h3 : ¬ i < s.D.length := by have := of_decide_eq_false h2; omega
  rw [drop_end h3] at hR
  refine Awp.exit ?_
  refine Awp.consP C ?_
  refine rvP C (.pv (.lit (.int .i64 (-1)))) ?_
  refine rvc_nil ?_
  refine Awp.ret ?_
  subst hR
  exact ⟨.inl rfl, rfl⟩
def placeF (m : Member) (c0 : Int) : Bool :=
  (m.node == c0)
theorem placeF_calls (m : Member) (c0 : Int)  : PCalls Try.prog 75 [.agg [.pv (.lit (.int .i64 m.node)), .pv (.lit (.int .i64 m.site)), .pv (.lit (.bool m.fresh))], .rp [.lit (.int .i64 c0)]] (.pv (.lit (.bool (placeF m c0)))) := by
 generalize hR : placeF m c0 = R
 refine PCalls.of_body tabOk Try.func75 rfl rfl rfl rfl rfl mixed fun E hP C hI => ?_
 refine Awp.consP C ?_
 refine rvc_un (rexec_prim C (δ := { v := .ptr 2 0, new := [(2, .cells [.pv (.lit (.int .i64 m.node)), .pv (.lit (.int .i64 m.site)), .pv (.lit (.bool m.fresh))])] }) rfl rfl rfl rfl trivial rfl ?_)
 refine rvP C (.pv (.lit (.bool false))) ?_
 refine rvc_nil ?_
 refine Awp.consP C ?_
 refine rvP C (.ptr 2 0) ?_
 refine rvP C (.pv (.lit (.int .i64 m.node))) ?_
 refine rvP C (.pv (.lit (.int .i64 c0))) ?_
 refine rvP C (.pv (.lit (.bool (m.node == c0)))) ?_
 refine rvP C (.pv (.lit (.bool (m.node == c0)))) ?_
 refine rvc_nil ?_
 refine Awp.ret ?_
 subst hR
 exact ⟨.inl rfl, rfl⟩
def placeIn (c : Chain) (node : Int) : Int :=
  (indexFunc c.members (fun x0 => placeF x0 node))
theorem placeIn_calls (c : Chain) (node : Int) (hl1 : c.members.D.length ≤ 9223372036854775807) : PCalls Try.prog 65 [.agg [.pv (.lit (.int .i64 c.epoch)), sS (some c.members.nil) eMember c.members.D], .pv (.lit (.int .i64 node))] (.pv (.lit (.int .i64 (placeIn c node)))) := by
 generalize hR : placeIn c node = R
 refine PCalls.of_body tabOk Try.func65 rfl rfl rfl rfl rfl mixed fun E hP C hI => ?_
 refine Awp.consP C ?_
 refine rvc_un (rexec_prim C (δ := { v := .ptr 2 0, new := [(2, .cells [.pv (.lit (.int .i64 c.epoch)), sS (some c.members.nil) eMember c.members.D])] }) rfl rfl rfl rfl trivial rfl ?_)
 refine rvc_un (rexec_boxF C [.lit (.int .i64 node)] rfl rfl rfl rfl ?_)
 refine rvP C (.pv (.lit (.int .i64 0))) ?_
 refine rvc_nil ?_
 refine Awp.consP C ?_
 refine rvP C (.ptr 2 1) ?_
 refine rvP C (sS (some c.members.nil) eMember c.members.D) ?_
 refine rvP C (.fn 75 [] [.rp [.lit (.int .i64 node)]]) ?_
 refine rvc_un (rexec_call hP C rfl rfl rfl (indexFunc_calls c.members (fun x0 => placeF x0 node) 75 [.rp [.lit (.int .i64 node)]] (fun x0 => placeF_calls x0 node) rfl hl1) ?_)
 refine rvP C (.pv (.lit (.int .i64 (indexFunc c.members (fun x0 => placeF x0 node))))) ?_
 refine rvc_nil ?_
 refine Awp.ret ?_
 subst hR
 exact ⟨.inl rfl, rfl⟩
def rPlace_l0 (node : Int) : List Member → Nat → Int
  | [], _ => (-1)
  | x :: xs, i => (bif (x.node == node) then (i : Int) else rPlace_l0 node xs (i + 1) )
def rPlace (c : Chain) (node : Int) : Int :=
  (bif ((rCheck c) != 0) then (-1) else rPlace_l0 node c.members.D 0 )
end Go.Proofs.Ytaffaalpgpepeaa
/- Sets of small numbers as bits, in plain words. No conditions. -/
namespace Go.Proofs.Ytaffaalpgpepeaa
open Go.Am
theorem wrap64 (n : Int) : IntKind.u64.wrap n = n % 18446744073709551616 := by
  simp [IntKind.wrap, IntKind.bits, IntKind.signed]
theorem bv64 (a : Nat) (h : a < 18446744073709551616) : (BitVec.ofInt 64 (a : Int)).toNat = a := by
  rw [BitVec.toNat_ofInt]
  have : ((2 ^ 64 : Nat) : Int) = 18446744073709551616 := by decide
  rw [this]; omega
theorem or64 {a b : Nat} (ha : a < 18446744073709551616) (hb : b < 18446744073709551616) : bitI .or .u64 a b = ((a ||| b : Nat) : Int) := by
  have : a ||| b < 18446744073709551616 := Nat.or_lt_two_pow (n := 64) ha hb
  show IntKind.u64.wrap (((BitVec.ofInt 64 (a : Int) ||| BitVec.ofInt 64 (b : Int) : BitVec 64).toNat : Nat) : Int) = _
  rw [BitVec.toNat_or, bv64 a ha, bv64 b hb, wrap64]; omega
theorem and64 {a b : Nat} (ha : a < 18446744073709551616) (hb : b < 18446744073709551616) : bitI .and .u64 a b = ((a &&& b : Nat) : Int) := by
  have : a &&& b < 18446744073709551616 := Nat.lt_of_le_of_lt Nat.and_le_left ha
  show IntKind.u64.wrap (((BitVec.ofInt 64 (a : Int) &&& BitVec.ofInt 64 (b : Int) : BitVec 64).toNat : Nat) : Int) = _
  rw [BitVec.toNat_and, bv64 a ha, bv64 b hb, wrap64]; omega
theorem shr64 {a n : Nat} (hn : n < 64) : shrI .u64 (a : Int) (n : Int) = ((a >>> n : Nat) : Int) := by
  show (a : Int) / 2 ^ (min ((n : Int).toNat) 64) = _
  rw [Int.toNat_natCast, Nat.min_eq_left (by omega), Nat.shiftRight_eq_div_pow]
  simp
theorem shl64 {n : Nat} (hn : n < 64) : shlI .u64 1 (n : Int) = ((2 ^ n : Nat) : Int) := by
  show IntKind.u64.wrap (1 * 2 ^ (min ((n : Int).toNat) 64)) = _
  have h : 2 ^ n < 2 ^ 64 := Nat.pow_lt_pow_right (by decide) hn
  have h' : (2 : Nat) ^ 64 = 18446744073709551616 := by decide
  rw [Int.toNat_natCast, Nat.min_eq_left (by omega), wrap64, Int.one_mul]
  have e : (2 : Int) ^ n = ((2 ^ n : Nat) : Int) := by simp
  rw [e]
  rw [h'] at h
  clear e h'
  generalize (2 : Nat) ^ n = p at h ⊢
  omega
theorem in_nat {n : Nat} : mIn (n : Int) = decide (n < 64) := by
  unfold mIn
  have h0 : decide ((n : Int) ≥ 0) = true := by simp
  rw [h0]
  simp only [cond_true]
  congr 1
  exact propext ⟨fun h => by omega, fun h => by omega⟩
theorem has_nat {S n : Nat} (hS : S < 18446744073709551616) (hn : n < 64) : mHas (S : Int) (n : Int) = S.testBit n := by
  unfold mHas
  have hlt : S >>> n < 18446744073709551616 := Nat.lt_of_le_of_lt (Nat.shiftRight_le _ _) hS
  have h1 : (1 : Int) = ((1 : Nat) : Int) := rfl
  rw [in_nat, decide_eq_true hn, cond_true, shr64 hn, h1, and64 hlt (by decide)]
  rw [Nat.testBit_eq_decide_div_mod_eq, Nat.and_one_is_mod, Nat.shiftRight_eq_div_pow]
  by_cases h : S / 2 ^ n % 2 = 1
  · simp [h]
  · have : S / 2 ^ n % 2 = 0 := by omega
    simp [this]
theorem with_nat {S n : Nat} (hS : S < 18446744073709551616) (hn : n < 64) : mWith (S : Int) (n : Int) = ((S ||| 2 ^ n : Nat) : Int) := by
  unfold mWith
  have h : 2 ^ n < 2 ^ 64 := Nat.pow_lt_pow_right (by decide) hn
  have h' : (2 : Nat) ^ 64 = 18446744073709551616 := by decide
  rw [in_nat, decide_eq_true hn, Bool.not_true, cond_false, shl64 hn, or64 hS (by omega)]
theorem with_lt {S n : Nat} (hS : S < 18446744073709551616) (hn : n < 64) : S ||| 2 ^ n < 18446744073709551616 :=
  Nat.or_lt_two_pow (n := 64) hS (Nat.pow_lt_pow_right (by decide) hn)
theorem with_out {s n : Int} (h : mIn n = false) : mWith s n = s := by unfold mWith; rw [h]; rfl
theorem has_with {S n m : Nat} (hS : S < 18446744073709551616) (hn : n < 64) (hm : m < 64) : mHas (mWith (S : Int) (n : Int)) (m : Int) = (mHas (S : Int) (m : Int) || decide (n = m)) := by
  rw [with_nat hS hn, has_nat (with_lt hS hn) hm, has_nat hS hm, Nat.testBit_or, Nat.testBit_two_pow]
end Go.Proofs.Ytaffaalpgpepeaa
/- What the checks of chains, and places in them, say, in plain words. No conditions. -/
namespace Go.Proofs.Ytaffaalpgpepeaa
open Go.Am
theorem bif_const {a : Bool} {x y z : Int} (hx : x ≠ z) (h : (bif a then x else y) = z) : a = false ∧ y = z := by
  cases a
  · exact ⟨rfl, h⟩
  · exact absurd h hx
theorem check_len {c : Chain} (h : check c = 0) : 0 < c.members.D.length := by
  unfold check at h
  obtain ⟨_, h⟩ := bif_const (by decide) h
  obtain ⟨_, h⟩ := bif_const (by decide) h
  obtain ⟨h3, h⟩ := bif_const (by decide) h
  have := ne_of_beq_false h3
  omega
theorem indexFunc_l0_lt (f : Member → Bool) : ∀ (l : List Member) (i : Nat), indexFunc_l0 f l i < ((i + l.length : Nat) : Int) ∧ -1 ≤ indexFunc_l0 f l i
  | [], i => by simp only [indexFunc_l0, List.length_nil]; omega
  | x :: l, i => by
    have := indexFunc_l0_lt f l (i + 1)
    simp only [indexFunc_l0, List.length_cons]
    cases f x <;> simp only [cond_true, cond_false] <;> omega
theorem placeIn_lt (c : Chain) (n : Int) : placeIn c n < (c.members.D.length : Int) ∧ -1 ≤ placeIn c n := by
  have := indexFunc_l0_lt (fun x0 => placeF x0 n) c.members.D 0
  simp only [placeIn, indexFunc]; omega
def place0 (c : Chain) (node : Int) : Int :=
  (bif ((check c) != 0) then (-1) else (placeIn c node))
theorem nil_false {α : Type} {b : Bool} {D : List α} (h : b = true → D = []) (hl : 0 < D.length) : b = false := by
  cases b
  · rfl
  · rw [h rfl] at hl; simp at hl
theorem clone_hn (s : Sl Member) (h : (cloneMembers s).nil = true) : (cloneMembers s).D = [] := by
  unfold cloneMembers at h ⊢
  cases hs : s.nil
  · rw [hs] at h; cases h
  · rfl
theorem clone_len (s : Sl Member) : (cloneMembers s).D.length ≤ s.D.length := by
  unfold cloneMembers
  cases hs : s.nil
  · exact Nat.le_refl _
  · exact Nat.zero_le _
end Go.Proofs.Ytaffaalpgpepeaa
/- The program's check of chains is the document's; so is whether two are the same. No conditions. -/
namespace Go.Proofs.Ytaffaalpgpepeaa
open Go.Am
/-- May members stand behind others? -/
def okFrom (pre : List Member) : List Member → Bool
  | [] => true
  | x :: xs => member x && pre.all (fun y => !(y.node == x.node) && !(decide (y.site > x.site))) && okFrom (pre ++ [x]) xs
theorem member_iff (m : Member) : member m = true ↔ 0 ≤ m.node ∧ m.node ≤ 5 ∧ 0 ≤ m.site ∧ m.site ≤ 2 := by
  unfold member
  by_cases h1 : m.node ≥ 0 <;> by_cases h2 : m.node < 6 <;> by_cases h3 : m.site ≥ 0 <;> by_cases h4 : m.site < 3 <;> simp [h1, h2, h3, h4] <;> omega
theorem rCheck_l1_eq (x : Member) (kk : Int) : ∀ (l : List Member) (i : Nat), rCheck_l1 x kk l i = bif l.all (fun y => !(y.node == x.node) && !(decide (y.site > x.site))) then kk else 80
  | [], _ => rfl
  | y :: l, i => by
    simp only [rCheck_l1, List.all_cons]
    cases h1 : y.node == x.node
    · cases h2 : decide (y.site > x.site)
      · simp [rCheck_l1_eq x kk l (i + 1)]
      · simp
    · simp
theorem rCheck_l0_eq (c : Chain) : ∀ (xs : List Member) (i : Nat), xs = c.members.D.drop i → rCheck_l0 c xs i = bif okFrom (c.members.D.take i) xs then 0 else 80
  | [], i, _ => rfl
  | x :: xs, i, h => by
    have hi : c.members.D[i]? = some x := by
      have := congrArg (fun l => l[0]?) h
      simpa using this.symm
    have hx : xs = c.members.D.drop (i + 1) := by
      have := drop_at hi
      rw [← h] at this
      simpa using this
    have ht : c.members.D.take i ++ [x] = c.members.D.take (i + 1) := by
      rw [List.take_add_one, hi]; rfl
    have ih := rCheck_l0_eq c xs (i + 1) hx
    simp only [rCheck_l0, okFrom, ht, rCheck_l1_eq, ih]
    by_cases hm : member x = true
    · have := (member_iff x).1 hm
      rw [hm]
      have e1 : decide (x.node < 0) = false := by simp; omega
      have e2 : decide (x.node > 5) = false := by simp; omega
      have e3 : decide (x.site < 0) = false := by simp; omega
      have e4 : decide (x.site > 2) = false := by simp; omega
      rw [e1, e2, e3, e4]
      simp only [cond_false, Bool.true_and]
      cases (c.members.D.take i).all (fun y => !(y.node == x.node) && !(decide (y.site > x.site))) <;> simp
    · have hm' : member x = false := by simpa using hm
      rw [hm']
      have : x.node < 0 ∨ x.node > 5 ∨ x.site < 0 ∨ x.site > 2 := by
        have := mt (member_iff x).2 hm
        omega
      simp only [Bool.false_and, cond_false]
      by_cases e1 : x.node < 0
      · simp [e1]
      · by_cases e2 : x.node > 5
        · simp [e1, e2]
        · by_cases e3 : x.site < 0
          · simp [e1, e2, e3]
          · have e4 : x.site > 2 := by omega
            simp [e1, e2, e3, e4]
/-- What the program's loop knows of those ahead. -/
structure Inv (pre : List Member) (S : Nat) (site : Int) : Prop where
  lt : S < 18446744073709551616
  has : ∀ n : Nat, n < 6 → mHas (S : Int) (n : Int) = pre.any (fun y => y.node == (n : Int))
  le : ∀ y ∈ pre, y.site ≤ site
  at_ : site = 0 ∨ ∃ y ∈ pre, y.site = site
theorem check_l0_eq : ∀ (xs pre : List Member) (i S : Nat) (site : Int), Inv pre S site → check_l0 xs i (S : Int) site = bif okFrom pre xs then 0 else 80
  | [], _, _, _, _, _ => rfl
  | x :: xs, pre, i, S, site, inv => by
    simp only [check_l0, okFrom]
    by_cases hm : member x = true
    · obtain ⟨m1, m2, m3, m4⟩ := (member_iff x).1 hm
      rw [hm]
      simp only [Bool.not_true, cond_false, Bool.true_and]
      obtain ⟨k, hk⟩ : ∃ k : Nat, x.node = (k : Int) := ⟨x.node.toNat, by omega⟩
      have hk6 : k < 6 := by omega
      have hh := inv.has k hk6
      rw [hk, hh]
      cases ha : pre.any (fun y => y.node == (k : Int))
      · simp only [cond_false]
        by_cases hs : x.site < site
        · have : pre.all (fun y => !(y.node == (k : Int)) && !(decide (y.site > x.site))) = false := by
            rcases inv.at_ with h0 | ⟨y, hy, he⟩
            · omega
            · rw [Bool.eq_false_iff]
              intro hall
              have := List.all_eq_true.1 hall y hy
              simp at this
              omega
          simp [hs, this]
        · have hall : pre.all (fun y => !(y.node == (k : Int)) && !(decide (y.site > x.site))) = true := by
            rw [List.all_eq_true]
            intro y hy
            have h1 : (y.node == (k : Int)) = false := by
              rw [Bool.eq_false_iff]
              intro he
              rw [Bool.eq_false_iff] at ha
              exact ha (List.any_eq_true.2 ⟨y, hy, he⟩)
            have := inv.le y hy
            simp [h1]; omega
          have hs' : decide (x.site < site) = false := by simp; omega
          rw [hall, hs', with_nat inv.lt (by omega)]
          simp only [cond_false, Bool.true_and]
          refine check_l0_eq xs (pre ++ [x]) (i + 1) _ _ ⟨with_lt inv.lt (by omega), fun n hn => ?_, fun y hy => ?_, .inr ⟨x, by simp, rfl⟩⟩
          · rw [← with_nat inv.lt (by omega), has_with inv.lt (by omega) (by omega), inv.has n hn, List.any_append]
            congr 1
            simp only [List.any_cons, List.any_nil, Bool.or_false, hk]
            by_cases h : k = n
            · subst h; simp
            · have : ¬ ((k : Int) = (n : Int)) := by omega
              simp [h, this]
          · rcases List.mem_append.1 hy with hy | hy
            · have := inv.le y hy; omega
            · simp only [List.mem_singleton] at hy; subst hy; exact Int.le_refl _
      · simp only [cond_true]
        have : pre.all (fun y => !(y.node == (k : Int)) && !(decide (y.site > x.site))) = false := by
          obtain ⟨y, hy, he⟩ := List.any_eq_true.1 ha
          rw [Bool.eq_false_iff]
          intro hall
          have := List.all_eq_true.1 hall y hy
          simp at this he
          exact this.1 he
        simp [this]
    · have hm' : member x = false := by simpa using hm
      rw [hm']; rfl
def hasN (pre : List Member) (n : Int) : Nat := (pre.any fun y => y.node == n).toNat
def cnt (pre : List Member) : Nat := hasN pre 0 + hasN pre 1 + hasN pre 2 + hasN pre 3 + hasN pre 4 + hasN pre 5
theorem hasN_le (pre : List Member) (n : Int) : hasN pre n ≤ 1 := by unfold hasN; cases pre.any fun y => y.node == n <;> simp
theorem cnt_step {pre : List Member} {x : Member} (h0 : 0 ≤ x.node) (h5 : x.node ≤ 5) (ha : pre.any (fun y => y.node == x.node) = false) : cnt (pre ++ [x]) = cnt pre + 1 := by
  have key : ∀ n : Int, hasN (pre ++ [x]) n = if x.node = n then 1 else hasN pre n := fun n => by
    unfold hasN
    rw [List.any_append]
    simp only [List.any_cons, List.any_nil, Bool.or_false]
    by_cases h : x.node = n
    · subst h; simp
    · have : (x.node == n) = false := by simpa using h
      rw [this]; simp [h]
  have hz : hasN pre x.node = 0 := by unfold hasN; rw [ha]; rfl
  simp only [cnt, key]
  rcases (by omega : x.node = 0 ∨ x.node = 1 ∨ x.node = 2 ∨ x.node = 3 ∨ x.node = 4 ∨ x.node = 5) with h | h | h | h | h | h <;> rw [h] at hz ⊢ <;> simp [hz] <;> omega
theorem ok_len : ∀ (xs pre : List Member), okFrom pre xs = true → pre.length = cnt pre → pre.length + xs.length ≤ 6
  | [], pre, _, hc => by
    have := hasN_le pre 0; have := hasN_le pre 1; have := hasN_le pre 2; have := hasN_le pre 3; have := hasN_le pre 4; have := hasN_le pre 5
    simp only [List.length_nil, hc, cnt]; omega
  | x :: xs, pre, h, hc => by
    simp only [okFrom, Bool.and_eq_true] at h
    obtain ⟨⟨h1, h2⟩, h3⟩ := h
    obtain ⟨m1, m2, _, _⟩ := (member_iff x).1 h1
    have ha : pre.any (fun y => y.node == x.node) = false := by
      rw [Bool.eq_false_iff]
      intro he
      obtain ⟨y, hy, he⟩ := List.any_eq_true.1 he
      have := List.all_eq_true.1 h2 y hy
      rw [he] at this
      simp at this
    have := ok_len xs (pre ++ [x]) h3 (by rw [cnt_step m1 m2 ha, List.length_append, hc]; rfl)
    simp only [List.length_append, List.length_cons, List.length_nil] at this ⊢
    omega
theorem check_eq (c : Chain) : check c = rCheck c := by
  unfold check rCheck
  have h1 : check_l0 c.members.D 0 0 0 = bif okFrom [] c.members.D then 0 else 80 := check_l0_eq c.members.D [] 0 0 0 ⟨by decide, fun n hn => by
    have := has_nat (S := 0) (n := n) (by decide) (by omega)
    rw [this]; simp, fun y hy => (by cases hy), .inl rfl⟩
  have h2 : rCheck_l0 c c.members.D 0 = bif okFrom [] c.members.D then 0 else 80 := rCheck_l0_eq c c.members.D 0 rfl
  rw [h1, h2]
  cases decide (c.epoch < 1) <;> cases decide (c.epoch > 1099511627776) <;> cases ((c.members.D.length : Int) == 0) <;> simp only [cond_true, cond_false]
  cases hd : decide ((c.members.D.length : Int) > 6)
  · rfl
  · have hl : c.members.D.length > 6 := by have := of_decide_eq_true hd; omega
    cases ho : okFrom [] c.members.D
    · simp
    · have := ok_len c.members.D [] ho rfl
      simp at this; omega
theorem rCheck_le6 {c : Chain} (h : rCheck c = 0) : c.members.D.length ≤ 6 := by
  unfold rCheck at h
  obtain ⟨_, h⟩ := bif_const (by decide) h
  obtain ⟨_, h⟩ := bif_const (by decide) h
  obtain ⟨_, h⟩ := bif_const (by decide) h
  obtain ⟨h4, h⟩ := bif_const (by decide) h
  have := of_decide_eq_false h4
  omega
theorem check_le6 {c : Chain} (h : check c = 0) : c.members.D.length ≤ 6 := rCheck_le6 (by rw [← check_eq]; exact h)
end Go.Proofs.Ytaffaalpgpepeaa
/- slices.Clone, once more. No conditions. -/
namespace Go.Proofs.Ytaffaalpgpepeaa
open Go.Am
def cloneO (s : (Sl Member)) : List Member :=
  s.D
theorem cloneO_calls (s : (Sl Member)) (hn : s.nil = false) (hl1 : s.D.length ≤ 1000000) : OCalls Try.prog 12 [sS (some s.nil) eMember s.D] (.sl 0 0 (cloneO s).length 3 false) (.cells (encC eMember (cloneO s))) := by
 generalize hR : cloneO s = R
 refine OCalls.of_body tabOk Try.func12 rfl rfl rfl rfl rfl (encC_within _ _) mixed fun E hP C hI => ?_
 refine Awp.consP C ?_
 refine rvP C (sS (some true) eMember []) ?_
 refine rvc_nil ?_
 refine Awp.seq ?_
 refine Awp.consP C ?_
 refine rvP C (sS (some s.nil) eMember s.D) ?_
 refine rvc_un (rexec_eqNil C (f := s.nil) rfl rfl rfl rfl ?_)
 refine rvc_nil ?_
 refine Awp.condF (b := s.nil) rfl hn ?_
 refine Awp.skip ?_
 refine Awp.consP C ?_
 refine rvc_un (rexec_prim C (δ := { v := .sl 5 0 0 3 true, new := [(5, .cells (encC eMember []))] }) rfl rfl rfl rfl trivial rfl ?_)
 refine rvP C (sS (some s.nil) eMember s.D) ?_
 refine rvc_un (rexec_append C rfl rfl rfl rfl rfl rfl rfl rfl (fun _ h => by cases h) rfl (en := eMember) (D0 := []) (D := s.D) rfl rfl rfl rfl (by first | omega | (simp <;> omega)) (by decide) (nn := s.D.length) (by simp) ?_)
 refine rvP C (.sl 7 0 s.D.length 3 false) ?_
 refine rvc_nil ?_
 refine Awp.weakenR (S := [(2, .sl 0 0 s.D.length 3 false)]) (H := [(0, .cells (encC eMember s.D))]) (U := [0]) (fun x => bif x == 0 then 7 else x) (WeakerR.ofL (Ks := [0]) hI ⟨⟨rfl, rfl⟩, trivial⟩ (okH_list rfl rfl rfl okH_nil) rfl) ?_
 refine Awp.ret ?_
 subst hR
 exact ⟨.inl rfl, rfl, rfl⟩
end Go.Proofs.Ytaffaalpgpepeaa
