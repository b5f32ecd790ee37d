import Derived.Test.YtpgenmflgdkfiaaM2
/- An abstract machine over the kit's calls, part 29: calls that take a row of one's own and give one; contents of rows that are copied about in. No conditions. -/
namespace Go.Am
section lists
variable {α : Type} {e : Enc α}
theorem setRange_app {A B M Z : List AV} (h : M.length ≤ Z.length) : setRange (setRange (A ++ B ++ Z) (A.length + M.length) B) A.length M = A ++ M ++ B ++ Z.drop M.length := by
  have h1 : (A ++ B ++ Z).drop (A.length + M.length + B.length) = Z.drop M.length := by
    rw [show A.length + M.length + B.length = (A ++ B).length + M.length by simp; omega, List.drop_length_add_append]
  have hP : ∃ P : List AV, P.length = M.length ∧ (A ++ B ++ Z).take (A.length + M.length) = A ++ P := by
    refine ⟨(B ++ Z).take M.length, by simp; omega, ?_⟩
    rw [List.append_assoc, List.take_length_add_append]
  obtain ⟨P, p1, p2⟩ := hP
  simp only [setRange, h1, p2]
  rw [show A ++ P ++ B ++ Z.drop M.length = A ++ (P ++ (B ++ Z.drop M.length)) by simp, List.take_left, show A.length + M.length = A.length + P.length by omega, List.drop_length_add_append, List.drop_left]
  simp
theorem set_mid {A B B' C : List α} (h : B'.length = B.length) {k : Nat} (hk : k = A.length * e.sz) : setRange (encC e (A ++ B ++ C)) k (encC e B') = encC e (A ++ B' ++ C) := by
  subst hk
  rw [encC_append, encC_append, encC_append, encC_append]
  have hl : (encC e A).length = A.length * e.sz := encC_len A
  have hb : (encC e B').length = (encC e B).length := by rw [encC_len, encC_len, h]
  simp only [setRange, ← hl]
  rw [show encC e A ++ encC e B ++ encC e C = encC e A ++ (encC e B ++ encC e C) by simp, List.take_left, hb, List.drop_length_add_append, List.drop_left]
theorem encC_dropN (D : List α) (i : Nat) : (encC e D).drop (i * e.sz) = encC e (D.drop i) := by simp only [encC, ← List.map_drop, encL_drop]
theorem encC_takeN (D : List α) (i : Nat) : (encC e D).take (i * e.sz) = encC e (D.take i) := by simp only [encC, ← List.map_take, encL_take]
theorem encC_takeAll (D : List α) {k : Nat} (h : D.length * e.sz ≤ k) : (encC e D).take k = encC e D := List.take_of_length_le (by rw [encC_len]; exact h)
/-- What is behind a place of a row with room behind it. -/
theorem tail_of {D : List α} {Z : List AV} {i k j : Nat} (hi : i ≤ D.length) (hk : D.length - i ≤ k) (hj : j = (D.length - i) * e.sz) : (((encC e D ++ Z).drop (0 + i * e.sz)).take (k * e.sz)).take j = encC e (D.drop i) := by
  subst hj
  have hle : i * e.sz ≤ (encC e D).length := by rw [encC_len]; exact Nat.mul_le_mul_right _ hi
  rw [Nat.zero_add, List.drop_append_of_le_length hle, encC_dropN, List.take_take]
  have hl : (encC e (D.drop i)).length = (D.length - i) * e.sz := by rw [encC_len, List.length_drop]
  rw [Nat.min_eq_left (Nat.mul_le_mul_right _ hk), ← hl, List.take_left]
theorem delta_int {k : IntKind} {a b : Int} (h : a = b) : ({ v := .pv (.lit (.int k a)) } : Delta) = { v := .pv (.lit (.int k b)) } := by rw [h]
def insertL (D : List α) (i : Nat) (M : List α) : List α := D.take i ++ M ++ D.drop i
theorem insertL_len {D M : List α} {i : Nat} (h : i ≤ D.length) : (insertL D i M).length = D.length + M.length := by simp [insertL]; omega
/-- .. done in place. -/
theorem insert_inplace {D M : List α} {Z : List AV} {i : Nat} (hi : i ≤ D.length) (hZ : M.length * e.sz ≤ Z.length) : setRange (setRange (encC e D ++ Z) ((i + M.length) * e.sz) (encC e (D.drop i))) (i * e.sz) (encC e M) = encC e (insertL D i M) ++ Z.drop (M.length * e.sz) := by
  have hA : (encC e (D.take i)).length = i * e.sz := by rw [encC_len, List.length_take, Nat.min_eq_left hi]
  have hM : (encC e M).length = M.length * e.sz := encC_len M
  have hD : encC e D = encC e (D.take i) ++ encC e (D.drop i) := by rw [← encC_append, List.take_append_drop]
  rw [hD, Nat.add_mul, ← hA, ← hM, setRange_app (by rw [hM]; exact hZ)]
  simp only [insertL, encC_append]
end lists
section steps
variable {E : Env} {T : Tab} {cq : Oper → Cls} {n : Nat} {ops : Array Oper}
/-- The capacity of a slice over an own row is looked at. -/
theorem Awp.capOf {c : Code} {st : St} {Q : Exit → St → Prop} (t b m s : Nat) (tt : Bool) (cs : List AV) (ht : st.S t = some (.sl b 0 m s tt)) (hb : st.H b = some (.cells cs)) (hl : cs.length = m * s) (h : ∀ k, m ≤ k → Awp E c (st.set t (.slc b 0 m s k)) Q) : Awp E c st Q := fun a w hat => by
  obtain ⟨k, h1, h2, _⟩ := hat.openCap ht hb hl
  exact h k h1 a w h2
/-- What lies behind the elements is anything. -/
theorem At.extend {st : St} {a : Act} {w : World} (h : At E st a w) {t b m s k : Nat} {cs : List AV} (ht : st.S t = some (.slc b 0 m s k)) (hb : st.H b = some (.cells cs)) (hl : cs.length ≤ k * s) : At E ⟨st.S, fun x => if x = b then some (.cells (cs ++ List.replicate (k * s - cs.length) .undef)) else st.H x, st.U⟩ a w := by
  obtain ⟨ι, imm, h⟩ := h
  have h0 := h.slot t _ ht
  simp only [VH] at h0
  obtain ⟨r, z, i1, i2, i3, i5⟩ := h0
  refine ⟨ι, imm, { h with heap := ⟨fun x q hx => ?_, fun x x' q q' r1 z1 z2 hx hx' => ?_⟩ }⟩
  · by_cases e : x = b
    · subst e
      simp only [if_true] at hx
      obtain rfl := Option.some.inj hx
      obtain ⟨r', z', p1, p2, p3, c1, e1, f1, q1, q2, q3, q4⟩ := h.heap.blk x _ hb
      rw [i1] at p1
      simp only [Option.some.injEq, Prod.mk.injEq] at p1
      obtain ⟨rfl, rfl⟩ := p1
      obtain ⟨c2, e2, f2, s1, s2⟩ := i5
      rw [q1] at s1
      simp only [Option.some.injEq, Obj.cells.injEq] at s1
      obtain ⟨rfl, rfl, rfl⟩ := s1
      refine ⟨r, z, i1, p2, p3, c1, e1, f1, q1, ?_, q3, CellsH.app q4 (CellsH.undefs ?_)⟩
      · rw [List.length_append, List.length_replicate]; omega
      · omega
    · simp only [if_neg e] at hx
      exact h.heap.blk x q hx
  · have key : ∀ y k', (if y = b then some (Blk.cells (cs ++ List.replicate (k * s - cs.length) .undef)) else st.H y) = some k' → ∃ k', st.H y = some k' := fun y k' hy => by
      by_cases e : y = b
      · subst e; exact ⟨_, hb⟩
      · rw [if_neg e] at hy; exact ⟨k', hy⟩
    obtain ⟨k1, hk1⟩ := key x q hx
    obtain ⟨k2, hk2⟩ := key x' q' hx'
    exact h.heap.inj x x' k1 k2 r1 z1 z2 hk1 hk2
theorem Awp.extend {c : Code} {st : St} {Q : Exit → St → Prop} (t b m s k : Nat) (cs : List AV) (ht : st.S t = some (.slc b 0 m s k)) (hb : st.H b = some (.cells cs)) (hl : cs.length ≤ k * s) (h : Awp E c ⟨st.S, fun x => if x = b then some (.cells (cs ++ List.replicate (k * s - cs.length) .undef)) else st.H x, st.U⟩ Q) : Awp E c st Q := fun a w hat => h a w (hat.extend ht hb hl)
theorem CellsH.left {ι : Nat → Option (Nat × Nat)} {imm : Nat → Prop} {w : World} {c : Array Value} : ∀ {xs ys : List AV} {o : Nat}, CellsH ι imm w c (xs ++ ys) o → CellsH ι imm w c xs o
  | [], _, _, _ => trivial
  | _ :: _, _, _, h => ⟨h.1, CellsH.left h.2⟩
/-- What lies behind is forgotten. -/
theorem At.trim {st : St} {a : Act} {w : World} (h : At E st a w) {b : Nat} {xs ys : List AV} (hb : st.H b = some (.cells (xs ++ ys))) : At E ⟨st.S, fun x => if x = b then some (.cells xs) else st.H x, st.U⟩ a w := by
  obtain ⟨ι, imm, h⟩ := h
  refine ⟨ι, imm, { h with heap := ⟨fun x k hx => ?_, fun x x' k k' r1 z1 z2 hx hx' => ?_⟩ }⟩
  · by_cases e : x = b
    · subst e
      simp only [if_true] at hx
      obtain rfl := Option.some.inj hx
      obtain ⟨r', z', p1, p2, p3, c1, e1, f1, q1, q2, q3, q4⟩ := h.heap.blk x _ hb
      exact ⟨r', z', p1, p2, p3, c1, e1, f1, q1, by rw [List.length_append] at q2; omega, q3, CellsH.left q4⟩
    · simp only [if_neg e] at hx
      exact h.heap.blk x k hx
  · have key : ∀ y k', (if y = b then some (Blk.cells xs) else st.H y) = some k' → ∃ k', st.H y = some k' := fun y k' hy => by
      by_cases e : y = b
      · subst e; exact ⟨_, hb⟩
      · rw [if_neg e] at hy; exact ⟨k', hy⟩
    obtain ⟨k1, hk1⟩ := key x k hx
    obtain ⟨k2, hk2⟩ := key x' k' hx'
    exact h.heap.inj x x' k1 k2 r1 z1 z2 hk1 hk2
theorem Awp.trim {c : Code} {st : St} {Q : Exit → St → Prop} (b : Nat) (xs ys : List AV) (hb : st.H b = some (.cells (xs ++ ys))) (h : Awp E c ⟨st.S, fun x => if x = b then some (.cells xs) else st.H x, st.U⟩ Q) : Awp E c st Q := fun a w hat => h a w (hat.trim hb)
theorem WeakerR.ofLI {E : Env} {st : St} {τ : Nat → Nat} {S : List (Nat × AV)} {H : List (Nat × Blk)} {U Ks I : List Nat} (hI : E.I = I) (h1 : okS st.S τ U S) (h2 : okH st.H τ U Ks H) (h5 : (Ks.all fun x => Ks.all fun y => !(τ x == τ y) || x == y) = true) (h6 : (I.all fun b => U.contains b && τ b == b) = true) : WeakerR st τ S H U E.I :=
  ⟨fun x hx => (okS_mem h1 x hx).1, fun x hx => (h2 x hx).1, List.all_eq_true.2 fun x hx => (okS_mem h1 x hx).2, List.all_eq_true.2 fun x hx => by rw [Bool.and_eq_true]; exact ⟨(h2 x hx).2.2.1, (h2 x hx).2.2.2⟩, fun x hx y hy e => by
    have := List.all_eq_true.1 (List.all_eq_true.1 h5 x.1 (by simpa using (h2 x hx).2.1)) y.1 (by simpa using (h2 y hy).2.1)
    simpa [e] using this, by rw [hI]; exact h6⟩
/-- A call that takes a row (block 0) and gives one (block 1). -/
structure TCalls (P : Program) (f : FuncId) (avs : List AV) (k : Blk) (av : AV) (k' : Blk) : Prop where
  fn : ∃ fn, P.funcs[f]? = some fn ∧ (fn.name == "runtime.NumGoroutine") = false ∧ fn.body.isNone = false
  args : AV.withinL (fun b => b == 0) avs = true
  res : av.within (fun b => b == 1) = true
  blk : k.within (fun _ => false) = true
  blk' : k'.within (fun _ => false) = true
  calls : ACalls P f [0] avs [(0, k)] av [(1, k')]
theorem TCalls.of_body {P : Program} {T : Tab} (hT : TabOk P T) {f : FuncId} {fn : Func} {body : Code} (hf : P.funcs[f]? = some fn) (hb : fn.body = some body) (hn : (fn.name == "runtime.NumGoroutine") = false) {avs : List AV} {k k' : Blk} {av : AV} (hl : decide (avs.length ≤ fn.ntmps) = true) (ha : AV.withinL (fun b => b == 0) avs = true) (hr : av.within (fun b => b == 1) = true) (hk : k.within (fun _ => false) = true) (hk' : k'.within (fun _ => false) = true) (hm : P.follows .mixedOrders = true)
    (h : ∀ E : Env, E.P = P → Cx E T fn.ntmps → E.I = [0] → Awp E body (entry avs [(0, k)] [0]) fun e st => (e = .ret ∨ e = .normal) ∧ resAV T st fn.results.toList = some av ∧ st.H 1 = some k') : TCalls P f avs k av k' where
  fn := ⟨fn, hf, hn, by simp [hb]⟩
  args := ha
  res := hr
  blk := hk
  blk' := hk'
  calls := ACalls.of_body hT hf hb (by simpa using hl) fun E hP hE hI => (h E hP ⟨hP ▸ hT, hE, hP ▸ hm⟩ hI).mono fun e st ⟨h1, h2, h3⟩ => ⟨h1, h2, fun x hx => by
    simp only [List.mem_singleton] at hx
    subst hx; exact h3⟩
theorem h_slc {U : Nat → Bool} {b n n' s c : Nat} {p : PV} (h : AV.withinL U [.slc b 0 n s c, .pv p] = true) : (AV.slc b 0 n' s c).within U = true := by
  simpa [AV.withinL, AV.within] using h
theorem rexec_appendZ (C : Cx E T n) {d : Nat} {c : Call} {t t2 : TypeId} {ty : TypeId} {pos : String} {af : Array Edge} {g : Option (Nat × Bool)} {st : St} {K : St → Prop} (hc : c.callee = .builtin .append) (hty : c.argTypes = #[t, t2]) (h1 : dstB n ⟨some d, .call c, ty, pos, af, g⟩ = true) (hU : st.U d = false)
    {r re r2 : TyRow} (hr : T.lookup t = some r) {te : TypeId} (hdesc : r.desc = .slice te) (hre : T.lookup te = some re) (hr2 : T.lookup t2 = some r2) {kd : IntKind} (hd2 : r2.desc = .int kd)
    {α : Type} {e : Enc α} (a : α) (D : List α) (i k : Nat) {b s : Nat} {kk : IntKind} (hs : re.size = e.sz) (hv : evls st.S c.args.toList = some [.slc b 0 i re.size s, .pv (.lit (.int kk (k : Int)))]) (hb : st.H b = some (.cells (encC e D))) (hi : i ≤ D.length) (hk : 0 < k) (hroom : s < i + k) (hbig : (2 * (i + k) + 192) * re.bytes ≤ 281474976710656) (hpos : 0 < re.bytes) (hsz : 0 < re.size) (hzs : re.zero.cells.size = re.size) (hz : re.zero.cells.toList.map constCell = (e.enc a).map .pv)
    (h7 : K (st.after (some d) { v := .sl d 0 (i + k) re.size false, new := [(d, .cells (encC e (D.take i ++ List.replicate k a)))] })) (hcl : clsOf cq ⟨some d, .call c, ty, pos, af, g⟩ = .writer := by rfl) : rexec E cq n ⟨some d, .call c, ty, pos, af, g⟩ st K := by
  have hd : d < E.n := by
    simp only [dstB, decide_eq_true_eq] at h1
    exact C.n ▸ h1
  have hdo := does_appendZ C.tab (o := ⟨some d, .call c, ty, pos, af, g⟩) rfl hc hty rfl hd hr hdesc hre hr2 hd2 (b := b) (i := i) (k := k) (s := s) (kk := kk) (cs := encC e D) hk hroom (by rw [encC_len, hs]; exact Nat.mul_le_mul_right _ hi) hsz hbig hpos hzs
  rw [hs, encC_takeN, zeroAV_rep (by rw [hzs, hs]) hz, ← encC_append, ← hs] at hdo
  have hops : (Op.operands (.call c)).toList = c.args.toList := by simp [Op.operands, Call.operands, hc]
  refine ⟨h1, _, _, _, { vals := ?_, deps := ?_, fresh := ?_, does := hdo, reach := ?_, inV := ?_, inN := ?_, inW := ?_, wr := ?_, pure := fun h => ?_, quiet := fun h => ?_, foot := by rw [hcl]; rfl }, h7⟩
  · show evls st.S (Op.operands (.call c)).toList = _
    rw [hops]; exact hv
  · intro x hx; simp only [List.mem_singleton] at hx; subst hx; exact hb
  · intro x hx; simp only [List.mem_singleton] at hx; subst hx; exact hU
  · exact reach_ptr fun U => .inl rfl
  · simp [AV.within]
  · intro x hx; simp only [List.mem_singleton] at hx; subst hx; exact within_pvs _ _
  · intro x hx; cases hx
  · intro x hx; cases hx
  · rw [hcl] at h; cases h
  · rfl
/-- copy of unchanging elements over elements of an own row. -/
theorem rexec_copyS (C : Cx E T n) {d : Option Nat} {c : Call} {t t2 : TypeId} {ty : TypeId} {pos : String} {af : Array Edge} {g : Option (Nat × Bool)} {st : St} {K : St → Prop} (hc : c.callee = .builtin .copy) (hty : c.argTypes = #[t, t2]) (h1 : dstB n ⟨d, .call c, ty, pos, af, g⟩ = true) {r re : TyRow} (hr : T.lookup t = some r) {te : TypeId} (hdesc : r.desc = .slice te) (hre : T.lookup te = some re)
    {α : Type} {e : Enc α} {f : Option Bool} (D : List α) {b k m : Nat} {tt : Bool} {cs : List AV} (cs' : List AV) (hs : re.size = e.sz) (hv : evls st.S c.args.toList = some [.sl b k m re.size tt, sS f e D]) (hb : st.H b = some (.cells cs)) (hm : D.length ≤ m) (hfit : k + D.length * e.sz ≤ cs.length) (hcs' : setRange cs k (encC e D) = cs')
    (h7 : K (st.after d { v := .pv (.lit (.int .i64 (D.length : Int))), wr := [(b, some (.cells cs'))] })) (hcl : clsOf cq ⟨d, .call c, ty, pos, af, g⟩ = .writer := by rfl) : rexec E cq n ⟨d, .call c, ty, pos, af, g⟩ st K := by
  have hmin : min D.length m = D.length := Nat.min_eq_left hm
  refine rexec_copy C hc hty h1 hr hdesc hre (m' := D.length) (hs' := []) (ys := encC e D) cs' hv hb rfl (fun x hx => by cases hx) (by rw [encC_len, hs]) (by rw [hmin, hs]; exact hfit) ?_ (fun U _ => within_pvs _ _) ?_ ?_ ?_ hcl
  · exact encC_flat _ _
  · rw [hmin, hs, encC_takeAll _ (Nat.le_refl _)]; exact hcs'
  · rw [hmin]; exact h7
  · exact reach_ptr fun U => .inl rfl
/-- copy of elements of an own row over elements of an own row (perhaps the same one). -/
theorem rexec_copyO (C : Cx E T n) {d : Option Nat} {c : Call} {t t2 : TypeId} {ty : TypeId} {pos : String} {af : Array Edge} {g : Option (Nat × Bool)} {st : St} {K : St → Prop} (hc : c.callee = .builtin .copy) (hty : c.argTypes = #[t, t2]) (h1 : dstB n ⟨d, .call c, ty, pos, af, g⟩ = true) {r re : TyRow} (hr : T.lookup t = some r) {te : TypeId} (hdesc : r.desc = .slice te) (hre : T.lookup te = some re)
    {α : Type} {e : Enc α} (X : List α) {b k m b2 k2 m2 : Nat} {tt tt2 : Bool} {cs cs2 : List AV} (cs' : List AV) (hs : re.size = e.sz) (hv : evls st.S c.args.toList = some [.sl b k m re.size tt, .sl b2 k2 m2 re.size tt2]) (hb : st.H b = some (.cells cs)) (hb2 : st.H b2 = some (.cells cs2)) (hf2 : k2 + m2 * re.size ≤ cs2.length) (hX : ((cs2.drop k2).take (m2 * re.size)).take (X.length * e.sz) = encC e X) (hm : min m2 m = X.length) (hfit : k + X.length * e.sz ≤ cs.length) (hcs' : setRange cs k (encC e X) = cs')
    (h7 : K (st.after d { v := .pv (.lit (.int .i64 (X.length : Int))), wr := [(b, some (.cells cs'))] })) (hreach : reachB [.sl b k m re.size tt, .sl b2 k2 m2 re.size tt2] [] [(b, .cells cs), (b2, .cells cs2)] = true) (hcl : clsOf cq ⟨d, .call c, ty, pos, af, g⟩ = .writer := by rfl) : rexec E cq n ⟨d, .call c, ty, pos, af, g⟩ st K := by
  refine rexec_copy C hc hty h1 hr hdesc hre (m' := m2) (hs' := [(b2, .cells cs2)]) (ys := (cs2.drop k2).take (m2 * re.size)) cs' hv hb ?_ (fun x hx => ?_) ?_ (by rw [hm, hs]; exact hfit) ?_ (fun U h => ?_) ?_ ?_ hreach hcl
  · simp only [srcAV, if_true, hb2]
  · simp only [List.mem_singleton] at hx; subst hx; exact hb2
  · rw [List.length_take, List.length_drop]; omega
  · rw [hm, hs, ← hs] at *
    rw [hs, hX]; have := encC_flat (e := e) X ((encC e X).length); rwa [List.take_length] at this
  · have := h _ (List.mem_singleton.2 rfl)
    simp only [Blk.within] at this
    exact within_sub this fun x hx => List.mem_of_mem_drop (List.mem_of_mem_take hx)
  · rw [hm, hs]; rw [hs] at hX; rw [hX]; exact hcs'
  · rw [hm]; exact h7
theorem rexec_overlaps (C : Cx E T n) {d : Option Nat} {c : Call} {ty : TypeId} {pos : String} {af : Array Edge} {g : Option (Nat × Bool)} {st : St} {K : St → Prop} {f : FuncId} {fn : Func} {tR t te : TypeId} (h1 : dstB n ⟨d, .call c, ty, pos, af, g⟩ = true) (hc : c.callee = .value (.func f)) (hf : E.P.funcs[f]? = some fn) (hn : (fn.name == "runtime.NumGoroutine") = false) (hb : fn.body.isNone = true) (hnx : Extern.findNext fn = none) (he : Extern.find fn = some (Extern.SlicesOverlaps.overlaps #[t, t] #[tR]))
    {r re : TyRow} (hr : T.lookup t = some r) (hdesc : r.desc = .slice te) (hre : T.lookup te = some re) {fl : Option Bool} {m : Nat} {ps : List PV} {b k l : Nat} {tt : Bool} {cs : List AV} (hv : evls st.S c.args.toList = some [.pv (.sl fl m ps), .sl b k l re.size tt]) (hbk : st.H b = some (.cells cs)) (hps : ps ≠ []) (hcs : cs ≠ [])
    (h7 : K (st.after d { v := .pv (.lit (.bool false)) })) (hcl : clsOf cq ⟨d, .call c, ty, pos, af, g⟩ = .writer := by rfl) : rexec E cq n ⟨d, .call c, ty, pos, af, g⟩ st K := by
  have hd : ∀ x, d = some x → x < E.n := fun x e => by
    simp only [dstB, e, decide_eq_true_eq] at h1
    exact C.n ▸ h1
  have hdo := does_overlaps C.tab (o := ⟨d, .call c, ty, pos, af, g⟩) rfl hc hd hf hn hb hnx he hr hdesc hre (fl := fl) (m := m) (ps := ps) hps (b := b) (k := k) (l := l) (tt := tt) (cs := cs) hcs
  have hops : (Op.operands (.call c)).toList = .func f :: c.args.toList := by simp [Op.operands, Call.operands, hc]
  refine ⟨h1, _, _, _, { vals := ?_, deps := ?_, fresh := fun _ h => (by cases h), does := hdo, reach := ?_, inV := rfl, inN := fun _ h => (by cases h), inW := fun _ h => (by cases h), wr := fun _ h => (by cases h), pure := fun h => ?_, quiet := fun _ => rfl, foot := by rw [hcl]; rfl }, h7⟩
  · show evls st.S (Op.operands (.call c)).toList = _
    rw [hops]; simp only [evls, evl, hv]
  · intro x hx; simp only [List.mem_singleton] at hx; subst hx; exact hbk
  · simp [reachB, refs, AV.withinL, AV.within]
  · rw [hcl] at h; cases h
theorem rexec_sliceLoC (C : Cx E T n) {d : Option Nat} {t : TypeId} {x y : Operand} {ty : TypeId} {pos : String} {af : Array Edge} {g : Option (Nat × Bool)} {st : St} {K : St → Prop} {b m s c l : Nat} {kk : IntKind} {r re : TyRow} {te : TypeId} (h1 : dstB n ⟨d, .slice t x (some y) none none, ty, pos, af, g⟩ = true)
    (h2 : evls st.S [x, y] = some [.slc b 0 m s c, .pv (.lit (.int kk (l : Int)))]) (hr : T.lookup t = some r) (hdesc : r.desc = .slice te) (hre : T.lookup te = some re) (hs : re.size = s) (hl : l ≤ m) (h7 : K (st.after d { v := .undef })) : rexec E cq n ⟨d, .slice t x (some y) none none, ty, pos, af, g⟩ st K := by
  subst hs
  exact rexec_value C h1 rfl h2 (fun hd => does_sliceC_lo C.tab rfl hd hr hdesc hre hl) (fun _ _ => rfl) h7
theorem rexec_sliceHiC (C : Cx E T n) {d : Option Nat} {t : TypeId} {x y : Operand} {ty : TypeId} {pos : String} {af : Array Edge} {g : Option (Nat × Bool)} {st : St} {K : St → Prop} {b m s c : Nat} {kk : IntKind} {r re : TyRow} {te : TypeId} (h : Nat) (h1 : dstB n ⟨d, .slice t x none (some y) none, ty, pos, af, g⟩ = true)
    (h2 : evls st.S [x, y] = some [.slc b 0 m s c, .pv (.lit (.int kk (h : Int)))]) (hr : T.lookup t = some r) (hdesc : r.desc = .slice te) (hre : T.lookup te = some re) (hs : re.size = s) (hh : h ≤ c) (h7 : K (st.after d { v := .slc b 0 h s c })) : rexec E cq n ⟨d, .slice t x none (some y) none, ty, pos, af, g⟩ st K := by
  subst hs
  exact rexec_value C h1 rfl h2 (fun hd => does_sliceC_hi C.tab rfl hd hr hdesc hre hh) (fun _ h => h_slc h) h7
theorem rexec_lenC (C : Cx E T n) {d : Option Nat} {c : Call} {t : TypeId} {ty : TypeId} {pos : String} {af : Array Edge} {g : Option (Nat × Bool)} {st : St} {K : St → Prop} {b m s k : Nat} {r : TyRow} {te : TypeId} (hc : c.callee = .builtin .len) (hty : c.argTypes = #[t]) (h1 : dstB n ⟨d, .call c, ty, pos, af, g⟩ = true)
    (h2 : evls st.S (Op.operands (.call c)).toList = some [.slc b 0 m s k]) (hr : T.lookup t = some r) (hdesc : r.desc = .slice te) (h7 : K (st.after d { v := .pv (.lit (.int .i64 m)) })) : rexec E cq n ⟨d, .call c, ty, pos, af, g⟩ st K :=
  rexec_value C h1 rfl h2 (fun hd => does_lenC C.tab rfl hc hty hd hr hdesc) (fun _ _ => rfl) h7
theorem rexec_capC (C : Cx E T n) {d : Option Nat} {c : Call} {t : TypeId} {ty : TypeId} {pos : String} {af : Array Edge} {g : Option (Nat × Bool)} {st : St} {K : St → Prop} {b m s k : Nat} {r : TyRow} {te : TypeId} (hc : c.callee = .builtin .cap) (hty : c.argTypes = #[t]) (h1 : dstB n ⟨d, .call c, ty, pos, af, g⟩ = true)
    (h2 : evls st.S (Op.operands (.call c)).toList = some [.slc b 0 m s k]) (hr : T.lookup t = some r) (hdesc : r.desc = .slice te) (h7 : K (st.after d { v := .pv (.lit (.int .i64 k)) })) : rexec E cq n ⟨d, .call c, ty, pos, af, g⟩ st K :=
  rexec_value C h1 rfl h2 (fun hd => does_capC C.tab rfl hc hty hd hr hdesc) (fun _ _ => rfl) h7
/-- A part of an own row, from a place on. -/
theorem rexec_sliceOwn (C : Cx E T n) {d : Option Nat} {t : TypeId} {x y : Operand} {ty : TypeId} {pos : String} {af : Array Edge} {g : Option (Nat × Bool)} {st : St} {K : St → Prop} {b m s l : Nat} {kk : IntKind} {r re : TyRow} {te : TypeId} (h1 : dstB n ⟨d, .slice t x (some y) none none, ty, pos, af, g⟩ = true)
    (h2 : evls st.S [x, y] = some [.sl b 0 m s false, .pv (.lit (.int kk (l : Int)))]) (hr : T.lookup t = some r) (hdesc : r.desc = .slice te) (hre : T.lookup te = some re) (hs : s = re.size) (hl : l < m) (h7 : K (st.after d { v := .sl b (0 + l * s) (m - l) s false })) (h8 : footB (clsOf cq ⟨d, .slice t x (some y) none none, ty, pos, af, g⟩) [] { v := .sl b (0 + l * s) (m - l) s false } = true := by rfl) : rexec E cq n ⟨d, .slice t x (some y) none none, ty, pos, af, g⟩ st K := by
  subst hs
  refine rexec_prim C (p := (0 ≤ (l : Int) ∧ (l : Int) ≤ (m : Int)) ∧ ((l : Int) = 0 ∨ (l : Int) < (m : Int))) (hs := []) (δ := { v := .sl b (0 + l * re.size) (m - l) re.size false }) h1 rfl h2 ?_ ⟨⟨by omega, by omega⟩, by omega⟩ rfl h7 h8
  simp only [prim, primSlice, hr, optI, sliceAV, hdesc, hre, cutOf]
  simp
theorem encL_ne {α : Type} {e : Enc α} {D : List α} (h : 0 < D.length) (hs : 0 < e.sz) : encL e D ≠ [] := fun h0 => by
  have h1 := congrArg List.length h0
  rw [encL_len, List.length_nil] at h1
  have := Nat.mul_pos h hs
  omega
theorem encC_ne {α : Type} {e : Enc α} {D : List α} {Z : List AV} (h : 0 < D.length) (hs : 0 < e.sz) : encC e D ++ Z ≠ [] := fun h0 => by
  have h1 := congrArg List.length h0
  rw [List.length_append, encC_len, List.length_nil] at h1
  have := Nat.mul_pos h hs
  omega
/-- A call that takes a row (block 0) and gives what does not change. -/
structure XCalls (P : Program) (f : FuncId) (avs : List AV) (k : Blk) (av : AV) : Prop where
  fn : ∃ fn, P.funcs[f]? = some fn ∧ (fn.name == "runtime.NumGoroutine") = false ∧ fn.body.isNone = false
  args : AV.withinL (fun b => b == 0) avs = true
  res : av.within (fun _ => false) = true
  blk : k.within (fun _ => false) = true
  calls : ACalls P f [0] avs [(0, k)] av []
theorem XCalls.of_body {P : Program} {T : Tab} (hT : TabOk P T) {f : FuncId} {fn : Func} {body : Code} (hf : P.funcs[f]? = some fn) (hb : fn.body = some body) (hn : (fn.name == "runtime.NumGoroutine") = false) {avs : List AV} {k : Blk} {av : AV} (hl : decide (avs.length ≤ fn.ntmps) = true) (ha : AV.withinL (fun b => b == 0) avs = true) (hr : av.within (fun _ => false) = true) (hk : k.within (fun _ => false) = true) (hm : P.follows .mixedOrders = true)
    (h : ∀ E : Env, E.P = P → Cx E T fn.ntmps → E.I = [0] → Awp E body (entry avs [(0, k)] [0]) fun e st => (e = .ret ∨ e = .normal) ∧ resAV T st fn.results.toList = some av) : XCalls P f avs k av where
  fn := ⟨fn, hf, hn, by simp [hb]⟩
  args := ha
  res := hr
  blk := hk
  calls := ACalls.of_body hT hf hb (by simpa using hl) fun E hP hE hI => (h E hP ⟨hP ▸ hT, hE, hP ▸ hm⟩ hI).mono fun e st ⟨h1, h2⟩ => ⟨h1, h2, fun x hx => by cases hx⟩
theorem rexec_callX {P : Program} (hP : E.P = P) (C : Cx E T n) {f : FuncId} {avs args : List AV} {av : AV} {k : Blk} {d : Option Nat} {b : Nat} {c : Call} {ty : TypeId} {pos : String} {af : Array Edge} {g : Option (Nat × Bool)} {st : St} {K : St → Prop} (h1 : dstB n ⟨d, .call c, ty, pos, af, g⟩ = true) (hc : c.callee = .value (.func f)) (hv : evls st.S c.args.toList = some args)
    (F : XCalls P f avs k av) (ha : AV.renL (fun _ => b) avs = args) (hb : st.H b = some k) (h7 : K (st.after d { v := av, wr := [(b, none)] })) (hreach : reachB (.fn f [] [] :: args) [] [(b, k)] = true := by rfl) (hbr : refs (.fn f [] [] :: args) [(b, k)] b = true := by rfl) (hp : clsOf cq ⟨d, .call c, ty, pos, af, g⟩ ≠ .pure := by decide) (hq : clsOf cq ⟨d, .call c, ty, pos, af, g⟩ ≠ .quiet := by decide) (hft : footB (clsOf cq ⟨d, .call c, ty, pos, af, g⟩) [(b, k)] { v := av, wr := [(b, none)] } = true := by rfl) : rexec E cq n ⟨d, .call c, ty, pos, af, g⟩ st K := by
  subst hP
  obtain ⟨fn, q1, q2, q3⟩ := F.fn
  have hd : ∀ x, d = some x → x < E.n := fun x e => by
    simp only [dstB, e, decide_eq_true_eq] at h1
    exact C.n ▸ h1
  have hin : inI [0] = fun b => b == 0 := funext fun b => by cases b <;> rfl
  have ok : CallOk ⟨fun _ => b, []⟩ [0] avs [(0, k)] [] av := by
    refine { args := by rw [hin]; exact F.args, ids := ?_, blks := ?_, nodup := by simp, inj := ?_, nodupL := by simp, nodupR := by simp, fresh := ?_, res := ?_, res' := ?_, kept := ?_, all := ?_, used := ?_ }
    · intro x hx; simp only [List.mem_singleton] at hx; subst hx; rfl
    · intro x hx; simp only [List.mem_singleton] at hx; subst hx; exact Blk.within_mono (fun b hb => by cases hb) k F.blk
    · intro x y hx hy _; simp [inI] at hx hy; omega
    · intro x hx; cases hx
    · exact AV.within_mono (fun x hx => by cases hx) av F.res
    · intro x hx; cases hx
    · intro x hx; cases hx
    · intro x hx; cases hx
    · intro x hx
      have : x = 0 := by simpa [inI] using hx
      subst this; exact .inr rfl
  have hdo := does_call (E := E) (o := ⟨d, .call c, ty, pos, af, g⟩) (c := c) rfl hc hd q1 q2 q3 F.calls ok (args := args) (caps := []) (by simpa using ha)
  have he : Names.delta ⟨fun _ => b, []⟩ [0] [(0, k)] [] av = { v := av, wr := [(b, none)] } := by
    simp only [Names.delta, List.map_nil, List.map_cons, AV.ren_none av F.res]
    rfl
  have hH : ([(0, k)] : List (Nat × Blk)).map (fun x => ((fun _ => b) x.1, x.2.ren (fun _ => b))) = [(b, k)] := by
    simp only [List.map_cons, List.map_nil, Blk.ren_none F.blk]
  rw [he] at hdo
  have hdo' : Does E ⟨d, .call c, ty, pos, af, g⟩ (.fn f [] [] :: args) [(b, k)] { v := av, wr := [(b, none)] } := by
    rw [← hH]; exact hdo
  have hops : (Op.operands (.call c)).toList = .func f :: c.args.toList := by simp [Op.operands, Call.operands, hc]
  refine ⟨h1, .fn f [] [] :: args, [(b, k)], _, { vals := ?_, deps := ?_, fresh := fun _ h => (by cases h), does := hdo', reach := hreach, inV := ?_, inN := fun _ h => (by cases h), inW := ?_, wr := ?_, pure := fun h => ?_, quiet := fun h => ?_, foot := hft }, h7⟩
  · show evls st.S (Op.operands (.call c)).toList = _
    rw [hops]; simp only [evls, evl, hv]
  · intro x hx; simp only [List.mem_singleton] at hx; subst hx; exact hb
  · exact AV.within_mono (fun x hx => by cases hx) av F.res
  · intro x hx q hq
    simp only [List.mem_singleton] at hx
    subst hx; cases hq
  · intro x hx
    simp only [List.mem_singleton] at hx
    subst hx
    rw [hbr]; simp
  · exact absurd h hp
  · exact absurd h hq
end steps
end Go.Am
/- An abstract machine over the kit's calls, part 33: calls that change a row of one's own in place. No conditions. -/
namespace Go.Am
section steps
variable {E : Env} {T : Tab} {cq : Oper → Cls} {n : Nat} {ops : Array Oper}
/-- A call that takes a row (block 0), changes it in place, and gives what does not change. -/
structure MCalls (P : Program) (f : FuncId) (avs : List AV) (k : Blk) (av : AV) (k' : Blk) : Prop where
  fn : ∃ fn, P.funcs[f]? = some fn ∧ (fn.name == "runtime.NumGoroutine") = false ∧ fn.body.isNone = false
  args : AV.withinL (fun b => b == 0) avs = true
  res : av.within (fun _ => false) = true
  blk : k.within (fun _ => false) = true
  blk' : k'.within (fun _ => false) = true
  calls : ACalls P f [0] avs [(0, k)] av [(0, k')]
theorem MCalls.of_body {P : Program} {T : Tab} (hT : TabOk P T) {f : FuncId} {fn : Func} {body : Code} (hf : P.funcs[f]? = some fn) (hb : fn.body = some body) (hn : (fn.name == "runtime.NumGoroutine") = false) {avs : List AV} {k k' : Blk} {av : AV} (hl : decide (avs.length ≤ fn.ntmps) = true) (ha : AV.withinL (fun b => b == 0) avs = true) (hr : av.within (fun _ => false) = true) (hk : k.within (fun _ => false) = true) (hk' : k'.within (fun _ => false) = true) (hm : P.follows .mixedOrders = true)
    (h : ∀ E : Env, E.P = P → Cx E T fn.ntmps → E.I = [0] → Awp E body (entry avs [(0, k)] [0]) fun e st => (e = .ret ∨ e = .normal) ∧ resAV T st fn.results.toList = some av ∧ st.H 0 = some k') : MCalls P f avs k av k' where
  fn := ⟨fn, hf, hn, by simp [hb]⟩
  args := ha
  res := hr
  blk := hk
  blk' := hk'
  calls := ACalls.of_body hT hf hb (by simpa using hl) fun E hP hE hI => (h E hP ⟨hP ▸ hT, hE, hP ▸ hm⟩ hI).mono fun e st ⟨h1, h2, h3⟩ => ⟨h1, h2, fun x hx => by simp only [List.mem_singleton] at hx; subst hx; exact h3⟩
theorem rexec_callM {P : Program} (hP : E.P = P) (C : Cx E T n) {f : FuncId} {avs args : List AV} {av : AV} {k k' : Blk} {d : Option Nat} {b : Nat} {c : Call} {ty : TypeId} {pos : String} {af : Array Edge} {g : Option (Nat × Bool)} {st : St} {K : St → Prop} (h1 : dstB n ⟨d, .call c, ty, pos, af, g⟩ = true) (hc : c.callee = .value (.func f)) (hv : evls st.S c.args.toList = some args)
    (F : MCalls P f avs k av k') (ha : AV.renL (fun _ => b) avs = args) (hb : st.H b = some k) (h7 : K (st.after d { v := av, wr := [(b, some k')] })) (hreach : reachB (.fn f [] [] :: args) [] [(b, k)] = true := by rfl) (hbr : refs (.fn f [] [] :: args) [(b, k)] b = true := by rfl) (hp : clsOf cq ⟨d, .call c, ty, pos, af, g⟩ ≠ .pure := by decide) (hq : clsOf cq ⟨d, .call c, ty, pos, af, g⟩ ≠ .quiet := by decide) (hft : footB (clsOf cq ⟨d, .call c, ty, pos, af, g⟩) [(b, k)] { v := av, wr := [(b, some k')] } = true := by rfl) : rexec E cq n ⟨d, .call c, ty, pos, af, g⟩ st K := by
  subst hP
  obtain ⟨fn, q1, q2, q3⟩ := F.fn
  have hd : ∀ x, d = some x → x < E.n := fun x e => by
    simp only [dstB, e, decide_eq_true_eq] at h1
    exact C.n ▸ h1
  have hin : inI [0] = fun b => b == 0 := funext fun b => by cases b <;> rfl
  have hk0 : Names.knows ⟨fun _ => b, []⟩ [0] 0 = true := by simp [Names.knows, inI]
  have ok : CallOk ⟨fun _ => b, []⟩ [0] avs [(0, k)] [(0, k')] av := by
    refine { args := by rw [hin]; exact F.args, ids := ?_, blks := ?_, nodup := by simp, inj := ?_, nodupL := by simp, nodupR := by simp, fresh := ?_, res := ?_, res' := ?_, kept := ?_, all := ?_, used := ?_ }
    · intro x hx; simp only [List.mem_singleton] at hx; subst hx; rfl
    · intro x hx; simp only [List.mem_singleton] at hx; subst hx; exact Blk.within_mono (fun b hb => by cases hb) k F.blk
    · intro x y hx hy _; simp [inI] at hx hy; omega
    · intro x hx; cases hx
    · exact AV.within_mono (fun x hx => by cases hx) av F.res
    · intro x hx
      simp only [List.mem_singleton] at hx
      subst hx
      exact ⟨hk0, Blk.within_mono (fun b hb => by cases hb) k' F.blk'⟩
    · intro x hx _; simp only [List.mem_singleton] at hx; subst hx; exact ⟨k, List.mem_singleton.2 rfl⟩
    · intro x hx; cases hx
    · intro x hx
      have : x = 0 := by simpa [inI] using hx
      subst this; exact .inr rfl
  have hdo := does_call (E := E) (o := ⟨d, .call c, ty, pos, af, g⟩) (c := c) rfl hc hd q1 q2 q3 F.calls ok (args := args) (caps := []) (by simpa using ha)
  have he : Names.delta ⟨fun _ => b, []⟩ [0] [(0, k)] [(0, k')] av = { v := av, wr := [(b, some k')] } := by
    have e2 : heapOf [(0, k')] 0 = some k' := rfl
    simp only [Names.delta, List.map_nil, List.map_cons, AV.ren_none av F.res, e2, Option.map_some, Blk.ren_none F.blk']
  have hH : ([(0, k)] : List (Nat × Blk)).map (fun x => ((fun _ => b) x.1, x.2.ren (fun _ => b))) = [(b, k)] := by
    simp only [List.map_cons, List.map_nil, Blk.ren_none F.blk]
  rw [he] at hdo
  have hdo' : Does E ⟨d, .call c, ty, pos, af, g⟩ (.fn f [] [] :: args) [(b, k)] { v := av, wr := [(b, some k')] } := by
    rw [← hH]; exact hdo
  have hops : (Op.operands (.call c)).toList = .func f :: c.args.toList := by simp [Op.operands, Call.operands, hc]
  refine ⟨h1, .fn f [] [] :: args, [(b, k)], _, { vals := ?_, deps := ?_, fresh := fun _ h => (by cases h), does := hdo', reach := hreach, inV := ?_, inN := fun _ h => (by cases h), inW := ?_, wr := ?_, pure := fun h => ?_, quiet := fun h => ?_, foot := hft }, h7⟩
  · show evls st.S (Op.operands (.call c)).toList = _
    rw [hops]; simp only [evls, evl, hv]
  · intro x hx; simp only [List.mem_singleton] at hx; subst hx; exact hb
  · exact AV.within_mono (fun x hx => by cases hx) av F.res
  · intro x hx q hq
    simp only [List.mem_singleton] at hx
    subst hx
    obtain rfl := Option.some.inj hq
    exact Blk.within_mono (fun b hb => by cases hb) k' F.blk'
  · intro x hx
    simp only [List.mem_singleton] at hx
    subst hx
    rw [hbr]; simp
  · exact absurd h hp
  · exact absurd h hq
end steps
end Go.Am
/- An abstract machine over the kit's calls, part 35: pointers held against nil; slices cut with their capacity; append to such ones. No conditions. -/
namespace Go.Am
/-- Is a pointer nil? -/
def nilP : AV → Option Bool
  | .pv (.lit (.pointer none)) => some true
  | .ptr _ _ => some false
  | .rp _ => some false
  | _ => none
theorem nilP_holds {ι : Nat → Option (Nat × Nat)} {imm : Nat → Prop} {w : World} {x : AV} {f : Bool} (h : nilP x = some f) {v : Value} (hv : VH ι imm w x v) : ∃ A, v = .pointer A ∧ A.isNone = f := by
  unfold nilP at h
  split at h
  · simp only [Option.some.injEq] at h
    subst h
    simp only [VH, PH] at hv
    exact ⟨none, hv.1, rfl⟩
  · simp only [Option.some.injEq] at h
    subst h
    simp only [VH] at hv
    obtain ⟨r, z, _, e⟩ := hv
    exact ⟨_, e, rfl⟩
  · simp only [Option.some.injEq] at h
    subst h
    simp only [VH] at hv
    obtain ⟨a, e, _⟩ := hv
    exact ⟨_, e, rfl⟩
  · cases h
section ops
variable {E : Env} {T : Tab}
theorem does_eqPtr (hT : TabOk E.P T) {o : Oper} {op : BinOp} {t yt : TypeId} {x y : Operand} (ho : o.op = .binOp op t x y yt) (hd : ∀ d, o.dst = some d → d < E.n) {r : TyRow} (hr : T.lookup t = some r) {et : TypeId} (hdesc : r.desc = .pointer et) {u v z : AV} {f g : Bool} (hf : nilP u = some f) (hg : nilP v = some g) (hfg : (f || g) = true) (h : opB op (f && g) = some z) : Does E o [u, v] [] { v := z } := by
  refine Does.value hd fun ι imm st a w hs hv _ => ?_
  rw [ho] at hv
  simp only [Op.operands, List.map_cons, List.map_nil] at hv
  obtain ⟨h1, h2⟩ := hv.two
  have hu := run_underlying hT hr w (P := E.P)
  obtain ⟨dep, hdp⟩ : ∃ d, Op.maxDepth = d + 1 := ⟨_, rfl⟩
  have fin : ∀ {b : Bool}, (Op.equal t (a.eval x) (a.eval y)).run E.P w = .ok b w → (eqGuard op t x y (a.eval x) (a.eval y)).run E.P w = .ok () w → (∀ op', (op' = .eql ∨ op' = .neq) → binOp op' t (a.eval x) (a.eval y) = (match op' with | .eql => (do let q ← Op.equal t (a.eval x) (a.eval y); pure (.bool q)) | _ => (do let q ← Op.equal t (a.eval x) (a.eval y); pure (.bool !q)))) →
      opB op b = some z → ∃ q, (execOp a.eval o).run E.P w = .ok (.value q) w ∧ VH ι imm w z q := by
    intro b hb hg hbin hz
    by_cases e1 : op = .eql
    · subst e1
      simp only [opB, Option.some.injEq] at hz; subst hz
      refine ⟨.bool b, ?_, by simp [VH, PH, flatB]⟩
      simp only [execOp, ho, run_bind', hg, hbin .eql (.inl rfl), hb, run_pure']
    · by_cases e2 : op = .neq
      · subst e2
        simp only [opB, Option.some.injEq] at hz; subst hz
        refine ⟨.bool !b, ?_, by simp [VH, PH, flatB]⟩
        simp only [execOp, ho, run_bind', hg, hbin .neq (.inr rfl), hb, run_pure']
      · exfalso; cases op <;> simp_all [opB]
  obtain ⟨A, e1, e2⟩ := nilP_holds hf h1
  obtain ⟨B, e3, e4⟩ := nilP_holds hg h2
  refine fin (b := f && g) ?_ (by rw [e1]; exact eqGuard_run w (by simp) (by simp)) (fun op' ho' => by rw [e1, e3]; rcases ho' with rfl | rfl <;> rfl) h
  unfold Op.equal
  rw [hdp, e1, e3]
  cases A <;> cases B <;> simp only [Option.isNone_none, Option.isNone_some] at e2 e4 <;> subst e2 <;> subst e4 <;> first | (cases hfg; done) | skip
  all_goals simp only [Op.equalIn, run_bind', hu, hdesc, run_pure']; rfl
/-- An append of elements to a slice whose room is full: a new row. -/
theorem does_appendT (hT : TabOk E.P T) {o : Oper} {c : Call} {t t2 : TypeId} (ho : o.op = .call c) (hc : c.callee = .builtin .append) (hty : c.argTypes = #[t, t2]) {d : Nat} (hdst : o.dst = some d) (hd : d < E.n) {r re r2 : TyRow} (hr : T.lookup t = some r) {e : TypeId} (hdesc : r.desc = .slice e) (hre : T.lookup e = some re) (hr2 : T.lookup t2 = some r2) (hd2 : ∀ k, r2.desc ≠ .int k)
    {n : Nat} {qs : List PV} (hlq : qs.length = n * re.size) {f : Option Bool} {m : Nat} {ps : List PV} (hm : 0 < m) (hln : ps.length = m * re.size)
    (hb : (2 * (n + m) + 192) * re.bytes ≤ 281474976710656) (hnm : n + m ≤ 9223372036854775807) (hzs : re.zero.cells.size = re.size) :
    Does E o [.tsl n qs, .pv (.sl f m ps)] [] { v := .sl d 0 (n + m) re.size false, new := [(d, .cells (qs.map .pv ++ ps.map .pv))] } := by
  intro ι imm st a w Q hs hv _ hf
  have hUd : st.U d = false := hf (d, _) (List.mem_cons_self ..)
  have hvs := hs.evls hv
  have hops : o.op.operands.toList = c.args.toList := by rw [ho]; simp [Op.operands, Call.operands, hc]
  rw [hops] at hvs
  obtain ⟨v1, us1, he, hv1, hvs⟩ := hvs
  obtain ⟨v2, us2, he2, hv2, hvs⟩ := hvs
  simp only [VHs] at hvs
  subst hvs
  subst he2
  have hargs : c.args.map a.eval = #[v1, v2] := by apply Array.ext'; simpa using he
  obtain ⟨vsO, p1, p2, p3⟩ := run_src (H := st.H) (y := .tsl n qs) (sz := re.size) (m := n) (hd := []) (cs := qs.map .pv) hs rfl (fun x hx => by cases hx) (by simpa using hlq) hv1
  have hlO := p2.length
  have hv1' := hv1
  simp only [VH] at hv1
  obtain ⟨A, rfl, _, _⟩ := hv1
  obtain ⟨vsN, g1, g2, g3⟩ := run_src (H := st.H) (y := .pv (.sl f m ps)) (sz := re.size) (m := m) (hd := []) (cs := ps.map .pv) hs rfl (fun x hx => by cases hx) (by simpa using hln) hv2
  have hlN := g2.length
  have hnew : ∀ w' : World, (∀ x, w'.cell? x = w.cell? x) → (Builtin.firstCells re.size m v2).run E.P w' = .ok (List.toArray vsN) w' := fun w' hw' => by
    have := g3 m (Nat.le_refl _) w' hw'
    rwa [List.take_of_length_le (by rw [hlN]; simp [hln])] at this
  have hold : ∀ w' : World, (∀ x, w'.cell? x = w.cell? x) → (Builtin.firstCells re.size n (.slice A n n)).run E.P w' = .ok (List.toArray vsO) w' := fun w' hw' => by
    have := p3 n (Nat.le_refl _) w' hw'
    rwa [List.take_of_length_le (by rw [hlO]; simp [hlq])] at this
  obtain ⟨_, grown⟩ := run_append hT hr hdesc hre hr2 hd2 (ty := o.type) (t := t) (n := n) (cap := n) (base := A) g1 hnew hold hb hnm
  have hexec : ∀ {u w'}, (Builtin.append_ #[t, t2] o.type #[.slice A n n, v2]).run E.P w = .ok u w' → (execOp a.eval o).run E.P w = .ok (.value u) w' := fun {u w'} h => by
    simp only [execOp, ho, resolve, hc, run_bind', run_pure', invoke, builtin, hargs, hty, h]
  unfold Oper.wp
  have hdd : ∀ x, o.dst = some x → x < E.n := fun x hx => by rw [hdst] at hx; exact Option.some.inj hx ▸ hd
  obtain ⟨w1, nc, rest, hrun, hnc, ⟨e1, e2, e3, e4⟩, hrest⟩ := grown (by omega)
  rw [hexec hrun, Oper.upon_value]
  have gw : Grows ι ι imm imm w w1 := ⟨fun _ _ h => h, ⟨fun _ h => h, fun k _ => by rw [e1]⟩, fun r' c1 e1' f1 hr' => ⟨c1, f1, by rw [e1]; exact hr', rfl⟩⟩
  have hs1 : SR E ι imm ⟨st.S, st.H, st.U⟩ a w1 := hs.turn gw e2 e3 e4 (by rw [e1]; exact Nat.le_refl _) (fun k _ _ => by rw [e1]) ⟨fun b' k' hb' => by
    obtain ⟨r', z', p1, p2, p3, p4⟩ := hs.heap.blk b' k' hb'
    exact ⟨r', z', p1, p2, p3, p4.grows gw (by rw [e1])⟩, hs.heap.inj⟩ hs.used (fun _ hk => .inl hk) (fun k hk => by rw [e1]; exact hs.immlt k hk)
  have hboth : VHs ι imm w1 (qs.map .pv ++ ps.map .pv) (vsO ++ vsN) := VHs.append (VHs.grows gw _ _ p2) (VHs.grows gw _ _ g2)
  have hNew : NewH ι imm w1 (Obj.cells (vsO ++ vsN ++ rest).toArray e) (.cells (qs.map .pv ++ ps.map .pv)) := by
    refine ⟨_, _, rfl, ?_, CellsH.of_VHs (vs := vsO ++ vsN) hboth fun i hi => ?_⟩
    · simp only [List.length_append, List.size_toArray, hlN, hlO]; omega
    · rw [Nat.zero_add, List.getElem?_toArray, List.getElem?_append_left hi]
  obtain ⟨ι', i1, i2, i3⟩ := hs1.new hUd hNew (.sl d 0 (n + m) re.size false)
  refine ⟨ι', imm, ?_⟩
  have hheap : (World.push w1 (Obj.cells (vsO ++ vsN ++ rest).toArray e)).heap[w1.heap.size]? = some (Obj.cells (vsO ++ vsN ++ rest).toArray e) := by
    show (w1.heap.push _)[_]? = _
    rw [Array.getElem?_push, if_pos rfl]
  have hln' : vsN.length = m * re.size := by rw [hlN]; simp [hln]
  have hlq' : vsO.length = n * re.size := by rw [hlO]; simp [hlq]
  have hfin := i3.put o.dst hdd (v := .sl d 0 (n + m) re.size false) (u := .slice (some ⟨w.heap.size, 0, none⟩) (n + m) nc) ⟨w1.heap.size, 0, nc, i1, by rw [e1], by omega, (fun h => (by cases h)), _, _, _, hheap, by
    simp only [List.size_toArray, List.length_append, hln', hlq', hrest, hzs]
    have : nc = n + m + (nc - (n + m)) := by omega
    rw [this, Nat.add_mul, Nat.add_mul]
    have : n + m + (nc - (n + m)) - (n + m) = nc - (n + m) := by omega
    rw [this]; omega⟩
  exact hfin
end ops
section steps
variable {E : Env} {T : Tab} {cq : Oper → Cls} {n : Nat} {ops : Array Oper}
theorem rexec_eqPtr (C : Cx E T n) {d : Option Nat} {op : BinOp} {t t' : TypeId} {x y : Operand} {ty : TypeId} {pos : String} {af : Array Edge} {g : Option (Nat × Bool)} {st : St} {K : St → Prop}
    {r : TyRow} {et : TypeId} {u v : AV} (p q : Bool) {z : AV} (h1 : dstB n ⟨d, .binOp op t x y t', ty, pos, af, g⟩ = true) (h2 : evls st.S [x, y] = some [u, v]) (hr : T.lookup t = some r) (hd : r.desc = .pointer et) (hp : nilP u = some p) (hq : nilP v = some q) (hpq : (p || q) = true) (hz : opB op (p && q) = some z) (hw : z.within (fun _ => false) = true) (h7 : K (st.after d { v := z })) :
    rexec E cq n ⟨d, .binOp op t x y t', ty, pos, af, g⟩ st K := by
  have hd' : ∀ x, d = some x → x < E.n := fun x e => by
    simp only [dstB, e, decide_eq_true_eq] at h1
    exact C.n ▸ h1
  refine ⟨h1, _, _, _, { vals := h2, deps := fun _ h => (by cases h), fresh := fun _ h => (by cases h), does := does_eqPtr C.tab (o := ⟨d, .binOp op t x y t', ty, pos, af, g⟩) rfl hd' hr hd hp hq hpq hz, reach := rfl, inV := AV.within_mono (fun b hb => by cases hb) _ hw, inN := fun _ h => (by cases h), inW := fun _ h => (by cases h), wr := fun _ h => (by cases h), pure := fun _ => ⟨rfl, rfl, rfl⟩, quiet := fun _ => rfl, foot := by cases (clsOf cq ⟨d, .binOp op t x y t', ty, pos, af, g⟩) <;> rfl }, h7⟩
/-- A slice that does not change, cut to its own length and room. -/
theorem rexec_slice3 (C : Cx E T n) {d : Option Nat} {t : TypeId} {x : Operand} {hi mx : Operand} {ty : TypeId} {pos : String} {af : Array Edge} {g : Option (Nat × Bool)} {st : St} {K : St → Prop} {r re : TyRow} {te : TypeId} {α : Type} {e : Enc α} {D : List α} {f : Option Bool} {k1 k2 : IntKind} (h1 : dstB n ⟨d, .slice t x none (some hi) (some mx), ty, pos, af, g⟩ = true)
    (h2 : evls st.S [x, hi, mx] = some [sS f e D, .pv (.lit (.int k1 (D.length : Int))), .pv (.lit (.int k2 (D.length : Int)))]) (hr : T.lookup t = some r) (hdesc : r.desc = .slice te) (hre : T.lookup te = some re) (hs : re.size = e.sz)
    (h7 : K (st.after d { v := .tsl D.length (encL e D) })) : rexec E cq n ⟨d, .slice t x none (some hi) (some mx), ty, pos, af, g⟩ st K := by
  have key : ((encL e D).drop (0 * e.sz)).take (D.length * e.sz) = encL e D := by
    rw [Nat.zero_mul, List.drop_zero, ← encL_len (e := e), List.take_length]
  refine rexec_primv C (p := (0 ≤ (0 : Int) ∧ (0 : Int) ≤ (D.length : Int) ∧ (D.length : Int) ≤ (D.length : Int) ∧ (D.length : Int) ≤ (D.length : Int)) ∧ (D.length : Int) = (D.length : Int)) (hs := []) (δ := { v := .tsl ((D.length : Int).toNat - (0 : Int).toNat) (((encL e D).drop ((0 : Int).toNat * re.size)).take (((D.length : Int).toNat - (0 : Int).toNat) * re.size)) }) { v := .tsl D.length (encL e D) } h1 rfl h2 ?_ ⟨⟨by omega, by omega, by omega, by omega⟩, rfl⟩ ?_ rfl h7 (by cases (clsOf cq ⟨d, .slice t x none (some hi) (some mx), ty, pos, af, g⟩) <;> rfl)
  · simp only [prim, primSlice, hr, optI, sliceAV, hdesc, hre, sS, cutOf, Option.getD_none]
  · simp only [hs, Int.toNat_natCast, Int.toNat_zero, Nat.sub_zero, key]
theorem rexec_appendT (C : Cx E T n) {d : Nat} {c : Call} {t t2 : TypeId} {ty : TypeId} {pos : String} {af : Array Edge} {g : Option (Nat × Bool)} {st : St} {K : St → Prop} (hc : c.callee = .builtin .append) (hty : c.argTypes = #[t, t2]) (h1 : dstB n ⟨some d, .call c, ty, pos, af, g⟩ = true) (hU : st.U d = false)
    {r re r2 : TyRow} (hr : T.lookup t = some r) {e : TypeId} (hdesc : r.desc = .slice e) (hre : T.lookup e = some re) (hr2 : T.lookup t2 = some r2) (hd2 : ∀ k, r2.desc ≠ .int k) (hzs : re.zero.cells.size = re.size)
    {α : Type} {en : Enc α} {f : Option Bool} {D0 D : List α} (hs : re.size = en.sz) (hv : evls st.S c.args.toList = some [.tsl D0.length (encL en D0), sS f en D]) (hm : 0 < D.length)
    (hbig : (2 * (D0.length + D.length) + 192) * re.bytes ≤ 281474976710656) (hpos : 0 < re.bytes) {nn : Nat} (hnn : nn = D0.length + D.length)
    (h7 : K (st.after (some d) { v := .sl d 0 nn re.size false, new := [(d, .cells (encC en (D0 ++ D)))] })) (hcl : clsOf cq ⟨some d, .call c, ty, pos, af, g⟩ ≠ .pure ∧ clsOf cq ⟨some d, .call c, ty, pos, af, g⟩ ≠ .quiet ∧ footB (clsOf cq ⟨some d, .call c, ty, pos, af, g⟩) [] { v := .sl d 0 nn re.size false, new := [(d, .cells (encC en (D0 ++ D)))] } = true := by exact ⟨by decide, by decide, rfl⟩) :
    rexec E cq n ⟨some d, .call c, ty, pos, af, g⟩ st K := by
  subst hnn
  have hd : d < E.n := by
    simp only [dstB, decide_eq_true_eq] at h1
    exact C.n ▸ h1
  have hdo := does_appendT C.tab (o := ⟨some d, .call c, ty, pos, af, g⟩) rfl hc hty rfl hd hr hdesc hre hr2 hd2 (n := D0.length) (qs := encL en D0) (by rw [encL_len, hs]) (f := f) (ps := encL en D) hm (by rw [encL_len, hs]) hbig (by
    have : 2 * (D0.length + D.length) + 192 ≤ (2 * (D0.length + D.length) + 192) * re.bytes := Nat.le_mul_of_pos_right _ hpos
    omega) hzs
  have hcat : (encL en D0).map AV.pv ++ (encL en D).map AV.pv = encC en (D0 ++ D) := by
    rw [encC_append]; rfl
  rw [hcat] at hdo
  have hops : (Op.operands (.call c)).toList = c.args.toList := by simp [Op.operands, Call.operands, hc]
  refine ⟨h1, _, _, _, { vals := ?_, deps := ?_, fresh := ?_, does := hdo, reach := rfl, inV := ?_, inN := ?_, inW := ?_, wr := ?_, pure := fun h => ?_, quiet := fun h => ?_, foot := hcl.2.2 }, h7⟩
  · show evls st.S (Op.operands (.call c)).toList = _
    rw [hops]; exact hv
  · intro x hx; cases hx
  · intro x hx; simp only [List.mem_singleton] at hx; subst hx; exact hU
  · simp [AV.within]
  · intro x hx; simp only [List.mem_singleton] at hx; subst hx; exact encC_within _ _
  · intro x hx; cases hx
  · intro x hx; cases hx
  · exact absurd h hcl.1
  · rfl
/-- A loop whose first round begins otherwise than the others. -/
theorem Awp.peelM {c : Code} {st : St} {Q : Exit → St → Prop} {σ : Type} (S : σ → List (Nat × AV)) (H : σ → List (Nat × Blk)) (U : List Nat) (J : Nat → σ → Prop) (N : Nat)
    (first : Awp E c st fun e st' => match e with | .normal => ∃ m' y, m' < N ∧ J m' y ∧ ∃ τ, WeakerR st' τ (S y) (H y) U E.I | e => Q e st')
    (round : ∀ m x, J m x → Awp E c (mkSt (S x) (H x) U) fun e st' => match e with | .normal => ∃ m' y, m' < m ∧ J m' y ∧ ∃ τ, WeakerR st' τ (S y) (H y) U E.I | e => Q e st') : Awp E (.loop c) st Q := by
  intro a w hat
  refine wp_loop_ghost (fun m a w => (m = N ∧ At E st a w) ∨ ∃ x, J m x ∧ At E (mkSt (S x) (H x) U) a w) N (.inl ⟨rfl, hat⟩) fun m a w hI => ?_
  rcases hI with ⟨rfl, hat⟩ | ⟨x, hJ, hat⟩
  · refine wp_mono (first a w hat) ?_
    rintro e a' w' ⟨st', h1, h2⟩
    cases e <;> simp only [Exit.then]
    case normal =>
      obtain ⟨m', y, h3, h4, τ, h5⟩ := h1
      exact ⟨m', h3, .inr ⟨y, h4, h2.weakenR h5⟩⟩
    all_goals exact ⟨st', h1, h2⟩
  · refine wp_mono (round m x hJ a w hat) ?_
    rintro e a' w' ⟨st', h1, h2⟩
    cases e <;> simp only [Exit.then]
    case normal =>
      obtain ⟨m', y, h3, h4, τ, h5⟩ := h1
      exact ⟨m', h3, .inr ⟨y, h4, h2.weakenR h5⟩⟩
    all_goals exact ⟨st', h1, h2⟩
end steps
end Go.Am
/- Readers of bytes. No conditions. -/
namespace Go.Proofs.Ytpgenmflgdkfiaa
open Go.Am
structure Reader where
  b : (Sl Int)
  at_ : Int
  err : Int
  made : Bool
  deriving Inhabited
def rdErr (r : Reader) : Int :=
  (bif (!r.made) then 6 else r.err)
theorem rdErr_calls (r : Reader)  : MCalls Try.prog 67 [.ptr 0 0] (.cells [sS (some r.b.nil) (eI .u8) r.b.D, .pv (.lit (.int .i64 r.at_)), .pv (.lit (.int .i64 r.err)), .pv (.lit (.bool r.made))]) (.pv (.lit (.int .i64 (rdErr r)))) (.cells [sS (some r.b.nil) (eI .u8) r.b.D, .pv (.lit (.int .i64 r.at_)), .pv (.lit (.int .i64 r.err)), .pv (.lit (.bool r.made))]) := by
 generalize hR : rdErr r = R
 refine MCalls.of_body tabOk Try.func67 rfl rfl rfl rfl rfl rfl rfl mixed fun E hP C hI => ?_
 refine Awp.consP C ?_
 refine rvP C (.pv (.lit (.int .i64 0))) ?_
 refine rvc_nil ?_
 refine Awp.seq ?_
 refine Awp.consP C ?_
 refine rvP C (.ptr 0 0) ?_
 refine rvc_un (rexec_eqPtr C false true (z := .pv (.lit (.bool false))) rfl rfl rfl rfl rfl rfl rfl rfl rfl ?_)
 refine rvP C (.pv (.lit (.bool false))) ?_
 refine rvO C (.ptr 0 0) ?_
 refine rvO C (.ptr 0 0) ?_
 refine rvO C (.ptr 0 3) ?_
 refine rvO C (.pv (.lit (.bool r.made))) ?_
 refine rvO C (.pv (.lit (.bool (!r.made)))) ?_
 refine rvP C (.pv (.lit (.bool (!r.made)))) ?_
 refine rvc_nil ?_
 refine Awp.cond (b := (!r.made)) rfl (fun h1 => ?_) (fun h1 => ?_)
 ·
  replace hR := of_true h1 hR
  refine Awp.consP C ?_
  refine rvP C (.pv (.lit (.int .i64 6))) ?_
  refine rvc_nil ?_
  refine Awp.ret ?_
  subst hR
  exact ⟨.inl rfl, rfl, rfl⟩
 ·
  replace hR := of_false h1 hR
  refine Awp.skip ?_
  refine Awp.consP C ?_
  refine rvP C (.ptr 0 0) ?_
  refine rvP C (.ptr 0 0) ?_
  refine rvP C (.ptr 0 2) ?_
  refine rvP C (.pv (.lit (.int .i64 r.err))) ?_
  refine rvP C (.pv (.lit (.int .i64 r.err))) ?_
  refine rvc_nil ?_
  refine Awp.ret ?_
  subst hR
  exact ⟨.inl rfl, rfl, rfl⟩
def rdEnd (r : Reader) : Int :=
  (bif ((rdErr r) != 0) then (rdErr r) else (bif (decide (r.at_ < (r.b.D.length : Int))) then 3 else 0))
theorem rdEnd_calls (r : Reader)  : MCalls Try.prog 49 [.ptr 0 0] (.cells [sS (some r.b.nil) (eI .u8) r.b.D, .pv (.lit (.int .i64 r.at_)), .pv (.lit (.int .i64 r.err)), .pv (.lit (.bool r.made))]) (.pv (.lit (.int .i64 (rdEnd r)))) (.cells [sS (some r.b.nil) (eI .u8) r.b.D, .pv (.lit (.int .i64 r.at_)), .pv (.lit (.int .i64 r.err)), .pv (.lit (.bool r.made))]) := by
 generalize hR : rdEnd r = R
 refine MCalls.of_body tabOk Try.func49 rfl rfl rfl rfl rfl rfl rfl mixed fun E hP C hI => ?_
 refine Awp.consP C ?_
 refine rvP C (.pv (.lit (.int .i64 0))) ?_
 refine rvc_nil ?_
 refine Awp.seq ?_
 refine Awp.cons C (fun _ => .writer) (by kernel_rfl) ?_
 refine rvP C (.ptr 0 0) ?_
 refine rvc_un (rexec_callM hP C (b := 0) rfl rfl rfl (rdErr_calls r) rfl rfl ?_)
 refine rvP C (.pv (.lit (.int .i64 (rdErr r)))) ?_
 refine rvc_nil ?_
 refine Awp.consP C ?_
 refine rvP C (.pv (.lit (.int .i64 (rdErr r)))) ?_
 refine rvP C (.pv (.lit (.bool ((rdErr r) != 0)))) ?_
 refine rvc_nil ?_
 refine Awp.cond (b := ((rdErr r) != 0)) rfl (fun h1 => ?_) (fun h1 => ?_)
 ·
  replace hR := of_true h1 hR
  refine Awp.consP C ?_
  refine rvP C (.pv (.lit (.int .i64 (rdErr r)))) ?_
  refine rvP C (.pv (.lit (.int .i64 (rdErr r)))) ?_
  refine rvc_nil ?_
  refine Awp.ret ?_
  subst hR
  exact ⟨.inl rfl, rfl, rfl⟩
 ·
  replace hR := of_false h1 hR
  refine Awp.skip ?_
  refine Awp.seq ?_
  refine Awp.consP C ?_
  refine rvP C (.ptr 0 0) ?_
  refine rvP C (.ptr 0 0) ?_
  refine rvP C (.ptr 0 1) ?_
  refine rvP C (.pv (.lit (.int .i64 r.at_))) ?_
  refine rvP C (.ptr 0 0) ?_
  refine rvP C (.ptr 0 0) ?_
  refine rvP C (.ptr 0 0) ?_
  refine rvP C (sS (some r.b.nil) (eI .u8) r.b.D) ?_
  refine rvP C (.pv (.lit (.int .i64 (r.b.D.length : Int)))) ?_
  refine rvP C (.pv (.lit (.bool (decide (r.at_ < (r.b.D.length : Int)))))) ?_
  refine rvc_nil ?_
  refine Awp.cond (b := (decide (r.at_ < (r.b.D.length : Int)))) rfl (fun h2 => ?_) (fun h2 => ?_)
  ·
   replace hR := of_true h2 hR
   refine Awp.consP C ?_
   refine rvP C (.pv (.lit (.int .i64 3))) ?_
   refine rvc_nil ?_
   refine Awp.ret ?_
   subst hR
   exact ⟨.inl rfl, rfl, rfl⟩
  ·
   replace hR := of_false h2 hR
   refine Awp.skip ?_
   refine Awp.consP C ?_
   refine rvP C (.pv (.lit (.int .i64 0))) ?_
   refine rvc_nil ?_
   refine Awp.ret ?_
   subst hR
   exact ⟨.inl rfl, rfl, rfl⟩
def rdLeft (r : Reader) : Int :=
  (bif ((rdErr r) == 6) then 0 else (IntKind.i64.wrap ((r.b.D.length : Int) - r.at_)))
theorem rdLeft_calls (r : Reader)  : MCalls Try.prog 65 [.ptr 0 0] (.cells [sS (some r.b.nil) (eI .u8) r.b.D, .pv (.lit (.int .i64 r.at_)), .pv (.lit (.int .i64 r.err)), .pv (.lit (.bool r.made))]) (.pv (.lit (.int .i64 (rdLeft r)))) (.cells [sS (some r.b.nil) (eI .u8) r.b.D, .pv (.lit (.int .i64 r.at_)), .pv (.lit (.int .i64 r.err)), .pv (.lit (.bool r.made))]) := by
 generalize hR : rdLeft r = R
 refine MCalls.of_body tabOk Try.func65 rfl rfl rfl rfl rfl rfl rfl mixed fun E hP C hI => ?_
 refine Awp.consP C ?_
 refine rvP C (.pv (.lit (.int .i64 0))) ?_
 refine rvc_nil ?_
 refine Awp.seq ?_
 refine Awp.cons C (fun _ => .writer) (by kernel_rfl) ?_
 refine rvP C (.ptr 0 0) ?_
 refine rvc_un (rexec_callM hP C (b := 0) rfl rfl rfl (rdErr_calls r) rfl rfl ?_)
 refine rvP C (.pv (.lit (.bool ((rdErr r) == 6)))) ?_
 refine rvc_nil ?_
 refine Awp.cond (b := ((rdErr r) == 6)) rfl (fun h1 => ?_) (fun h1 => ?_)
 ·
  replace hR := of_true h1 hR
  refine Awp.consP C ?_
  refine rvP C (.pv (.lit (.int .i64 0))) ?_
  refine rvc_nil ?_
  refine Awp.ret ?_
  subst hR
  exact ⟨.inl rfl, rfl, rfl⟩
 ·
  replace hR := of_false h1 hR
  refine Awp.skip ?_
  refine Awp.consP C ?_
  refine rvP C (.ptr 0 0) ?_
  refine rvP C (.ptr 0 0) ?_
  refine rvP C (.ptr 0 0) ?_
  refine rvP C (sS (some r.b.nil) (eI .u8) r.b.D) ?_
  refine rvP C (.pv (.lit (.int .i64 (r.b.D.length : Int)))) ?_
  refine rvP C (.ptr 0 0) ?_
  refine rvP C (.ptr 0 0) ?_
  refine rvP C (.ptr 0 1) ?_
  refine rvP C (.pv (.lit (.int .i64 r.at_))) ?_
  refine rvP C (.pv (.lit (.int .i64 (IntKind.i64.wrap ((r.b.D.length : Int) - r.at_))))) ?_
  refine rvP C (.pv (.lit (.int .i64 (IntKind.i64.wrap ((r.b.D.length : Int) - r.at_))))) ?_
  refine rvc_nil ?_
  refine Awp.ret ?_
  subst hR
  exact ⟨.inl rfl, rfl, rfl⟩
def rdStop (r : Reader) (at_ : Int) (e_ : Int) : Reader :=
  (bif (r.err == 0) then (Reader.mk r.b at_ e_ r.made) else r)
theorem rdStop_calls (r : Reader) (at_ : Int) (e_ : Int)  : MCalls Try.prog 68 [.ptr 0 0, .pv (.lit (.int .i64 at_)), .pv (.lit (.int .i64 e_))] (.cells [sS (some r.b.nil) (eI .u8) r.b.D, .pv (.lit (.int .i64 r.at_)), .pv (.lit (.int .i64 r.err)), .pv (.lit (.bool r.made))]) (.tup []) (.cells [sS (some (rdStop r at_ e_).b.nil) (eI .u8) ((rdStop r at_ e_).b.D), .pv (.lit (.int .i64 ((rdStop r at_ e_).at_))), .pv (.lit (.int .i64 ((rdStop r at_ e_).err))), .pv (.lit (.bool ((rdStop r at_ e_).made)))]) := by
 generalize hR : rdStop r at_ e_ = R
 refine MCalls.of_body tabOk Try.func68 rfl rfl rfl rfl rfl rfl rfl mixed fun E hP C hI => ?_
 refine Awp.consP C ?_
 refine rvP C (.ptr 0 0) ?_
 refine rvP C (.ptr 0 0) ?_
 refine rvP C (.ptr 0 2) ?_
 refine rvP C (.pv (.lit (.int .i64 r.err))) ?_
 refine rvP C (.pv (.lit (.bool (r.err == 0)))) ?_
 refine rvc_nil ?_
 refine Awp.cond (b := (r.err == 0)) rfl (fun h1 => ?_) (fun h1 => ?_)
 ·
  replace hR := of_true h1 hR
  refine Awp.regionP C ?_
  refine rvP C (.ptr 0 0) ?_
  refine rvP C (.ptr 0 0) ?_
  refine rvP C (.pv (.lit (.int .i64 at_))) ?_
  refine rvP C (.pv (.lit (.int .i64 e_))) ?_
  refine rvP C (.ptr 0 0) ?_
  refine rvP C (.ptr 0 1) ?_
  refine rvc_un (rexec_prim C (δ := { v := .undef, wr := [(0, some (.cells [sS (some r.b.nil) (eI .u8) r.b.D, .pv (.lit (.int .i64 at_)), .pv (.lit (.int .i64 r.err)), .pv (.lit (.bool r.made))]))] }) rfl rfl rfl rfl trivial rfl ?_)
  refine rvP C (.ptr 0 0) ?_
  refine rvP C (.ptr 0 2) ?_
  refine rvc_un (rexec_prim C (δ := { v := .undef, wr := [(0, some (.cells [sS (some r.b.nil) (eI .u8) r.b.D, .pv (.lit (.int .i64 at_)), .pv (.lit (.int .i64 e_)), .pv (.lit (.bool r.made))]))] }) rfl rfl rfl rfl trivial rfl ?_)
  refine rvc_nil ?_
  subst hR
  exact ⟨.inr rfl, rfl, rfl⟩
 ·
  replace hR := of_false h1 hR
  refine Awp.skip ?_
  subst hR
  exact ⟨.inr rfl, rfl, rfl⟩
def rdNum_l0 (r : Reader) : Nat → Int → Int → Reader → Reader × Int
  | 0, _, _, _ => default
  | nn + 1, n, shift, vc => (bif (vc.at_ == (vc.b.D.length : Int)) then ((rdStop vc r.at_ 2), 0) else (bif (shift == 63) then (bif (decide ((IntKind.u64.wrap (bitI .and .u8 (vc.b.D[vc.at_.toNat]!) 127)) > 1)) then ((rdStop (Reader.mk vc.b (IntKind.i64.wrap (vc.at_ + 1)) vc.err vc.made) r.at_ 5), 0) else (bif (decide (shift > 63)) then ((rdStop (Reader.mk vc.b (IntKind.i64.wrap (vc.at_ + 1)) vc.err vc.made) r.at_ 5), 0) else (bif ((vc.b.D[vc.at_.toNat]!) == 0) then (bif (decide (shift > 0)) then ((rdStop (Reader.mk vc.b (IntKind.i64.wrap (vc.at_ + 1)) vc.err vc.made) r.at_ 10), 0) else (bif (decide ((vc.b.D[vc.at_.toNat]!) < 128)) then ((Reader.mk vc.b (IntKind.i64.wrap (vc.at_ + 1)) vc.err vc.made), (bitI .or .u64 n (shlI .u64 (IntKind.u64.wrap (bitI .and .u8 (vc.b.D[vc.at_.toNat]!) 127)) shift))) else rdNum_l0 r nn (bitI .or .u64 n (shlI .u64 (IntKind.u64.wrap (bitI .and .u8 (vc.b.D[vc.at_.toNat]!) 127)) shift)) (IntKind.i64.wrap (shift + 7)) (Reader.mk vc.b (IntKind.i64.wrap (vc.at_ + 1)) vc.err vc.made))) else (bif (decide ((vc.b.D[vc.at_.toNat]!) < 128)) then ((Reader.mk vc.b (IntKind.i64.wrap (vc.at_ + 1)) vc.err vc.made), (bitI .or .u64 n (shlI .u64 (IntKind.u64.wrap (bitI .and .u8 (vc.b.D[vc.at_.toNat]!) 127)) shift))) else rdNum_l0 r nn (bitI .or .u64 n (shlI .u64 (IntKind.u64.wrap (bitI .and .u8 (vc.b.D[vc.at_.toNat]!) 127)) shift)) (IntKind.i64.wrap (shift + 7)) (Reader.mk vc.b (IntKind.i64.wrap (vc.at_ + 1)) vc.err vc.made))))) else (bif (decide (shift > 63)) then ((rdStop (Reader.mk vc.b (IntKind.i64.wrap (vc.at_ + 1)) vc.err vc.made) r.at_ 5), 0) else (bif ((vc.b.D[vc.at_.toNat]!) == 0) then (bif (decide (shift > 0)) then ((rdStop (Reader.mk vc.b (IntKind.i64.wrap (vc.at_ + 1)) vc.err vc.made) r.at_ 10), 0) else (bif (decide ((vc.b.D[vc.at_.toNat]!) < 128)) then ((Reader.mk vc.b (IntKind.i64.wrap (vc.at_ + 1)) vc.err vc.made), (bitI .or .u64 n (shlI .u64 (IntKind.u64.wrap (bitI .and .u8 (vc.b.D[vc.at_.toNat]!) 127)) shift))) else rdNum_l0 r nn (bitI .or .u64 n (shlI .u64 (IntKind.u64.wrap (bitI .and .u8 (vc.b.D[vc.at_.toNat]!) 127)) shift)) (IntKind.i64.wrap (shift + 7)) (Reader.mk vc.b (IntKind.i64.wrap (vc.at_ + 1)) vc.err vc.made))) else (bif (decide ((vc.b.D[vc.at_.toNat]!) < 128)) then ((Reader.mk vc.b (IntKind.i64.wrap (vc.at_ + 1)) vc.err vc.made), (bitI .or .u64 n (shlI .u64 (IntKind.u64.wrap (bitI .and .u8 (vc.b.D[vc.at_.toNat]!) 127)) shift))) else rdNum_l0 r nn (bitI .or .u64 n (shlI .u64 (IntKind.u64.wrap (bitI .and .u8 (vc.b.D[vc.at_.toNat]!) 127)) shift)) (IntKind.i64.wrap (shift + 7)) (Reader.mk vc.b (IntKind.i64.wrap (vc.at_ + 1)) vc.err vc.made))))))
def rdNum (r : Reader) : Reader × Int :=
  (bif ((rdErr r) != 0) then (r, 0) else rdNum_l0 r ((r.b.D.length - r.at_.toNat) + 1) 0 0 r)
theorem rdNum_calls (r : Reader) (hk : (0 ≤ r.at_ ∧ r.at_ ≤ (r.b.D.length : Int)) ∧ r.b.D.length ≤ 1000000) : MCalls Try.prog 66 [.ptr 0 0] (.cells [sS (some r.b.nil) (eI .u8) r.b.D, .pv (.lit (.int .i64 r.at_)), .pv (.lit (.int .i64 r.err)), .pv (.lit (.bool r.made))]) (.pv (.lit (.int .u64 ((rdNum r).2)))) (.cells [sS (some (rdNum r).1.b.nil) (eI .u8) ((rdNum r).1.b.D), .pv (.lit (.int .i64 ((rdNum r).1.at_))), .pv (.lit (.int .i64 ((rdNum r).1.err))), .pv (.lit (.bool ((rdNum r).1.made)))]) := by
 generalize hR : rdNum r = R
 refine MCalls.of_body tabOk Try.func66 rfl rfl rfl rfl rfl rfl rfl mixed fun E hP C hI => ?_
 refine Awp.consP C ?_
 refine rvP C (.pv (.lit (.int .u64 0))) ?_
 refine rvc_nil ?_
 refine Awp.seq ?_
 refine Awp.cons C (fun _ => .writer) (by kernel_rfl) ?_
 refine rvP C (.ptr 0 0) ?_
 refine rvc_un (rexec_callM hP C (b := 0) rfl rfl rfl (rdErr_calls r) rfl rfl ?_)
 refine rvP C (.pv (.lit (.bool ((rdErr r) != 0)))) ?_
 refine rvc_nil ?_
 refine Awp.cond (b := ((rdErr r) != 0)) rfl (fun h1 => ?_) (fun h1 => ?_)
 ·
  replace hR := of_true h1 hR
  refine Awp.consP C ?_
  refine rvP C (.pv (.lit (.int .u64 0))) ?_
  refine rvc_nil ?_
  refine Awp.ret ?_
  subst hR
  exact ⟨.inl rfl, rfl, rfl⟩
 ·
  replace hR := of_false h1 hR
  refine Awp.skip ?_
  refine Awp.consP C ?_
  refine rvP C (.ptr 0 0) ?_
  refine rvP C (.ptr 0 0) ?_
  refine rvP C (.ptr 0 1) ?_
  refine rvP C (.pv (.lit (.int .i64 r.at_))) ?_
  refine rvP C (.pv (.lit (.int .u64 0))) ?_
  refine rvP C (.pv (.lit (.int .i64 r.at_))) ?_
  refine rvc_nil ?_
  refine Awp.consP C ?_
  refine rvP C (.pv (.lit (.int .i64 0))) ?_
  refine rvc_nil ?_
  refine Awp.block ?_
  refine Awp.forM (σ := Int × Int × Reader) (fun v => [(0, .ptr 0 0), (3, .pv (.lit (.int .u64 v.1))), (4, .pv (.lit (.int .i64 r.at_))), (5, .pv (.lit (.int .i64 v.2.1)))]) (fun v => [(0, .cells [sS (some v.2.2.b.nil) (eI .u8) v.2.2.b.D, .pv (.lit (.int .i64 v.2.2.at_)), .pv (.lit (.int .i64 v.2.2.err)), .pv (.lit (.bool v.2.2.made))])]) [0] (fun n v => n = (v.2.2.b.D.length - v.2.2.at_.toNat) ∧ rdNum_l0 r ((v.2.2.b.D.length - v.2.2.at_.toNat) + 1) v.1 v.2.1 v.2.2 = R ∧ (((0 ≤ v.2.2.at_ ∧ v.2.2.at_ ≤ (v.2.2.b.D.length : Int)) ∧ v.2.2.b.D.length ≤ 1000000) ∧ 0 ≤ v.2.1 ∧ v.2.1 ≤ 70)) ((r.b.D.length - r.at_.toNat)) (0, 0, r) ?_ ?_ (fun _ v h2 => ?_)
  · exact ⟨rfl, hR, ⟨hk, (by dsimp only; omega)⟩⟩
  · exact ⟨fun b => b, WeakerR.ofLI (I := [0]) (Ks := [0]) hI ⟨⟨rfl, rfl⟩, ⟨rfl, rfl⟩, ⟨rfl, rfl⟩, ⟨rfl, rfl⟩, trivial⟩ (okH_cons rfl rfl rfl rfl (okH_nil)) rfl rfl⟩
  obtain ⟨n, shift, vc⟩ := v
  obtain ⟨rfl, hR, ⟨hVk, hVs⟩⟩ := h2
  replace hVk : (0 ≤ vc.at_ ∧ vc.at_ ≤ (vc.b.D.length : Int)) ∧ vc.b.D.length ≤ 1000000 := hVk
  replace hVs : 0 ≤ shift ∧ shift ≤ 70 := hVs
  refine Awp.seq ?_
  refine Awp.block ?_
  refine Awp.seq ?_
  refine Awp.consP C ?_
  refine rvP C (.ptr 0 0) ?_
  refine rvP C (.ptr 0 0) ?_
  refine rvP C (.ptr 0 1) ?_
  refine rvP C (.pv (.lit (.int .i64 vc.at_))) ?_
  refine rvP C (.ptr 0 0) ?_
  refine rvP C (.ptr 0 0) ?_
  refine rvP C (.ptr 0 0) ?_
  refine rvP C (sS (some vc.b.nil) (eI .u8) vc.b.D) ?_
  refine rvP C (.pv (.lit (.int .i64 (vc.b.D.length : Int)))) ?_
  refine rvP C (.pv (.lit (.bool (vc.at_ == (vc.b.D.length : Int))))) ?_
  refine rvc_nil ?_
  refine Awp.cond (b := (vc.at_ == (vc.b.D.length : Int))) rfl (fun h4 => ?_) (fun h4 => ?_)
  ·
   replace hR := of_true h4 hR
   refine Awp.cons C (fun _ => .writer) (by kernel_rfl) ?_
   refine rvP C (.ptr 0 0) ?_
   refine rvP C (.pv (.lit (.int .i64 r.at_))) ?_
   refine rvc_un (rexec_callM hP C (b := 0) rfl rfl rfl (rdStop_calls vc r.at_ 2) rfl rfl ?_)
   refine rvc_nil ?_
   refine Awp.consP C ?_
   refine rvP C (.pv (.lit (.int .u64 0))) ?_
   refine rvc_nil ?_
   refine Awp.ret ?_
   subst hR
   exact ⟨.inl rfl, rfl, rfl⟩
  ·
   replace hR := of_false h4 hR
   refine Awp.skip ?_
   refine Awp.consP C ?_
   refine rvP C (.ptr 0 0) ?_
   refine rvP C (.ptr 0 0) ?_
   refine rvP C (.ptr 0 0) ?_
   refine rvP C (sS (some vc.b.nil) (eI .u8) vc.b.D) ?_
   refine rvP C (.ptr 0 0) ?_
   refine rvP C (.ptr 0 0) ?_
   refine rvP C (.ptr 0 1) ?_
   refine rvP C (.pv (.lit (.int .i64 vc.at_))) ?_
   have h5 : vc.b.D[vc.at_.toNat]? = some vc.b.D[vc.at_.toNat]! := getE (by have := ne_of_beq_false ‹(vc.at_ == (vc.b.D.length : Int)) = false›; omega)
   refine rvc_un (rexec_idxS C rfl rfl rfl rfl rfl rfl (vc.b.D[vc.at_.toNat]!) (by have := eq_of_bne_false h1; have := ne_of_beq_false h4; omega) h5 ?_)
   refine rvP C (.pv (.lit (.int .u8 (vc.b.D[vc.at_.toNat]!)))) ?_
   refine rvP C (.pv (.lit (.int .u8 (vc.b.D[vc.at_.toNat]!)))) ?_
   refine rvc_nil ?_
   refine Awp.consP C ?_
   refine rvP C (.ptr 0 0) ?_
   refine rvP C (.ptr 0 0) ?_
   refine rvP C (.ptr 0 1) ?_
   refine rvP C (.pv (.lit (.int .i64 vc.at_))) ?_
   refine rvP C (.pv (.lit (.int .i64 (IntKind.i64.wrap (vc.at_ + 1))))) ?_
   refine rvP C (.ptr 0 0) ?_
   refine rvP C (.ptr 0 1) ?_
   refine rvc_un (rexec_prim C (δ := { v := .undef, wr := [(0, some (.cells [sS (some vc.b.nil) (eI .u8) vc.b.D, .pv (.lit (.int .i64 (IntKind.i64.wrap (vc.at_ + 1)))), .pv (.lit (.int .i64 vc.err)), .pv (.lit (.bool vc.made))]))] }) rfl rfl rfl rfl trivial rfl ?_)
   refine rvc_nil ?_
   refine Awp.consP C ?_
   refine rvP C (.pv (.lit (.int .u8 (vc.b.D[vc.at_.toNat]!)))) ?_
   refine rvP C (.pv (.lit (.int .u8 (bitI .and .u8 (vc.b.D[vc.at_.toNat]!) 127)))) ?_
   refine rvP C (.pv (.lit (.int .u64 (IntKind.u64.wrap (bitI .and .u8 (vc.b.D[vc.at_.toNat]!) 127))))) ?_
   refine rvP C (.pv (.lit (.int .u64 (IntKind.u64.wrap (bitI .and .u8 (vc.b.D[vc.at_.toNat]!) 127))))) ?_
   refine rvc_nil ?_
   refine Awp.seq ?_
   refine Awp.block ?_
   refine Awp.consP C ?_
   refine rvP C (.pv (.lit (.int .i64 shift))) ?_
   refine rvP C (.pv (.lit (.bool (shift == 63)))) ?_
   refine rvP C (.pv (.lit (.bool (shift == 63)))) ?_
   refine rvc_case 53 (shift == 63) rfl (fun h6 => ?_) (fun h6 => ?_)
   ·
    replace hR := of_true h6 hR
    refine rvO C (.pv (.lit (.int .u64 (IntKind.u64.wrap (bitI .and .u8 (vc.b.D[vc.at_.toNat]!) 127))))) ?_
    refine rvO C (.pv (.lit (.bool (decide ((IntKind.u64.wrap (bitI .and .u8 (vc.b.D[vc.at_.toNat]!) 127)) > 1))))) ?_
    refine rvP C (.pv (.lit (.bool (decide ((IntKind.u64.wrap (bitI .and .u8 (vc.b.D[vc.at_.toNat]!) 127)) > 1))))) ?_
    refine rvP C (.pv (.lit (.bool (decide ((IntKind.u64.wrap (bitI .and .u8 (vc.b.D[vc.at_.toNat]!) 127)) > 1))))) ?_
    refine rvc_case 57 (decide ((IntKind.u64.wrap (bitI .and .u8 (vc.b.D[vc.at_.toNat]!) 127)) > 1)) rfl (fun h7 => ?_) (fun h7 => ?_)
    ·
     replace hR := of_true h7 hR
     refine rvS ?_
     refine rvS ?_
     refine rvP C (.pv (.lit (.bool true))) ?_
     refine rvP C (.pv (.lit (.bool true))) ?_
     refine rvc_nil ?_
     refine Awp.condT (b := true) rfl rfl ?_
     refine Awp.cons C (fun _ => .writer) (by kernel_rfl) ?_
     refine rvP C (.ptr 0 0) ?_
     refine rvP C (.pv (.lit (.int .i64 r.at_))) ?_
     refine rvc_un (rexec_callM hP C (b := 0) rfl rfl rfl (rdStop_calls (Reader.mk vc.b (IntKind.i64.wrap (vc.at_ + 1)) vc.err vc.made) r.at_ 5) rfl rfl ?_)
     refine rvc_nil ?_
     refine Awp.consP C ?_
     refine rvP C (.pv (.lit (.int .u64 0))) ?_
     refine rvc_nil ?_
     refine Awp.ret ?_
     subst hR
     exact ⟨.inl rfl, rfl, rfl⟩
    ·
     replace hR := of_false h7 hR
     refine rvO C (.pv (.lit (.int .i64 shift))) ?_
     refine rvO C (.pv (.lit (.bool (decide (shift > 63))))) ?_
     refine rvP C (.pv (.lit (.bool (decide (shift > 63))))) ?_
     refine rvP C (.pv (.lit (.bool (decide (shift > 63))))) ?_
     refine rvc_nil ?_
     refine Awp.cond (b := (decide (shift > 63))) rfl (fun h8 => ?_) (fun h8 => ?_)
     ·
      replace hR := of_true h8 hR
      refine Awp.cons C (fun _ => .writer) (by kernel_rfl) ?_
      refine rvP C (.ptr 0 0) ?_
      refine rvP C (.pv (.lit (.int .i64 r.at_))) ?_
      refine rvc_un (rexec_callM hP C (b := 0) rfl rfl rfl (rdStop_calls (Reader.mk vc.b (IntKind.i64.wrap (vc.at_ + 1)) vc.err vc.made) r.at_ 5) rfl rfl ?_)
      refine rvc_nil ?_
      refine Awp.consP C ?_
      refine rvP C (.pv (.lit (.int .u64 0))) ?_
      refine rvc_nil ?_
      refine Awp.ret ?_
      subst hR
      exact ⟨.inl rfl, rfl, rfl⟩
     ·
      replace hR := of_false h8 hR
      refine Awp.consP C ?_
      refine rvP C (.pv (.lit (.int .u8 (vc.b.D[vc.at_.toNat]!)))) ?_
      refine rvP C (.pv (.lit (.bool ((vc.b.D[vc.at_.toNat]!) == 0)))) ?_
      refine rvP C (.pv (.lit (.bool ((vc.b.D[vc.at_.toNat]!) == 0)))) ?_
      refine rvc_case 67 ((vc.b.D[vc.at_.toNat]!) == 0) rfl (fun h9 => ?_) (fun h9 => ?_)
      ·
       replace hR := of_true h9 hR
       refine rvO C (.pv (.lit (.int .i64 shift))) ?_
       refine rvO C (.pv (.lit (.bool (decide (shift > 0))))) ?_
       refine rvP C (.pv (.lit (.bool (decide (shift > 0))))) ?_
       refine rvP C (.pv (.lit (.bool (decide (shift > 0))))) ?_
       refine rvc_nil ?_
       refine Awp.cond (b := (decide (shift > 0))) rfl (fun h10 => ?_) (fun h10 => ?_)
       ·
        replace hR := of_true h10 hR
        refine Awp.cons C (fun _ => .writer) (by kernel_rfl) ?_
        refine rvP C (.ptr 0 0) ?_
        refine rvP C (.pv (.lit (.int .i64 r.at_))) ?_
        refine rvc_un (rexec_callM hP C (b := 0) rfl rfl rfl (rdStop_calls (Reader.mk vc.b (IntKind.i64.wrap (vc.at_ + 1)) vc.err vc.made) r.at_ 10) rfl rfl ?_)
        refine rvc_nil ?_
        refine Awp.consP C ?_
        refine rvP C (.pv (.lit (.int .u64 0))) ?_
        refine rvc_nil ?_
        refine Awp.ret ?_
        subst hR
        exact ⟨.inl rfl, rfl, rfl⟩
       ·
        replace hR := of_false h10 hR
        refine Awp.skip ?_
        refine Awp.consP C ?_
        refine rvP C (.pv (.lit (.int .u64 n))) ?_
        refine rvP C (.pv (.lit (.int .u64 (IntKind.u64.wrap (bitI .and .u8 (vc.b.D[vc.at_.toNat]!) 127))))) ?_
        refine rvP C (.pv (.lit (.int .i64 shift))) ?_
        refine rvc_un (rexec_prim C (δ := { v := .pv (.lit (.int .u64 (shlI .u64 (IntKind.u64.wrap (bitI .and .u8 (vc.b.D[vc.at_.toNat]!) 127)) shift))) }) rfl rfl rfl rfl (by omega) rfl ?_)
        refine rvP C (.pv (.lit (.int .u64 (bitI .or .u64 n (shlI .u64 (IntKind.u64.wrap (bitI .and .u8 (vc.b.D[vc.at_.toNat]!) 127)) shift))))) ?_
        refine rvP C (.pv (.lit (.int .u64 (bitI .or .u64 n (shlI .u64 (IntKind.u64.wrap (bitI .and .u8 (vc.b.D[vc.at_.toNat]!) 127)) shift))))) ?_
        refine rvc_nil ?_
        refine Awp.consP C ?_
        refine rvP C (.pv (.lit (.int .u8 (vc.b.D[vc.at_.toNat]!)))) ?_
        refine rvP C (.pv (.lit (.bool (decide ((vc.b.D[vc.at_.toNat]!) < 128))))) ?_
        refine rvc_nil ?_
        refine Awp.cond (b := (decide ((vc.b.D[vc.at_.toNat]!) < 128))) rfl (fun h11 => ?_) (fun h11 => ?_)
        ·
         replace hR := of_true h11 hR
         refine Awp.consP C ?_
         refine rvP C (.pv (.lit (.int .u64 (bitI .or .u64 n (shlI .u64 (IntKind.u64.wrap (bitI .and .u8 (vc.b.D[vc.at_.toNat]!) 127)) shift))))) ?_
         refine rvP C (.pv (.lit (.int .u64 (bitI .or .u64 n (shlI .u64 (IntKind.u64.wrap (bitI .and .u8 (vc.b.D[vc.at_.toNat]!) 127)) shift))))) ?_
         refine rvc_nil ?_
         refine Awp.ret ?_
         subst hR
         exact ⟨.inl rfl, rfl, rfl⟩
        ·
         replace hR := of_false h11 hR
         refine Awp.skip ?_
         refine Awp.regionP C ?_
         refine rvP C (.pv (.lit (.int .i64 shift))) ?_
         refine rvP C (.pv (.lit (.int .i64 (IntKind.i64.wrap (shift + 7))))) ?_
         refine rvP C (.pv (.lit (.int .i64 (IntKind.i64.wrap (shift + 7))))) ?_
         refine rvc_nil ?_
         refine ⟨_, ((bitI .or .u64 n (shlI .u64 (IntKind.u64.wrap (bitI .and .u8 (vc.b.D[vc.at_.toNat]!) 127)) shift)), (IntKind.i64.wrap (shift + 7)), (Reader.mk vc.b (IntKind.i64.wrap (vc.at_ + 1)) vc.err vc.made)), ?_, ⟨rfl, (by rw [show ((Reader.mk vc.b (IntKind.i64.wrap (vc.at_ + 1)) vc.err vc.made).b.D.length - (Reader.mk vc.b (IntKind.i64.wrap (vc.at_ + 1)) vc.err vc.made).at_.toNat) + 1 = (vc.b.D.length - vc.at_.toNat) by (have := wrapI (vc.at_ + 1); have := ne_of_beq_false ‹(vc.at_ == (vc.b.D.length : Int)) = false›; dsimp only; omega)]; exact hR), ⟨(by have := wrapI (vc.at_ + 1); have := ne_of_beq_false ‹(vc.at_ == (vc.b.D.length : Int)) = false›; dsimp only; omega), (by have := wrapI (shift + 7); have := of_decide_eq_false ‹decide (shift > 63) = false›; dsimp only; omega)⟩⟩, ?_⟩
         · show ((Reader.mk vc.b (IntKind.i64.wrap (vc.at_ + 1)) vc.err vc.made).b.D.length - (Reader.mk vc.b (IntKind.i64.wrap (vc.at_ + 1)) vc.err vc.made).at_.toNat) < (vc.b.D.length - vc.at_.toNat); (have := wrapI (vc.at_ + 1); have := ne_of_beq_false ‹(vc.at_ == (vc.b.D.length : Int)) = false›; dsimp only; omega)
         · exact ⟨fun b => b, WeakerR.ofLI (I := [0]) (Ks := [0]) hI ⟨⟨rfl, rfl⟩, ⟨rfl, rfl⟩, ⟨rfl, rfl⟩, ⟨rfl, rfl⟩, trivial⟩ (okH_cons rfl rfl rfl rfl (okH_nil)) rfl rfl⟩
      ·
       replace hR := of_false h9 hR
       refine rvS ?_
       refine rvS ?_
       refine rvP C (.pv (.lit (.bool false))) ?_
       refine rvP C (.pv (.lit (.bool false))) ?_
       refine rvc_nil ?_
       refine Awp.condF (b := false) rfl rfl ?_
       refine Awp.skip ?_
       refine Awp.consP C ?_
       refine rvP C (.pv (.lit (.int .u64 n))) ?_
       refine rvP C (.pv (.lit (.int .u64 (IntKind.u64.wrap (bitI .and .u8 (vc.b.D[vc.at_.toNat]!) 127))))) ?_
       refine rvP C (.pv (.lit (.int .i64 shift))) ?_
       refine rvc_un (rexec_prim C (δ := { v := .pv (.lit (.int .u64 (shlI .u64 (IntKind.u64.wrap (bitI .and .u8 (vc.b.D[vc.at_.toNat]!) 127)) shift))) }) rfl rfl rfl rfl (by omega) rfl ?_)
       refine rvP C (.pv (.lit (.int .u64 (bitI .or .u64 n (shlI .u64 (IntKind.u64.wrap (bitI .and .u8 (vc.b.D[vc.at_.toNat]!) 127)) shift))))) ?_
       refine rvP C (.pv (.lit (.int .u64 (bitI .or .u64 n (shlI .u64 (IntKind.u64.wrap (bitI .and .u8 (vc.b.D[vc.at_.toNat]!) 127)) shift))))) ?_
       refine rvc_nil ?_
       refine Awp.consP C ?_
       refine rvP C (.pv (.lit (.int .u8 (vc.b.D[vc.at_.toNat]!)))) ?_
       refine rvP C (.pv (.lit (.bool (decide ((vc.b.D[vc.at_.toNat]!) < 128))))) ?_
       refine rvc_nil ?_
       refine Awp.cond (b := (decide ((vc.b.D[vc.at_.toNat]!) < 128))) rfl (fun h12 => ?_) (fun h12 => ?_)
       ·
        replace hR := of_true h12 hR
        refine Awp.consP C ?_
        refine rvP C (.pv (.lit (.int .u64 (bitI .or .u64 n (shlI .u64 (IntKind.u64.wrap (bitI .and .u8 (vc.b.D[vc.at_.toNat]!) 127)) shift))))) ?_
        refine rvP C (.pv (.lit (.int .u64 (bitI .or .u64 n (shlI .u64 (IntKind.u64.wrap (bitI .and .u8 (vc.b.D[vc.at_.toNat]!) 127)) shift))))) ?_
        refine rvc_nil ?_
        refine Awp.ret ?_
        subst hR
        exact ⟨.inl rfl, rfl, rfl⟩
       ·
        replace hR := of_false h12 hR
        refine Awp.skip ?_
        refine Awp.regionP C ?_
        refine rvP C (.pv (.lit (.int .i64 shift))) ?_
        refine rvP C (.pv (.lit (.int .i64 (IntKind.i64.wrap (shift + 7))))) ?_
        refine rvP C (.pv (.lit (.int .i64 (IntKind.i64.wrap (shift + 7))))) ?_
        refine rvc_nil ?_
        refine ⟨_, ((bitI .or .u64 n (shlI .u64 (IntKind.u64.wrap (bitI .and .u8 (vc.b.D[vc.at_.toNat]!) 127)) shift)), (IntKind.i64.wrap (shift + 7)), (Reader.mk vc.b (IntKind.i64.wrap (vc.at_ + 1)) vc.err vc.made)), ?_, ⟨rfl, (by rw [show ((Reader.mk vc.b (IntKind.i64.wrap (vc.at_ + 1)) vc.err vc.made).b.D.length - (Reader.mk vc.b (IntKind.i64.wrap (vc.at_ + 1)) vc.err vc.made).at_.toNat) + 1 = (vc.b.D.length - vc.at_.toNat) by (have := wrapI (vc.at_ + 1); have := ne_of_beq_false ‹(vc.at_ == (vc.b.D.length : Int)) = false›; dsimp only; omega)]; exact hR), ⟨(by have := wrapI (vc.at_ + 1); have := ne_of_beq_false ‹(vc.at_ == (vc.b.D.length : Int)) = false›; dsimp only; omega), (by have := wrapI (shift + 7); have := of_decide_eq_false ‹decide (shift > 63) = false›; dsimp only; omega)⟩⟩, ?_⟩
        · show ((Reader.mk vc.b (IntKind.i64.wrap (vc.at_ + 1)) vc.err vc.made).b.D.length - (Reader.mk vc.b (IntKind.i64.wrap (vc.at_ + 1)) vc.err vc.made).at_.toNat) < (vc.b.D.length - vc.at_.toNat); (have := wrapI (vc.at_ + 1); have := ne_of_beq_false ‹(vc.at_ == (vc.b.D.length : Int)) = false›; dsimp only; omega)
        · exact ⟨fun b => b, WeakerR.ofLI (I := [0]) (Ks := [0]) hI ⟨⟨rfl, rfl⟩, ⟨rfl, rfl⟩, ⟨rfl, rfl⟩, ⟨rfl, rfl⟩, trivial⟩ (okH_cons rfl rfl rfl rfl (okH_nil)) rfl rfl⟩
   ·
    replace hR := of_false h6 hR
    refine rvS ?_
    refine rvS ?_
    refine rvP C (.pv (.lit (.bool false))) ?_
    refine rvP C (.pv (.lit (.bool false))) ?_
    refine rvO C (.pv (.lit (.int .i64 shift))) ?_
    refine rvO C (.pv (.lit (.bool (decide (shift > 63))))) ?_
    refine rvP C (.pv (.lit (.bool (decide (shift > 63))))) ?_
    refine rvP C (.pv (.lit (.bool (decide (shift > 63))))) ?_
    refine rvc_nil ?_
    refine Awp.cond (b := (decide (shift > 63))) rfl (fun h13 => ?_) (fun h13 => ?_)
    ·
     replace hR := of_true h13 hR
     refine Awp.cons C (fun _ => .writer) (by kernel_rfl) ?_
     refine rvP C (.ptr 0 0) ?_
     refine rvP C (.pv (.lit (.int .i64 r.at_))) ?_
     refine rvc_un (rexec_callM hP C (b := 0) rfl rfl rfl (rdStop_calls (Reader.mk vc.b (IntKind.i64.wrap (vc.at_ + 1)) vc.err vc.made) r.at_ 5) rfl rfl ?_)
     refine rvc_nil ?_
     refine Awp.consP C ?_
     refine rvP C (.pv (.lit (.int .u64 0))) ?_
     refine rvc_nil ?_
     refine Awp.ret ?_
     subst hR
     exact ⟨.inl rfl, rfl, rfl⟩
    ·
     replace hR := of_false h13 hR
     refine Awp.consP C ?_
     refine rvP C (.pv (.lit (.int .u8 (vc.b.D[vc.at_.toNat]!)))) ?_
     refine rvP C (.pv (.lit (.bool ((vc.b.D[vc.at_.toNat]!) == 0)))) ?_
     refine rvP C (.pv (.lit (.bool ((vc.b.D[vc.at_.toNat]!) == 0)))) ?_
     refine rvc_case 67 ((vc.b.D[vc.at_.toNat]!) == 0) rfl (fun h14 => ?_) (fun h14 => ?_)
     ·
      replace hR := of_true h14 hR
      refine rvO C (.pv (.lit (.int .i64 shift))) ?_
      refine rvO C (.pv (.lit (.bool (decide (shift > 0))))) ?_
      refine rvP C (.pv (.lit (.bool (decide (shift > 0))))) ?_
      refine rvP C (.pv (.lit (.bool (decide (shift > 0))))) ?_
      refine rvc_nil ?_
      refine Awp.cond (b := (decide (shift > 0))) rfl (fun h15 => ?_) (fun h15 => ?_)
      ·
       replace hR := of_true h15 hR
       refine Awp.cons C (fun _ => .writer) (by kernel_rfl) ?_
       refine rvP C (.ptr 0 0) ?_
       refine rvP C (.pv (.lit (.int .i64 r.at_))) ?_
       refine rvc_un (rexec_callM hP C (b := 0) rfl rfl rfl (rdStop_calls (Reader.mk vc.b (IntKind.i64.wrap (vc.at_ + 1)) vc.err vc.made) r.at_ 10) rfl rfl ?_)
       refine rvc_nil ?_
       refine Awp.consP C ?_
       refine rvP C (.pv (.lit (.int .u64 0))) ?_
       refine rvc_nil ?_
       refine Awp.ret ?_
       subst hR
       exact ⟨.inl rfl, rfl, rfl⟩
      ·
       replace hR := of_false h15 hR
       refine Awp.skip ?_
       refine Awp.consP C ?_
       refine rvP C (.pv (.lit (.int .u64 n))) ?_
       refine rvP C (.pv (.lit (.int .u64 (IntKind.u64.wrap (bitI .and .u8 (vc.b.D[vc.at_.toNat]!) 127))))) ?_
       refine rvP C (.pv (.lit (.int .i64 shift))) ?_
       refine rvc_un (rexec_prim C (δ := { v := .pv (.lit (.int .u64 (shlI .u64 (IntKind.u64.wrap (bitI .and .u8 (vc.b.D[vc.at_.toNat]!) 127)) shift))) }) rfl rfl rfl rfl (by omega) rfl ?_)
       refine rvP C (.pv (.lit (.int .u64 (bitI .or .u64 n (shlI .u64 (IntKind.u64.wrap (bitI .and .u8 (vc.b.D[vc.at_.toNat]!) 127)) shift))))) ?_
       refine rvP C (.pv (.lit (.int .u64 (bitI .or .u64 n (shlI .u64 (IntKind.u64.wrap (bitI .and .u8 (vc.b.D[vc.at_.toNat]!) 127)) shift))))) ?_
       refine rvc_nil ?_
       refine Awp.consP C ?_
       refine rvP C (.pv (.lit (.int .u8 (vc.b.D[vc.at_.toNat]!)))) ?_
       refine rvP C (.pv (.lit (.bool (decide ((vc.b.D[vc.at_.toNat]!) < 128))))) ?_
       refine rvc_nil ?_
       refine Awp.cond (b := (decide ((vc.b.D[vc.at_.toNat]!) < 128))) rfl (fun h16 => ?_) (fun h16 => ?_)
       ·
        replace hR := of_true h16 hR
        refine Awp.consP C ?_
        refine rvP C (.pv (.lit (.int .u64 (bitI .or .u64 n (shlI .u64 (IntKind.u64.wrap (bitI .and .u8 (vc.b.D[vc.at_.toNat]!) 127)) shift))))) ?_
        refine rvP C (.pv (.lit (.int .u64 (bitI .or .u64 n (shlI .u64 (IntKind.u64.wrap (bitI .and .u8 (vc.b.D[vc.at_.toNat]!) 127)) shift))))) ?_
        refine rvc_nil ?_
        refine Awp.ret ?_
        subst hR
        exact ⟨.inl rfl, rfl, rfl⟩
       ·
        replace hR := of_false h16 hR
        refine Awp.skip ?_
        refine Awp.regionP C ?_
        refine rvP C (.pv (.lit (.int .i64 shift))) ?_
        refine rvP C (.pv (.lit (.int .i64 (IntKind.i64.wrap (shift + 7))))) ?_
        refine rvP C (.pv (.lit (.int .i64 (IntKind.i64.wrap (shift + 7))))) ?_
        refine rvc_nil ?_
        refine ⟨_, ((bitI .or .u64 n (shlI .u64 (IntKind.u64.wrap (bitI .and .u8 (vc.b.D[vc.at_.toNat]!) 127)) shift)), (IntKind.i64.wrap (shift + 7)), (Reader.mk vc.b (IntKind.i64.wrap (vc.at_ + 1)) vc.err vc.made)), ?_, ⟨rfl, (by rw [show ((Reader.mk vc.b (IntKind.i64.wrap (vc.at_ + 1)) vc.err vc.made).b.D.length - (Reader.mk vc.b (IntKind.i64.wrap (vc.at_ + 1)) vc.err vc.made).at_.toNat) + 1 = (vc.b.D.length - vc.at_.toNat) by (have := wrapI (vc.at_ + 1); have := ne_of_beq_false ‹(vc.at_ == (vc.b.D.length : Int)) = false›; dsimp only; omega)]; exact hR), ⟨(by have := wrapI (vc.at_ + 1); have := ne_of_beq_false ‹(vc.at_ == (vc.b.D.length : Int)) = false›; dsimp only; omega), (by have := wrapI (shift + 7); have := of_decide_eq_false ‹decide (shift > 63) = false›; dsimp only; omega)⟩⟩, ?_⟩
        · show ((Reader.mk vc.b (IntKind.i64.wrap (vc.at_ + 1)) vc.err vc.made).b.D.length - (Reader.mk vc.b (IntKind.i64.wrap (vc.at_ + 1)) vc.err vc.made).at_.toNat) < (vc.b.D.length - vc.at_.toNat); (have := wrapI (vc.at_ + 1); have := ne_of_beq_false ‹(vc.at_ == (vc.b.D.length : Int)) = false›; dsimp only; omega)
        · exact ⟨fun b => b, WeakerR.ofLI (I := [0]) (Ks := [0]) hI ⟨⟨rfl, rfl⟩, ⟨rfl, rfl⟩, ⟨rfl, rfl⟩, ⟨rfl, rfl⟩, trivial⟩ (okH_cons rfl rfl rfl rfl (okH_nil)) rfl rfl⟩
     ·
      replace hR := of_false h14 hR
      refine rvS ?_
      refine rvS ?_
      refine rvP C (.pv (.lit (.bool false))) ?_
      refine rvP C (.pv (.lit (.bool false))) ?_
      refine rvc_nil ?_
      refine Awp.condF (b := false) rfl rfl ?_
      refine Awp.skip ?_
      refine Awp.consP C ?_
      refine rvP C (.pv (.lit (.int .u64 n))) ?_
      refine rvP C (.pv (.lit (.int .u64 (IntKind.u64.wrap (bitI .and .u8 (vc.b.D[vc.at_.toNat]!) 127))))) ?_
      refine rvP C (.pv (.lit (.int .i64 shift))) ?_
      refine rvc_un (rexec_prim C (δ := { v := .pv (.lit (.int .u64 (shlI .u64 (IntKind.u64.wrap (bitI .and .u8 (vc.b.D[vc.at_.toNat]!) 127)) shift))) }) rfl rfl rfl rfl (by omega) rfl ?_)
      refine rvP C (.pv (.lit (.int .u64 (bitI .or .u64 n (shlI .u64 (IntKind.u64.wrap (bitI .and .u8 (vc.b.D[vc.at_.toNat]!) 127)) shift))))) ?_
      refine rvP C (.pv (.lit (.int .u64 (bitI .or .u64 n (shlI .u64 (IntKind.u64.wrap (bitI .and .u8 (vc.b.D[vc.at_.toNat]!) 127)) shift))))) ?_
      refine rvc_nil ?_
      refine Awp.consP C ?_
      refine rvP C (.pv (.lit (.int .u8 (vc.b.D[vc.at_.toNat]!)))) ?_
      refine rvP C (.pv (.lit (.bool (decide ((vc.b.D[vc.at_.toNat]!) < 128))))) ?_
      refine rvc_nil ?_
      refine Awp.cond (b := (decide ((vc.b.D[vc.at_.toNat]!) < 128))) rfl (fun h17 => ?_) (fun h17 => ?_)
      ·
       replace hR := of_true h17 hR
       refine Awp.consP C ?_
       refine rvP C (.pv (.lit (.int .u64 (bitI .or .u64 n (shlI .u64 (IntKind.u64.wrap (bitI .and .u8 (vc.b.D[vc.at_.toNat]!) 127)) shift))))) ?_
       refine rvP C (.pv (.lit (.int .u64 (bitI .or .u64 n (shlI .u64 (IntKind.u64.wrap (bitI .and .u8 (vc.b.D[vc.at_.toNat]!) 127)) shift))))) ?_
       refine rvc_nil ?_
       refine Awp.ret ?_
       subst hR
       exact ⟨.inl rfl, rfl, rfl⟩
      ·
       replace hR := of_false h17 hR
       refine Awp.skip ?_
       refine Awp.regionP C ?_
       refine rvP C (.pv (.lit (.int .i64 shift))) ?_
       refine rvP C (.pv (.lit (.int .i64 (IntKind.i64.wrap (shift + 7))))) ?_
       refine rvP C (.pv (.lit (.int .i64 (IntKind.i64.wrap (shift + 7))))) ?_
       refine rvc_nil ?_
       refine ⟨_, ((bitI .or .u64 n (shlI .u64 (IntKind.u64.wrap (bitI .and .u8 (vc.b.D[vc.at_.toNat]!) 127)) shift)), (IntKind.i64.wrap (shift + 7)), (Reader.mk vc.b (IntKind.i64.wrap (vc.at_ + 1)) vc.err vc.made)), ?_, ⟨rfl, (by rw [show ((Reader.mk vc.b (IntKind.i64.wrap (vc.at_ + 1)) vc.err vc.made).b.D.length - (Reader.mk vc.b (IntKind.i64.wrap (vc.at_ + 1)) vc.err vc.made).at_.toNat) + 1 = (vc.b.D.length - vc.at_.toNat) by (have := wrapI (vc.at_ + 1); have := ne_of_beq_false ‹(vc.at_ == (vc.b.D.length : Int)) = false›; dsimp only; omega)]; exact hR), ⟨(by have := wrapI (vc.at_ + 1); have := ne_of_beq_false ‹(vc.at_ == (vc.b.D.length : Int)) = false›; dsimp only; omega), (by have := wrapI (shift + 7); have := of_decide_eq_false ‹decide (shift > 63) = false›; dsimp only; omega)⟩⟩, ?_⟩
       · show ((Reader.mk vc.b (IntKind.i64.wrap (vc.at_ + 1)) vc.err vc.made).b.D.length - (Reader.mk vc.b (IntKind.i64.wrap (vc.at_ + 1)) vc.err vc.made).at_.toNat) < (vc.b.D.length - vc.at_.toNat); (have := wrapI (vc.at_ + 1); have := ne_of_beq_false ‹(vc.at_ == (vc.b.D.length : Int)) = false›; dsimp only; omega)
       · exact ⟨fun b => b, WeakerR.ofLI (I := [0]) (Ks := [0]) hI ⟨⟨rfl, rfl⟩, ⟨rfl, rfl⟩, ⟨rfl, rfl⟩, ⟨rfl, rfl⟩, trivial⟩ (okH_cons rfl rfl rfl rfl (okH_nil)) rfl rfl⟩
end Go.Proofs.Ytpgenmflgdkfiaa
/- The reference: readers of bytes; numbers as bytes. No conditions. -/
namespace Go.Proofs.Ytpgenmflgdkfiaa
open Go.Am
structure Reader94 where
  b : (Sl Int)
  at_ : Int
  e_ : Int
  deriving Inhabited
def rPut_l1 (kk : (List Int) → Int → (Sl Int)) : Nat → Nat → (List Int) → Int → (Sl Int)
  | 0, _, out1, n => kk out1 n
  | k + 1, i1, out1, n => (bif (decide (n < 128)) then kk out1 n else rPut_l1 kk k (i1 + 1) (out1 ++ [(IntKind.u8.wrap (IntKind.u64.wrap (128 + (n.tmod 128))))]) (IntKind.u64.wrap (n.tdiv 128)))
def rPut_l0 : List Int → Nat → (List Int) → (Sl Int)
  | [], _, out => (Sl.mk false out)
  | x :: xs, i, out => rPut_l1 (fun out1 n => rPut_l0 xs (i + 1) (out1 ++ [(IntKind.u8.wrap n)])) 10 0 out x
def rPut (b : (Sl Int)) (l : (Sl Int)) : (Sl Int) :=
  rPut_l0 l.D 0 b.D
theorem rPut_calls (b : (Sl Int)) (l : (Sl Int)) (hl1 : b.D.length ≤ 1000000) (hl2 : l.D.length ≤ 1000000) : PCalls Try.prog 46 [sS (some b.nil) (eI .u8) b.D, sS (some l.nil) (eI .u64) l.D] (sS (some (rPut b l).nil) (eI .u8) ((rPut b l).D)) := by
 generalize hR : rPut b l = R
 refine PCalls.of_body tabOk Try.func46 rfl rfl rfl rfl rfl mixed fun E hP C hI => ?_
 refine Awp.consP C ?_
 refine rvP C (sS (some true) (eI .u8) []) ?_
 refine rvc_nil ?_
 refine Awp.consP C ?_
 refine rvc_un (rexec_prim C (δ := { v := .sl 8 0 0 1 true, new := [(8, .cells (encC (eI .u8) []))] }) rfl rfl rfl rfl trivial rfl ?_)
 refine rvP C (sS (some b.nil) (eI .u8) b.D) ?_
 refine rvc_un (rexec_append C rfl rfl rfl rfl rfl rfl rfl rfl (fun _ h => by cases h) rfl (en := (eI .u8)) (D0 := []) (D := b.D) rfl rfl rfl rfl (by first | omega | (simp <;> omega)) (by decide) (nn := b.D.length) (by simp) ?_)
 refine rvP C (.sl 10 0 b.D.length 1 false) ?_
 refine rvc_nil ?_
 refine Awp.seq ?_
 refine Awp.consP C ?_
 refine rvP C (sS (some l.nil) (eI .u64) l.D) ?_
 refine rvP C (.pv (.lit (.int .i64 (l.D.length : Int)))) ?_
 refine rvP C (.pv (.lit (.int .i64 0))) ?_
 refine rvc_nil ?_
 refine Awp.block ?_
 refine Awp.forR (σ := ((List Int))) (l.D.length) (fun i v => [(5, .sl 900 0 v.length 1 false), (11, sS (some l.nil) (eI .u64) l.D), (12, .pv (.lit (.int .i64 (l.D.length : Int)))), (13, .pv (.lit (.int .i64 (i : Int))))]) (fun i v => [(900, .cells (encC (eI .u8) v))]) [900] (fun i v => (rPut_l0 (l.D.drop i) i v = R) ∧ (v.length ≤ b.D.length + i * 1000000)) b.D ?_ ?_ (fun i out h1 hR => ?_)
 · exact ⟨hR, (by first | omega | (simp <;> omega))⟩
 · exact ⟨fun b => bif b == 900 then 10 else (fun b => b) b, WeakerR.ofL (Ks := [900]) hI ⟨⟨rfl, rfl⟩, ⟨rfl, rfl⟩, ⟨rfl, rfl⟩, ⟨rfl, rfl⟩, trivial⟩ (okH_list rfl rfl rfl (okH_nil)) rfl⟩
 obtain ⟨hR, hi_out⟩ := hR
 replace hi_out : out.length ≤ b.D.length + i * 1000000 := hi_out
 refine Awp.consP C ?_
 refine rvP C (.pv (.lit (.bool (decide ((i : Int) < (l.D.length : Int)))))) ?_
 refine rvc_nil ?_
 refine Awp.seq ?_
 refine Awp.cond (b := (decide ((i : Int) < (l.D.length : Int)))) rfl (fun h2 => ?_) (fun h2 => ?_)
 ·
  have h3 : i < l.D.length := by have := of_decide_eq_true h2; omega
  obtain ⟨x, h4⟩ := getX h3
  rw [drop_at h4] at hR
  refine Awp.skip ?_
  refine Awp.seq ?_
  refine Awp.block ?_
  refine Awp.consP C ?_
  refine rvc_un (rexec_idxS C rfl rfl rfl rfl rfl rfl x (Int.natCast_nonneg _) h4 ?_)
  refine rvP C (.pv (.lit (.int .u64 x))) ?_
  refine rvP C (.pv (.lit (.int .u64 x))) ?_
  refine rvc_nil ?_
  refine Awp.seq ?_
  refine Awp.consP C ?_
  refine rvP C (.pv (.lit (.int .i64 0))) ?_
  refine rvc_nil ?_
  refine Awp.block ?_
  refine Awp.forR (σ := ((List Int)) × Int) (10) (fun i1 v => [(5, .sl 901 0 v.1.length 1 false), (7, .pv (.lit (.int .u64 v.2))), (11, sS (some l.nil) (eI .u64) l.D), (12, .pv (.lit (.int .i64 (l.D.length : Int)))), (13, .pv (.lit (.int .i64 (i : Int)))), (17, .pv (.lit (.int .i64 (i1 : Int))))]) (fun i1 v => [(901, .cells (encC (eI .u8) v.1))]) [901] (fun i1 v => (rPut_l1 (fun out1 n => rPut_l0 (l.D.drop (i + 1)) (i + 1) (out1 ++ [(IntKind.u8.wrap n)])) (10 - i1) i1 v.1 v.2 = R) ∧ (v.1.length ≤ out.length + i1)) (out, x) ?_ ?_ (fun i1 v h5 hR => ?_)
  · exact ⟨hR, (by first | omega | (simp <;> omega))⟩
  · exact ⟨fun b => bif b == 901 then 900 else (fun b => b) b, WeakerR.ofL (Ks := [901]) hI ⟨⟨rfl, rfl⟩, ⟨rfl, rfl⟩, ⟨rfl, rfl⟩, ⟨rfl, rfl⟩, ⟨rfl, rfl⟩, ⟨rfl, rfl⟩, trivial⟩ (okH_list rfl rfl rfl (okH_nil)) rfl⟩
  obtain ⟨out1, n⟩ := v
  obtain ⟨hR, hi_out1⟩ := hR
  replace hi_out1 : out1.length ≤ out.length + i1 := hi_out1
  refine Awp.consP C ?_
  refine rvP C (.pv (.lit (.bool (decide ((i1 : Int) < 10))))) ?_
  refine rvc_nil ?_
  refine Awp.seq ?_
  refine Awp.cond (b := (decide ((i1 : Int) < 10))) rfl (fun h6 => ?_) (fun h6 => ?_)
  ·
   have h7 : i1 < 10 := by have := of_decide_eq_true h6; omega
   obtain ⟨k, h8⟩ : ∃ k, 10 - i1 = k + 1 := ⟨10 - i1 - 1, by omega⟩
   rw [h8] at hR
   refine Awp.skip ?_
   refine Awp.seq ?_
   refine Awp.block ?_
   refine Awp.seq ?_
   refine Awp.consP C ?_
   refine rvP C (.pv (.lit (.int .u64 n))) ?_
   refine rvP C (.pv (.lit (.bool (decide (n < 128))))) ?_
   refine rvc_nil ?_
   refine Awp.cond (b := (decide (n < 128))) rfl (fun h9 => ?_) (fun h9 => ?_)
   ·
    replace hR := of_true h9 hR
    refine Awp.exit ?_
    refine Awp.regionP C ?_
    refine rvP C (.sl 901 0 out1.length 1 false) ?_
    refine rvP C (.pv (.lit (.int .u64 n))) ?_
    refine rvP C (.pv (.lit (.int .u8 (IntKind.u8.wrap n)))) ?_
    refine rvc_un (rexec_buildSliceF C (eI .u8) [(IntKind.u8.wrap n)] rfl rfl rfl rfl rfl rfl rfl (by decide) rfl ?_)
    refine rvc_un (rexec_append C rfl rfl rfl rfl rfl rfl rfl rfl (fun _ h => by cases h) rfl (en := (eI .u8)) (D0 := out1) (D := [(IntKind.u8.wrap n)]) rfl rfl rfl rfl (by have := of_decide_eq_true h2; have := of_decide_eq_true h6; have := of_decide_eq_true h9; first | omega | (simp <;> omega)) (by decide) (nn := (out1 ++ [(IntKind.u8.wrap n)]).length) (by simp) ?_)
    refine rvP C (.sl 35 0 ((out1 ++ [(IntKind.u8.wrap n)]).length) 1 false) ?_
    refine rvc_nil ?_
    refine Awp.regionP C ?_
    refine rvP C (.pv (.lit (.int .i64 (IntKind.i64.wrap ((i : Int) + 1))))) ?_
    refine rvP C (.pv (.lit (.int .i64 (IntKind.i64.wrap ((i : Int) + 1))))) ?_
    refine rvc_nil ?_
    refine ⟨h3, (out1 ++ [(IntKind.u8.wrap n)]), ?_, ?_⟩
    · exact ⟨hR, (by first | omega | (simp <;> omega))⟩
    · exact ⟨fun b => bif b == 900 then 35 else (fun b => b) b, WeakerR.ofL (Ks := [900]) hI ⟨⟨rfl, rfl⟩, ⟨rfl, rfl⟩, ⟨rfl, rfl⟩, ⟨lit_cast (wrap_i64 (by omega) (by omega)), rfl⟩, trivial⟩ (okH_list rfl rfl rfl (okH_nil)) rfl⟩
   ·
    replace hR := of_false h9 hR
    refine Awp.skip ?_
    refine Awp.consP C ?_
    refine rvP C (.sl 901 0 out1.length 1 false) ?_
    refine rvP C (.pv (.lit (.int .u64 n))) ?_
    refine rvc_un (rexec_prim C (δ := { v := .pv (.lit (.int .u64 (n.tmod 128))) }) rfl rfl rfl rfl (by first | decide | omega) rfl ?_)
    refine rvP C (.pv (.lit (.int .u64 (IntKind.u64.wrap (128 + (n.tmod 128)))))) ?_
    refine rvP C (.pv (.lit (.int .u8 (IntKind.u8.wrap (IntKind.u64.wrap (128 + (n.tmod 128))))))) ?_
    refine rvc_un (rexec_buildSliceF C (eI .u8) [(IntKind.u8.wrap (IntKind.u64.wrap (128 + (n.tmod 128))))] rfl rfl rfl rfl rfl rfl rfl (by decide) rfl ?_)
    refine rvc_un (rexec_append C rfl rfl rfl rfl rfl rfl rfl rfl (fun _ h => by cases h) rfl (en := (eI .u8)) (D0 := out1) (D := [(IntKind.u8.wrap (IntKind.u64.wrap (128 + (n.tmod 128))))]) rfl rfl rfl rfl (by have := of_decide_eq_true h2; have := of_decide_eq_true h6; have := of_decide_eq_false h9; first | omega | (simp <;> omega)) (by decide) (nn := (out1 ++ [(IntKind.u8.wrap (IntKind.u64.wrap (128 + (n.tmod 128))))]).length) (by simp) ?_)
    refine rvP C (.sl 27 0 ((out1 ++ [(IntKind.u8.wrap (IntKind.u64.wrap (128 + (n.tmod 128))))]).length) 1 false) ?_
    refine rvc_nil ?_
    refine Awp.regionP C ?_
    refine rvP C (.pv (.lit (.int .u64 n))) ?_
    refine rvc_un (rexec_prim C (δ := { v := .pv (.lit (.int .u64 (IntKind.u64.wrap (n.tdiv 128)))) }) rfl rfl rfl rfl (by first | decide | omega) rfl ?_)
    refine rvP C (.pv (.lit (.int .u64 (IntKind.u64.wrap (n.tdiv 128))))) ?_
    refine rvc_nil ?_
    refine Awp.regionP C ?_
    refine rvP C (.pv (.lit (.int .i64 (IntKind.i64.wrap ((i1 : Int) + 1))))) ?_
    refine rvP C (.pv (.lit (.int .i64 (IntKind.i64.wrap ((i1 : Int) + 1))))) ?_
    refine rvc_nil ?_
    refine ⟨h7, ((out1 ++ [(IntKind.u8.wrap (IntKind.u64.wrap (128 + (n.tmod 128))))]), (IntKind.u64.wrap (n.tdiv 128))), ?_, ?_⟩
    · exact ⟨(by rw [show 10 - (i1 + 1) = k by omega]; exact hR), (by first | omega | (simp <;> omega))⟩
    · exact ⟨fun b => bif b == 901 then 27 else (fun b => b) b, WeakerR.ofL (Ks := [901]) hI ⟨⟨rfl, rfl⟩, ⟨rfl, rfl⟩, ⟨rfl, rfl⟩, ⟨rfl, rfl⟩, ⟨rfl, rfl⟩, ⟨lit_cast (wrap_i64 (by omega) (by omega)), rfl⟩, trivial⟩ (okH_list rfl rfl rfl (okH_nil)) rfl⟩
  ·
   rw [show 10 - i1 = 0 by have := of_decide_eq_false h6; omega] at hR
   refine Awp.exit ?_
   refine Awp.regionP C ?_
   refine rvP C (.sl 901 0 out1.length 1 false) ?_
   refine rvP C (.pv (.lit (.int .u64 n))) ?_
   refine rvP C (.pv (.lit (.int .u8 (IntKind.u8.wrap n)))) ?_
   refine rvc_un (rexec_buildSliceF C (eI .u8) [(IntKind.u8.wrap n)] rfl rfl rfl rfl rfl rfl rfl (by decide) rfl ?_)
   refine rvc_un (rexec_append C rfl rfl rfl rfl rfl rfl rfl rfl (fun _ h => by cases h) rfl (en := (eI .u8)) (D0 := out1) (D := [(IntKind.u8.wrap n)]) rfl rfl rfl rfl (by have := of_decide_eq_true h2; have := of_decide_eq_false h6; first | omega | (simp <;> omega)) (by decide) (nn := (out1 ++ [(IntKind.u8.wrap n)]).length) (by simp) ?_)
   refine rvP C (.sl 35 0 ((out1 ++ [(IntKind.u8.wrap n)]).length) 1 false) ?_
   refine rvc_nil ?_
   refine Awp.regionP C ?_
   refine rvP C (.pv (.lit (.int .i64 (IntKind.i64.wrap ((i : Int) + 1))))) ?_
   refine rvP C (.pv (.lit (.int .i64 (IntKind.i64.wrap ((i : Int) + 1))))) ?_
   refine rvc_nil ?_
   refine ⟨h3, (out1 ++ [(IntKind.u8.wrap n)]), ?_, ?_⟩
   · exact ⟨hR, (by first | omega | (simp <;> omega))⟩
   · exact ⟨fun b => bif b == 900 then 35 else (fun b => b) b, WeakerR.ofL (Ks := [900]) hI ⟨⟨rfl, rfl⟩, ⟨rfl, rfl⟩, ⟨rfl, rfl⟩, ⟨lit_cast (wrap_i64 (by omega) (by omega)), rfl⟩, trivial⟩ (okH_list rfl rfl rfl (okH_nil)) rfl⟩
 ·
  have h3 : ¬ i < l.D.length := by have := of_decide_eq_false h2; omega
  rw [drop_end h3] at hR
  refine Awp.exit ?_
  refine Awp.consP C ?_
  refine rvP C (.sl 900 0 out.length 1 false) ?_
  refine rvP C (.sl 900 0 out.length 1 false) ?_
  refine rvc_nil ?_
  refine Awp.freezeW 900 (encL (eI .u8) out) ?_ [(4, sS (some false) (eI .u8) out)] [] ?_ ?_ ?_
  · rfl
  · exact ⟨⟨_, rfl, .inl (.inr ⟨_, _, _, rfl, rfl⟩)⟩, trivial⟩
  · exact trivial
  refine Awp.ret ?_
  subst hR
  exact ⟨.inl rfl, rfl⟩
end Go.Proofs.Ytpgenmflgdkfiaa
/- Numbers as bytes: how many bytes. No conditions. -/
namespace Go.Proofs.Ytpgenmflgdkfiaa
open Go.Am
theorem shr7 (n : Int) : shrI .u64 n 7 = n / 128 := rfl
def putInv (b : Nat) (x : Int) (b1 : List Int) (n : Int) : Prop := ∃ k : Nat, b1.length = b + k ∧ 1 ≤ n ∧ n.toNat * 128 ^ k ≤ x.toNat
theorem putInv_start {D : List Int} {x y : Int} (h : 128 ≤ x) : putInv D.length x (D ++ [y]) (shrI .u64 x 7) := by
  rw [shr7]
  exact ⟨1, by simp, by omega, by omega⟩
theorem putInv_step {b : Nat} {x y n : Int} {b1 : List Int} (h : putInv b x b1 n) (hn : 128 ≤ n) : putInv b x (b1 ++ [y]) (shrI .u64 n 7) := by
  obtain ⟨k, h1, h2, h3⟩ := h
  rw [shr7]
  refine ⟨k + 1, by rw [List.length_append, List.length_singleton]; omega, by omega, Nat.le_trans ?_ h3⟩
  rw [Nat.pow_succ, Nat.mul_comm (128 ^ k), ← Nat.mul_assoc]
  exact Nat.mul_le_mul_right _ (by omega)
theorem putInv_le {b : Nat} {x n : Int} {b1 : List Int} (h : putInv b x b1 n) (hx : x < 18446744073709551616) : b1.length ≤ b + 9 := by
  obtain ⟨k, h1, h2, h3⟩ := h
  rcases Nat.lt_or_ge k 10 with hk | hk
  · omega
  · have h4 : 128 ^ 10 ≤ 128 ^ k := Nat.pow_le_pow_right (by decide) hk
    have h5 : 1 * 128 ^ k ≤ n.toNat * 128 ^ k := Nat.mul_le_mul_right _ (by omega)
    have h6 : (128 : Nat) ^ 10 = 1180591620717411303424 := by decide
    omega
end Go.Proofs.Ytpgenmflgdkfiaa
/- Numbers as bytes. No conditions. -/
namespace Go.Proofs.Ytpgenmflgdkfiaa
open Go.Am
def wPut_l1 (kk : (List Int) → Int → (Sl Int)) : Nat → (List Int) → Int → (Sl Int)
  | 0, _, _ => default
  | nn + 1, b1, n => (bif (decide (n ≥ 128)) then wPut_l1 kk nn (b1 ++ [(bitI .or .u8 (IntKind.u8.wrap n) 128)]) (shrI .u64 n 7) else kk b1 n)
def wPut (b : (Sl Int)) (x : Int) : (Sl Int) :=
  (bif (decide (x ≥ 128)) then wPut_l1 (fun b1 n => (Sl.mk false (b1 ++ [(IntKind.u8.wrap n)]))) ((shrI .u64 x 7).toNat + 1) (b.D ++ [(bitI .or .u8 (IntKind.u8.wrap x) 128)]) (shrI .u64 x 7) else (Sl.mk false (b.D ++ [(IntKind.u8.wrap x)])))
theorem wPut_calls (b : (Sl Int)) (x : Int) (hx : x < 18446744073709551616) (hl1 : b.D.length ≤ 1000000) : PCalls Try.prog 45 [sS (some b.nil) (eI .u8) b.D, sS (some false) (eI .u64) [x]] (sS (some (wPut b x).nil) (eI .u8) ((wPut b x).D)) := by
 generalize hR : wPut b x = R
 refine PCalls.of_body tabOk Try.func45 rfl rfl rfl rfl rfl mixed fun E hP C hI => ?_
 refine Awp.consP C ?_
 refine rvP C (sS (some true) (eI .u8) []) ?_
 refine rvc_nil ?_
 refine Awp.consP C ?_
 refine rvP C (sS (some b.nil) (eI .u8) b.D) ?_
 refine rvP C (sS (some b.nil) (eI .u8) b.D) ?_
 refine rvP C (.pv (.lit (.int .i64 (b.D.length : Int)))) ?_
 refine rvP C (sS (some b.nil) (eI .u8) b.D) ?_
 refine rvP C (.pv (.lit (.int .i64 (b.D.length : Int)))) ?_
 refine rvc_un (rexec_slice3 C (e := (eI .u8)) (D := b.D) rfl rfl rfl rfl rfl rfl ?_)
 refine rvP C (.tsl b.D.length (encL (eI .u8) b.D)) ?_
 refine rvc_nil ?_
 refine Awp.seq ?_
 refine Awp.consP C ?_
 refine rvP C (sS (some false) (eI .u64) [x]) ?_
 refine rvP C (.pv (.lit (.int .i64 1))) ?_
 refine rvP C (.pv (.lit (.int .i64 0))) ?_
 refine rvc_nil ?_
 refine Awp.block ?_
 refine Awp.rounds 2 ?_
 refine Arounds.succ ?_
 refine Awp.consP C ?_
 refine rvP C (.pv (.lit (.bool true))) ?_
 refine rvc_nil ?_
 refine Awp.seq ?_
 refine Awp.condT (b := true) rfl rfl ?_
 refine Awp.skip ?_
 refine Awp.seq ?_
 refine Awp.block ?_
 refine Awp.consP C ?_
 have h1 : [x][0]? = some x := rfl
 refine rvc_un (rexec_idxS C rfl rfl rfl rfl rfl rfl x (Int.natCast_nonneg _) h1 ?_)
 refine rvP C (.pv (.lit (.int .u64 x))) ?_
 refine rvP C (.pv (.lit (.int .u64 x))) ?_
 refine rvc_nil ?_
 refine Awp.seq ?_
 refine Awp.block ?_
 refine Awp.peelM (σ := ((List Int)) × Int) (fun v => [(0, .sl 900 0 v.1.length 1 false), (6, .pv (.lit (.int .u64 v.2))), (13, sS (some false) (eI .u64) [x]), (14, .pv (.lit (.int .i64 1))), (15, .pv (.lit (.int .i64 0)))]) (fun v => [(900, .cells (encC (eI .u8) v.1))]) [900] (fun n v => v.2.toNat ≤ n ∧ wPut_l1 (fun b1 n => (Sl.mk false (b1 ++ [(IntKind.u8.wrap n)]))) (n + 1) v.1 v.2 = R ∧ (putInv b.D.length x v.1 v.2)) (x.toNat + 1) ?_ (fun n_ v h2 => ?_)
 ·
  refine Awp.seq ?_
  refine Awp.consP C ?_
  refine rvP C (.pv (.lit (.int .u64 x))) ?_
  refine rvP C (.pv (.lit (.bool (decide (x ≥ 128))))) ?_
  refine rvc_nil ?_
  refine Awp.cond (b := (decide (x ≥ 128))) rfl (fun h6 => ?_) (fun h6 => ?_)
  ·
   replace hR := of_true h6 hR
   refine Awp.skip ?_
   refine Awp.block ?_
   refine Awp.consP C ?_
   refine rvP C (.tsl b.D.length (encL (eI .u8) b.D)) ?_
   refine rvP C (.pv (.lit (.int .u64 x))) ?_
   refine rvP C (.pv (.lit (.int .u8 (IntKind.u8.wrap x)))) ?_
   refine rvP C (.pv (.lit (.int .u8 (bitI .or .u8 (IntKind.u8.wrap x) 128)))) ?_
   refine rvc_un (rexec_buildSliceF C (eI .u8) [(bitI .or .u8 (IntKind.u8.wrap x) 128)] rfl rfl rfl rfl rfl rfl rfl (by decide) rfl ?_)
   refine rvc_un (rexec_appendT C rfl rfl rfl rfl rfl rfl rfl rfl (fun _ h => by cases h) rfl (en := (eI .u8)) (D0 := b.D) (D := [(bitI .or .u8 (IntKind.u8.wrap x) 128)]) rfl rfl (by simp) (by first | (have h_ := putInv_le hV hx; simp; omega) | (simp; omega)) (by decide) (nn := (b.D ++ [(bitI .or .u8 (IntKind.u8.wrap x) 128)]).length) (by simp) ?_)
   refine rvP C (.sl 26 0 ((b.D ++ [(bitI .or .u8 (IntKind.u8.wrap x) 128)]).length) 1 false) ?_
   refine rvc_nil ?_
   refine Awp.regionP C ?_
   refine rvP C (.pv (.lit (.int .u64 x))) ?_
   refine rvc_un (rexec_prim C (δ := { v := .pv (.lit (.int .u64 (shrI .u64 x 7))) }) rfl rfl rfl rfl (by first | decide | assumption | omega) rfl ?_)
   refine rvP C (.pv (.lit (.int .u64 (shrI .u64 x 7)))) ?_
   refine rvc_nil ?_
   refine ⟨(shrI .u64 x 7).toNat, ((b.D ++ [(bitI .or .u8 (IntKind.u8.wrap x) 128)]), (shrI .u64 x 7)), ?_, ⟨Nat.le_refl _, hR, putInv_start (of_decide_eq_true ‹decide (x ≥ 128) = true›)⟩, ?_⟩
   · show (shrI .u64 x 7).toNat < x.toNat + 1; have := of_decide_eq_true ‹decide (x ≥ 128) = true›; rw [shr7]; omega
   · exact ⟨fun b => bif b == 900 then 26 else (fun b => b) b, WeakerR.ofL (Ks := [900]) hI ⟨⟨rfl, rfl⟩, ⟨rfl, rfl⟩, ⟨rfl, rfl⟩, ⟨rfl, rfl⟩, ⟨rfl, rfl⟩, trivial⟩ (okH_list rfl rfl rfl (okH_nil)) rfl⟩
  ·
   replace hR := of_false h6 hR
   refine Awp.exit ?_
   refine Awp.regionP C ?_
   refine rvP C (.tsl b.D.length (encL (eI .u8) b.D)) ?_
   refine rvP C (.pv (.lit (.int .u64 x))) ?_
   refine rvP C (.pv (.lit (.int .u8 (IntKind.u8.wrap x)))) ?_
   refine rvc_un (rexec_buildSliceF C (eI .u8) [(IntKind.u8.wrap x)] rfl rfl rfl rfl rfl rfl rfl (by decide) rfl ?_)
   refine rvc_un (rexec_appendT C rfl rfl rfl rfl rfl rfl rfl rfl (fun _ h => by cases h) rfl (en := (eI .u8)) (D0 := b.D) (D := [(IntKind.u8.wrap x)]) rfl rfl (by simp) (by first | (have h_ := putInv_le hV hx; simp; omega) | (simp; omega)) (by decide) (nn := (b.D ++ [(IntKind.u8.wrap x)]).length) (by simp) ?_)
   refine rvP C (.sl 33 0 ((b.D ++ [(IntKind.u8.wrap x)]).length) 1 false) ?_
   refine rvc_nil ?_
   refine Awp.regionP C ?_
   refine rvP C (.pv (.lit (.int .i64 1))) ?_
   refine rvP C (.pv (.lit (.int .i64 1))) ?_
   refine rvc_nil ?_
   refine Arounds.succ ?_
   refine Awp.consP C ?_
   refine rvP C (.pv (.lit (.bool false))) ?_
   refine rvc_nil ?_
   refine Awp.seq ?_
   refine Awp.condF (b := false) rfl rfl ?_
   refine Awp.exit ?_
   refine Awp.consP C ?_
   refine rvP C (.sl 33 0 ((b.D ++ [(IntKind.u8.wrap x)]).length) 1 false) ?_
   refine rvP C (.sl 33 0 ((b.D ++ [(IntKind.u8.wrap x)]).length) 1 false) ?_
   refine rvc_nil ?_
   refine Awp.freezeW 33 (encL (eI .u8) (b.D ++ [(IntKind.u8.wrap x)])) ?_ [(4, sS (some false) (eI .u8) (b.D ++ [(IntKind.u8.wrap x)]))] [] ?_ ?_ ?_
   · rfl
   · exact ⟨⟨_, rfl, .inl (.inr ⟨_, _, _, rfl, rfl⟩)⟩, trivial⟩
   · exact trivial
   refine Awp.ret ?_
   subst hR
   exact ⟨.inl rfl, rfl⟩
 obtain ⟨b1, n⟩ := v
 obtain ⟨hm_, hR, hV⟩ := h2
 replace hm_ : n.toNat ≤ n_ := hm_
 replace hV : putInv b.D.length x b1 n := hV
 refine Awp.seq ?_
 refine Awp.consP C ?_
 refine rvP C (.pv (.lit (.int .u64 n))) ?_
 refine rvP C (.pv (.lit (.bool (decide (n ≥ 128))))) ?_
 refine rvc_nil ?_
 refine Awp.cond (b := (decide (n ≥ 128))) rfl (fun h4 => ?_) (fun h4 => ?_)
 ·
  replace hR := of_true h4 hR
  refine Awp.skip ?_
  refine Awp.block ?_
  refine Awp.consP C ?_
  refine rvP C (.sl 900 0 b1.length 1 false) ?_
  refine rvP C (.pv (.lit (.int .u64 n))) ?_
  refine rvP C (.pv (.lit (.int .u8 (IntKind.u8.wrap n)))) ?_
  refine rvP C (.pv (.lit (.int .u8 (bitI .or .u8 (IntKind.u8.wrap n) 128)))) ?_
  refine rvc_un (rexec_buildSliceF C (eI .u8) [(bitI .or .u8 (IntKind.u8.wrap n) 128)] rfl rfl rfl rfl rfl rfl rfl (by decide) rfl ?_)
  refine rvc_un (rexec_append C rfl rfl rfl rfl rfl rfl rfl rfl (fun _ h => by cases h) rfl (en := (eI .u8)) (D0 := b1) (D := [(bitI .or .u8 (IntKind.u8.wrap n) 128)]) rfl rfl rfl rfl (by first | (have h_ := putInv_le hV hx; simp; omega) | (simp; omega)) (by decide) (nn := (b1 ++ [(bitI .or .u8 (IntKind.u8.wrap n) 128)]).length) (by simp) ?_)
  refine rvP C (.sl 26 0 ((b1 ++ [(bitI .or .u8 (IntKind.u8.wrap n) 128)]).length) 1 false) ?_
  refine rvc_nil ?_
  refine Awp.regionP C ?_
  refine rvP C (.pv (.lit (.int .u64 n))) ?_
  refine rvc_un (rexec_prim C (δ := { v := .pv (.lit (.int .u64 (shrI .u64 n 7))) }) rfl rfl rfl rfl (by first | decide | assumption | omega) rfl ?_)
  refine rvP C (.pv (.lit (.int .u64 (shrI .u64 n 7)))) ?_
  refine rvc_nil ?_
  have h5 : (shrI .u64 n 7).toNat < n.toNat := by (have := of_decide_eq_true ‹decide (n ≥ 128) = true›; rw [shr7]; omega)
  obtain ⟨nn, rfl⟩ : ∃ nn, n_ = nn + 1 := ⟨n_ - 1, by omega⟩
  refine ⟨nn, ((b1 ++ [(bitI .or .u8 (IntKind.u8.wrap n) 128)]), (shrI .u64 n 7)), by omega, ⟨by show (shrI .u64 n 7).toNat ≤ nn; omega, hR, putInv_step hV (of_decide_eq_true ‹decide (n ≥ 128) = true›)⟩, ?_⟩
  · exact ⟨fun b => bif b == 900 then 26 else (fun b => b) b, WeakerR.ofL (Ks := [900]) hI ⟨⟨rfl, rfl⟩, ⟨rfl, rfl⟩, ⟨rfl, rfl⟩, ⟨rfl, rfl⟩, ⟨rfl, rfl⟩, trivial⟩ (okH_list rfl rfl rfl (okH_nil)) rfl⟩
 ·
  replace hR := of_false h4 hR
  refine Awp.exit ?_
  refine Awp.regionP C ?_
  refine rvP C (.sl 900 0 b1.length 1 false) ?_
  refine rvP C (.pv (.lit (.int .u64 n))) ?_
  refine rvP C (.pv (.lit (.int .u8 (IntKind.u8.wrap n)))) ?_
  refine rvc_un (rexec_buildSliceF C (eI .u8) [(IntKind.u8.wrap n)] rfl rfl rfl rfl rfl rfl rfl (by decide) rfl ?_)
  refine rvc_un (rexec_append C rfl rfl rfl rfl rfl rfl rfl rfl (fun _ h => by cases h) rfl (en := (eI .u8)) (D0 := b1) (D := [(IntKind.u8.wrap n)]) rfl rfl rfl rfl (by first | (have h_ := putInv_le hV hx; simp; omega) | (simp; omega)) (by decide) (nn := (b1 ++ [(IntKind.u8.wrap n)]).length) (by simp) ?_)
  refine rvP C (.sl 33 0 ((b1 ++ [(IntKind.u8.wrap n)]).length) 1 false) ?_
  refine rvc_nil ?_
  refine Awp.regionP C ?_
  refine rvP C (.pv (.lit (.int .i64 1))) ?_
  refine rvP C (.pv (.lit (.int .i64 1))) ?_
  refine rvc_nil ?_
  refine Arounds.succ ?_
  refine Awp.consP C ?_
  refine rvP C (.pv (.lit (.bool false))) ?_
  refine rvc_nil ?_
  refine Awp.seq ?_
  refine Awp.condF (b := false) rfl rfl ?_
  refine Awp.exit ?_
  refine Awp.consP C ?_
  refine rvP C (.sl 33 0 ((b1 ++ [(IntKind.u8.wrap n)]).length) 1 false) ?_
  refine rvP C (.sl 33 0 ((b1 ++ [(IntKind.u8.wrap n)]).length) 1 false) ?_
  refine rvc_nil ?_
  refine Awp.freezeW 33 (encL (eI .u8) (b1 ++ [(IntKind.u8.wrap n)])) ?_ [(4, sS (some false) (eI .u8) (b1 ++ [(IntKind.u8.wrap n)]))] [] ?_ ?_ ?_
  · rfl
  · exact ⟨⟨_, rfl, .inl (.inr ⟨_, _, _, rfl, rfl⟩)⟩, trivial⟩
  · exact trivial
  refine Awp.ret ?_
  subst hR
  exact ⟨.inl rfl, rfl⟩
end Go.Proofs.Ytpgenmflgdkfiaa
/- An abstract machine over the kit's calls, part 36: calls that are handed a block and make one; append of nothing to nil. No conditions. -/
namespace Go.Am
section steps
variable {E : Env} {T : Tab} {cq : Oper → Cls} {n : Nat} {ops : Array Oper}
/-- A call that is handed a block (0), and makes one (1). -/
structure NCalls (P : Program) (f : FuncId) (avs : List AV) (k : Blk) (av : AV) (k1 k' : Blk) : Prop where
  fn : ∃ fn, P.funcs[f]? = some fn ∧ (fn.name == "runtime.NumGoroutine") = false ∧ fn.body.isNone = false
  args : AV.withinL (fun b => b == 0) avs = true
  res : av.within (fun b => b == 1) = true
  blk : k.within (fun _ => false) = true
  blk1 : k1.within (fun _ => false) = true
  blk' : k'.within (fun _ => false) = true
  calls : ACalls P f [0] avs [(0, k)] av [(0, k1), (1, k')]
end steps
end Go.Am
/- An abstract machine over the kit's calls, part 37: a call that is handed a row which nobody changes any more. No conditions. -/
namespace Go.Am
theorem VHs.split {ι : Nat → Option (Nat × Nat)} {imm : Nat → Prop} {w : World} : ∀ {xs ys : List AV} {vs : List Value}, VHs ι imm w (xs ++ ys) vs → ∃ us ws, vs = us ++ ws ∧ VHs ι imm w xs us ∧ VHs ι imm w ys ws
  | [], ys, vs, h => ⟨[], vs, rfl, rfl, h⟩
  | x :: xs, ys, vs, h => by
    simp only [List.cons_append, VHs] at h
    obtain ⟨v, us, rfl, h1, h2⟩ := h
    obtain ⟨us', ws, rfl, h3, h4⟩ := VHs.split h2
    exact ⟨v :: us', ws, rfl, ⟨v, us', rfl, h1, h3⟩, h4⟩
end Go.Am
/- An abstract machine over the kit's calls, part 38: values told in other words. No conditions. -/
namespace Go.Am
theorem litB_eq {a b : Bool} (h : a = b) : some (AV.pv (.lit (.bool a))) = some (AV.pv (.lit (.bool b))) := by rw [h]
end Go.Am
/- Readers made, and asked for small numbers. No conditions. -/
namespace Go.Proofs.Ytpgenmflgdkfiaa
open Go.Am
structure Command where
  kind : Int
  node : Int
  site : Int
  epoch : Int
  deriving Inhabited
def eCommand : Enc Command := ⟨4, fun x => [.lit (.int .i64 x.kind), .lit (.int .i64 x.node), .lit (.int .i64 x.site), .lit (.int .i64 x.epoch)], fun _ => rfl⟩
def rdNew (b : (Sl Int)) : Reader :=
  (Reader.mk (Sl.mk false b.D) 0 0 true)
theorem rdNew_calls (b : (Sl Int)) (hl1 : b.D.length ≤ 1000000) : OCalls Try.prog 47 [sS (some b.nil) (eI .u8) b.D] (.ptr 0 0) (.cells [sS (some (rdNew b).b.nil) (eI .u8) ((rdNew b).b.D), .pv (.lit (.int .i64 ((rdNew b).at_))), .pv (.lit (.int .i64 ((rdNew b).err))), .pv (.lit (.bool ((rdNew b).made)))]) := by
 generalize hR : rdNew b = R
 refine OCalls.of_body tabOk Try.func47 rfl rfl rfl rfl rfl rfl mixed fun E hP C hI => ?_
 refine Awp.consP C ?_
 refine rvP C (.pv (.lit (.pointer none))) ?_
 refine rvc_nil ?_
 refine Awp.consP C ?_
 refine rvc_un (rexec_prim C (δ := { v := .sl 3 0 0 1 true, new := [(3, .cells (encC (eI .u8) []))] }) rfl rfl rfl rfl trivial rfl ?_)
 refine rvP C (sS (some b.nil) (eI .u8) b.D) ?_
 refine rvc_un (rexec_append C rfl rfl rfl rfl rfl rfl rfl rfl (fun _ h => by cases h) rfl (en := (eI .u8)) (D0 := []) (D := b.D) rfl rfl rfl rfl (by first | omega | (simp <;> omega)) (by decide) (nn := b.D.length) (by simp) ?_)
 refine rvP C (.agg [.sl 5 0 b.D.length 1 false, .pv (.lit (.int .i64 0)), .pv (.lit (.int .i64 0)), .pv (.lit (.bool true))]) ?_
 refine rvc_un (rexec_prim C (δ := { v := .ptr 7 0, new := [(7, .cells [.sl 5 0 b.D.length 1 false, .pv (.lit (.int .i64 0)), .pv (.lit (.int .i64 0)), .pv (.lit (.bool true))])] }) rfl rfl rfl rfl trivial rfl ?_)
 refine rvP C (.ptr 7 0) ?_
 refine rvc_nil ?_
 refine Awp.freezeW 5 (encL (eI .u8) b.D) ?_ [(2, .ptr 7 0)] [(7, .cells [sS (some false) (eI .u8) b.D, .pv (.lit (.int .i64 0)), .pv (.lit (.int .i64 0)), .pv (.lit (.bool true))])] ?_ ?_ ?_
 · rfl
 · exact ⟨⟨_, rfl, .inl (.inl rfl)⟩, trivial⟩
 · exact ⟨⟨(by show (7 : Nat) ≠ 5; decide), .inr ⟨_, _, rfl, rfl, ⟨.inr ⟨_, _, _, rfl, rfl⟩, .inl rfl, .inl rfl, .inl rfl, trivial⟩⟩⟩, trivial⟩
 refine Awp.weakenR (S := [(2, .ptr 0 0)]) (H := [(0, .cells [sS (some false) (eI .u8) b.D, .pv (.lit (.int .i64 0)), .pv (.lit (.int .i64 0)), .pv (.lit (.bool true))])]) (U := [0]) (fun x => bif x == 0 then 7 else x) (WeakerR.ofL (Ks := [0]) hI ⟨⟨rfl, rfl⟩, trivial⟩ (okH_cons rfl rfl rfl rfl okH_nil) rfl) ?_
 refine Awp.ret ?_
 subst hR
 exact ⟨.inl rfl, rfl, rfl⟩
def rdIn (r : Reader) (lo : Int) (hi : Int) : Reader × Int :=
  (bif ((rdErr (rdNum r).1) != 0) then ((rdNum r).1, 0) else (bif (decide ((rdNum r).2 > 4611686018427387904)) then ((rdStop (rdNum r).1 (IntKind.i64.wrap (((rdNum r).1.b.D.length : Int) - (rdLeft r))) 5), 0) else (bif (decide ((IntKind.i64.wrap (rdNum r).2) < lo)) then ((rdStop (rdNum r).1 (IntKind.i64.wrap (((rdNum r).1.b.D.length : Int) - (rdLeft r))) 5), 0) else (bif (decide ((IntKind.i64.wrap (rdNum r).2) > hi)) then ((rdStop (rdNum r).1 (IntKind.i64.wrap (((rdNum r).1.b.D.length : Int) - (rdLeft r))) 5), 0) else ((rdNum r).1, (IntKind.i64.wrap (rdNum r).2))))))
theorem rdIn_calls (r : Reader) (lo : Int) (hi : Int) (hk : (0 ≤ r.at_ ∧ r.at_ ≤ (r.b.D.length : Int)) ∧ r.b.D.length ≤ 1000000) : MCalls Try.prog 48 [.ptr 0 0, .pv (.lit (.int .i64 lo)), .pv (.lit (.int .i64 hi))] (.cells [sS (some r.b.nil) (eI .u8) r.b.D, .pv (.lit (.int .i64 r.at_)), .pv (.lit (.int .i64 r.err)), .pv (.lit (.bool r.made))]) (.pv (.lit (.int .i64 ((rdIn r lo hi).2)))) (.cells [sS (some (rdIn r lo hi).1.b.nil) (eI .u8) ((rdIn r lo hi).1.b.D), .pv (.lit (.int .i64 ((rdIn r lo hi).1.at_))), .pv (.lit (.int .i64 ((rdIn r lo hi).1.err))), .pv (.lit (.bool ((rdIn r lo hi).1.made)))]) := by
 generalize hR : rdIn r lo hi = R
 refine MCalls.of_body tabOk Try.func48 rfl rfl rfl rfl rfl rfl rfl mixed fun E hP C hI => ?_
 refine Awp.consP C ?_
 refine rvP C (.pv (.lit (.int .i64 0))) ?_
 refine rvc_nil ?_
 refine Awp.cons C (fun _ => .writer) (by kernel_rfl) ?_
 refine rvP C (.ptr 0 0) ?_
 refine rvc_un (rexec_callM hP C (b := 0) rfl rfl rfl (rdLeft_calls r) rfl rfl ?_)
 refine rvP C (.pv (.lit (.int .i64 (rdLeft r)))) ?_
 refine rvc_nil ?_
 refine Awp.cons C (fun _ => .writer) (by kernel_rfl) ?_
 refine rvP C (.ptr 0 0) ?_
 obtain ⟨nu, hq_nu⟩ : ∃ q_, q_ = (rdNum r) := ⟨_, rfl⟩
 have hc_nu := (rdNum_calls r hk)
 first | rw [← hq_nu] at hR hc_nu | (unfold rdIn at hR; rw [← hq_nu] at hR hc_nu)
 refine rvc_un (rexec_callM hP C (b := 0) rfl rfl rfl hc_nu rfl rfl ?_)
 refine rvP C (.pv (.lit (.int .u64 nu.2))) ?_
 refine rvc_nil ?_
 refine Awp.seq ?_
 refine Awp.cons C (fun _ => .writer) (by kernel_rfl) ?_
 refine rvP C (.ptr 0 0) ?_
 refine rvc_un (rexec_callM hP C (b := 0) rfl rfl rfl (rdErr_calls nu.1) rfl rfl ?_)
 refine rvP C (.pv (.lit (.bool ((rdErr nu.1) != 0)))) ?_
 refine rvc_nil ?_
 refine Awp.cond (b := ((rdErr nu.1) != 0)) rfl (fun h1 => ?_) (fun h1 => ?_)
 ·
  replace hR := of_true h1 hR
  refine Awp.consP C ?_
  refine rvP C (.pv (.lit (.int .i64 0))) ?_
  refine rvc_nil ?_
  refine Awp.ret ?_
  subst hR
  exact ⟨.inl rfl, rfl, rfl⟩
 ·
  replace hR := of_false h1 hR
  refine Awp.skip ?_
  refine Awp.seq ?_
  refine Awp.consP C ?_
  refine rvP C (.pv (.lit (.int .u64 nu.2))) ?_
  refine rvP C (.pv (.lit (.bool (decide (nu.2 > 4611686018427387904))))) ?_
  refine rvP C (.pv (.lit (.bool (decide (nu.2 > 4611686018427387904))))) ?_
  refine rvc_case 18 (decide (nu.2 > 4611686018427387904)) rfl (fun h2 => ?_) (fun h2 => ?_)
  ·
   replace hR := of_true h2 hR
   refine rvS ?_
   refine rvS ?_
   refine rvS ?_
   refine rvS ?_
   refine rvP C (.pv (.lit (.bool true))) ?_
   refine rvP C (.pv (.lit (.bool true))) ?_
   refine rvS ?_
   refine rvS ?_
   refine rvS ?_
   refine rvS ?_
   refine rvP C (.pv (.lit (.bool true))) ?_
   refine rvc_nil ?_
   refine Awp.condT (b := true) rfl rfl ?_
   refine Awp.cons C (fun _ => .writer) (by kernel_rfl) ?_
   refine rvP C (.ptr 0 0) ?_
   refine rvP C (.ptr 0 0) ?_
   refine rvP C (.ptr 0 0) ?_
   refine rvP C (.ptr 0 0) ?_
   refine rvP C (sS (some nu.1.b.nil) (eI .u8) nu.1.b.D) ?_
   refine rvP C (.pv (.lit (.int .i64 (nu.1.b.D.length : Int)))) ?_
   refine rvP C (.pv (.lit (.int .i64 (rdLeft r)))) ?_
   refine rvP C (.pv (.lit (.int .i64 (IntKind.i64.wrap ((nu.1.b.D.length : Int) - (rdLeft r)))))) ?_
   refine rvc_un (rexec_callM hP C (b := 0) rfl rfl rfl (rdStop_calls nu.1 (IntKind.i64.wrap ((nu.1.b.D.length : Int) - (rdLeft r))) 5) rfl rfl ?_)
   refine rvc_nil ?_
   refine Awp.consP C ?_
   refine rvP C (.pv (.lit (.int .i64 0))) ?_
   refine rvc_nil ?_
   refine Awp.ret ?_
   subst hR
   exact ⟨.inl rfl, rfl, rfl⟩
  ·
   replace hR := of_false h2 hR
   refine rvO C (.pv (.lit (.int .u64 nu.2))) ?_
   refine rvO C (.pv (.lit (.int .i64 (IntKind.i64.wrap nu.2)))) ?_
   refine rvO C (.pv (.lit (.int .i64 lo))) ?_
   refine rvO C (.pv (.lit (.bool (decide ((IntKind.i64.wrap nu.2) < lo))))) ?_
   refine rvP C (.pv (.lit (.bool (decide ((IntKind.i64.wrap nu.2) < lo))))) ?_
   refine rvP C (.pv (.lit (.bool (decide ((IntKind.i64.wrap nu.2) < lo))))) ?_
   refine rvc_case 24 (decide ((IntKind.i64.wrap nu.2) < lo)) rfl (fun h3 => ?_) (fun h3 => ?_)
   ·
    replace hR := of_true h3 hR
    refine rvS ?_
    refine rvS ?_
    refine rvS ?_
    refine rvS ?_
    refine rvP C (.pv (.lit (.bool true))) ?_
    refine rvc_nil ?_
    refine Awp.condT (b := true) rfl rfl ?_
    refine Awp.cons C (fun _ => .writer) (by kernel_rfl) ?_
    refine rvP C (.ptr 0 0) ?_
    refine rvP C (.ptr 0 0) ?_
    refine rvP C (.ptr 0 0) ?_
    refine rvP C (.ptr 0 0) ?_
    refine rvP C (sS (some nu.1.b.nil) (eI .u8) nu.1.b.D) ?_
    refine rvP C (.pv (.lit (.int .i64 (nu.1.b.D.length : Int)))) ?_
    refine rvP C (.pv (.lit (.int .i64 (rdLeft r)))) ?_
    refine rvP C (.pv (.lit (.int .i64 (IntKind.i64.wrap ((nu.1.b.D.length : Int) - (rdLeft r)))))) ?_
    refine rvc_un (rexec_callM hP C (b := 0) rfl rfl rfl (rdStop_calls nu.1 (IntKind.i64.wrap ((nu.1.b.D.length : Int) - (rdLeft r))) 5) rfl rfl ?_)
    refine rvc_nil ?_
    refine Awp.consP C ?_
    refine rvP C (.pv (.lit (.int .i64 0))) ?_
    refine rvc_nil ?_
    refine Awp.ret ?_
    subst hR
    exact ⟨.inl rfl, rfl, rfl⟩
   ·
    replace hR := of_false h3 hR
    refine rvO C (.pv (.lit (.int .u64 nu.2))) ?_
    refine rvO C (.pv (.lit (.int .i64 (IntKind.i64.wrap nu.2)))) ?_
    refine rvO C (.pv (.lit (.int .i64 hi))) ?_
    refine rvO C (.pv (.lit (.bool (decide ((IntKind.i64.wrap nu.2) > hi))))) ?_
    refine rvP C (.pv (.lit (.bool (decide ((IntKind.i64.wrap nu.2) > hi))))) ?_
    refine rvc_nil ?_
    refine Awp.cond (b := (decide ((IntKind.i64.wrap nu.2) > hi))) rfl (fun h4 => ?_) (fun h4 => ?_)
    ·
     replace hR := of_true h4 hR
     refine Awp.cons C (fun _ => .writer) (by kernel_rfl) ?_
     refine rvP C (.ptr 0 0) ?_
     refine rvP C (.ptr 0 0) ?_
     refine rvP C (.ptr 0 0) ?_
     refine rvP C (.ptr 0 0) ?_
     refine rvP C (sS (some nu.1.b.nil) (eI .u8) nu.1.b.D) ?_
     refine rvP C (.pv (.lit (.int .i64 (nu.1.b.D.length : Int)))) ?_
     refine rvP C (.pv (.lit (.int .i64 (rdLeft r)))) ?_
     refine rvP C (.pv (.lit (.int .i64 (IntKind.i64.wrap ((nu.1.b.D.length : Int) - (rdLeft r)))))) ?_
     refine rvc_un (rexec_callM hP C (b := 0) rfl rfl rfl (rdStop_calls nu.1 (IntKind.i64.wrap ((nu.1.b.D.length : Int) - (rdLeft r))) 5) rfl rfl ?_)
     refine rvc_nil ?_
     refine Awp.consP C ?_
     refine rvP C (.pv (.lit (.int .i64 0))) ?_
     refine rvc_nil ?_
     refine Awp.ret ?_
     subst hR
     exact ⟨.inl rfl, rfl, rfl⟩
    ·
     replace hR := of_false h4 hR
     refine Awp.skip ?_
     refine Awp.consP C ?_
     refine rvP C (.pv (.lit (.int .u64 nu.2))) ?_
     refine rvP C (.pv (.lit (.int .i64 (IntKind.i64.wrap nu.2)))) ?_
     refine rvP C (.pv (.lit (.int .i64 (IntKind.i64.wrap nu.2)))) ?_
     refine rvc_nil ?_
     refine Awp.ret ?_
     subst hR
     exact ⟨.inl rfl, rfl, rfl⟩
def cmdCheck (c : Command) : Int :=
  (bif (c.kind == 1) then (bif (bif (decide (c.epoch ≥ 1)) then (decide (c.epoch ≤ 1099511627776)) else false) then (bif (bif (decide (c.node ≥ 0)) then (decide (c.node < 6)) else false) then (bif (!(c.site == 0)) then 120 else 0) else 120) else 120) else (bif (c.kind == 3) then (bif (bif (decide (c.epoch ≥ 1)) then (decide (c.epoch ≤ 1099511627776)) else false) then (bif (bif (decide (c.node ≥ 0)) then (decide (c.node < 6)) else false) then (bif (!(c.site == 0)) then 120 else 0) else 120) else 120) else (bif (c.kind == 4) then (bif (bif (decide (c.epoch ≥ 1)) then (decide (c.epoch ≤ 1099511627776)) else false) then (bif (bif (decide (c.node ≥ 0)) then (decide (c.node < 6)) else false) then (bif (!(c.site == 0)) then 120 else 0) else 120) else 120) else (bif (c.kind == 2) then (bif (bif (decide (c.epoch ≥ 1)) then (decide (c.epoch ≤ 1099511627776)) else false) then (bif (bif (decide (c.node ≥ 0)) then (decide (c.node < 6)) else false) then (bif (!(bif (decide (c.site ≥ 0)) then (decide (c.site < 3)) else false)) then 120 else 0) else 120) else 120) else (bif (c.kind == 5) then (bif (bif (decide (c.epoch ≥ 1)) then (decide (c.epoch ≤ 1099511627776)) else false) then (bif (bif (decide (c.site ≥ 0)) then (decide (c.site < 3)) else false) then (bif (!(c.node == 0)) then 120 else 0) else 120) else 120) else 120)))))
theorem cmdCheck_calls (c : Command)  : PCalls Try.prog 24 [.agg [.pv (.lit (.int .i64 c.kind)), .pv (.lit (.int .i64 c.node)), .pv (.lit (.int .i64 c.site)), .pv (.lit (.int .i64 c.epoch))]] (.pv (.lit (.int .i64 (cmdCheck c)))) := by
 generalize hR : cmdCheck c = R
 refine PCalls.of_body tabOk Try.func24 rfl rfl rfl rfl rfl mixed fun E hP C hI => ?_
 refine Awp.consP C ?_
 refine rvc_un (rexec_prim C (δ := { v := .ptr 1 0, new := [(1, .cells [.pv (.lit (.int .i64 c.kind)), .pv (.lit (.int .i64 c.node)), .pv (.lit (.int .i64 c.site)), .pv (.lit (.int .i64 c.epoch))])] }) rfl rfl rfl rfl trivial rfl ?_)
 refine rvP C (.pv (.lit (.int .i64 0))) ?_
 refine rvc_nil ?_
 refine Awp.seq_midR [(1, .ptr 1 0), (2, .pv (.lit (.int .i64 0))), (3, .pv (.lit (.bool (bif (decide (c.node ≥ 0)) then (decide (c.node < 6)) else false))))] [(1, .cells [.pv (.lit (.int .i64 c.kind)), .pv (.lit (.int .i64 c.node)), .pv (.lit (.int .i64 c.site)), .pv (.lit (.int .i64 c.epoch))])] [1] (Awp.region C (fun _ => .pure) (by kernel_rfl) ?_) ?_
 ·
  refine rvP C (.ptr 1 1) ?_
  refine rvP C (.pv (.lit (.int .i64 c.node))) ?_
  refine rvP C (.pv (.lit (.bool (decide (c.node ≥ 0))))) ?_
  refine rvP C (.pv (.lit (.bool (decide (c.node ≥ 0))))) ?_
  refine rvc_case 9 (decide (c.node ≥ 0)) rfl (fun h1 => ?_) (fun h1 => ?_)
  ·
   refine rvO C (.ptr 1 1) ?_
   refine rvO C (.pv (.lit (.int .i64 c.node))) ?_
   refine rvO C (.pv (.lit (.bool (decide (c.node < 6))))) ?_
   refine rvP C (.pv (.lit (.bool (decide (c.node < 6))))) ?_
   refine rvP C (.pv (.lit (.bool (decide (c.node < 6))))) ?_
   refine rvc_nil ?_
   exact ⟨fun b => b, WeakerR.ofL (Ks := [1]) hI ⟨⟨rfl, rfl⟩, ⟨rfl, rfl⟩, ⟨litB_eq (by simp only [h1, cond_true, cond_false]), rfl⟩, trivial⟩ (okH_cons rfl rfl rfl rfl (okH_nil)) rfl⟩
  ·
   refine rvS ?_
   refine rvS ?_
   refine rvS ?_
   refine rvP C (.pv (.lit (.bool false))) ?_
   refine rvP C (.pv (.lit (.bool false))) ?_
   refine rvc_nil ?_
   exact ⟨fun b => b, WeakerR.ofL (Ks := [1]) hI ⟨⟨rfl, rfl⟩, ⟨rfl, rfl⟩, ⟨litB_eq (by simp only [h1, cond_true, cond_false]), rfl⟩, trivial⟩ (okH_cons rfl rfl rfl rfl (okH_nil)) rfl⟩
 ·
  refine Awp.seq_midR [(1, .ptr 1 0), (2, .pv (.lit (.int .i64 0))), (3, .pv (.lit (.bool (bif (decide (c.node ≥ 0)) then (decide (c.node < 6)) else false)))), (4, .pv (.lit (.bool (bif (decide (c.site ≥ 0)) then (decide (c.site < 3)) else false))))] [(1, .cells [.pv (.lit (.int .i64 c.kind)), .pv (.lit (.int .i64 c.node)), .pv (.lit (.int .i64 c.site)), .pv (.lit (.int .i64 c.epoch))])] [1] (Awp.region C (fun _ => .pure) (by kernel_rfl) ?_) ?_
  ·
   refine rvP C (.ptr 1 2) ?_
   refine rvP C (.pv (.lit (.int .i64 c.site))) ?_
   refine rvP C (.pv (.lit (.bool (decide (c.site ≥ 0))))) ?_
   refine rvP C (.pv (.lit (.bool (decide (c.site ≥ 0))))) ?_
   refine rvc_case 17 (decide (c.site ≥ 0)) rfl (fun h2 => ?_) (fun h2 => ?_)
   ·
    refine rvO C (.ptr 1 2) ?_
    refine rvO C (.pv (.lit (.int .i64 c.site))) ?_
    refine rvO C (.pv (.lit (.bool (decide (c.site < 3))))) ?_
    refine rvP C (.pv (.lit (.bool (decide (c.site < 3))))) ?_
    refine rvP C (.pv (.lit (.bool (decide (c.site < 3))))) ?_
    refine rvc_nil ?_
    exact ⟨fun b => b, WeakerR.ofL (Ks := [1]) hI ⟨⟨rfl, rfl⟩, ⟨rfl, rfl⟩, ⟨rfl, rfl⟩, ⟨litB_eq (by simp only [h2, cond_true, cond_false]), rfl⟩, trivial⟩ (okH_cons rfl rfl rfl rfl (okH_nil)) rfl⟩
   ·
    refine rvS ?_
    refine rvS ?_
    refine rvS ?_
    refine rvP C (.pv (.lit (.bool false))) ?_
    refine rvP C (.pv (.lit (.bool false))) ?_
    refine rvc_nil ?_
    exact ⟨fun b => b, WeakerR.ofL (Ks := [1]) hI ⟨⟨rfl, rfl⟩, ⟨rfl, rfl⟩, ⟨rfl, rfl⟩, ⟨litB_eq (by simp only [h2, cond_true, cond_false]), rfl⟩, trivial⟩ (okH_cons rfl rfl rfl rfl (okH_nil)) rfl⟩
  ·
   refine Awp.seq_midR [(1, .ptr 1 0), (2, .pv (.lit (.int .i64 0))), (3, .pv (.lit (.bool (bif (decide (c.node ≥ 0)) then (decide (c.node < 6)) else false)))), (4, .pv (.lit (.bool (bif (decide (c.site ≥ 0)) then (decide (c.site < 3)) else false)))), (5, .pv (.lit (.bool (bif (decide (c.epoch ≥ 1)) then (decide (c.epoch ≤ 1099511627776)) else false))))] [(1, .cells [.pv (.lit (.int .i64 c.kind)), .pv (.lit (.int .i64 c.node)), .pv (.lit (.int .i64 c.site)), .pv (.lit (.int .i64 c.epoch))])] [1] (Awp.region C (fun _ => .pure) (by kernel_rfl) ?_) ?_
   ·
    refine rvP C (.ptr 1 3) ?_
    refine rvP C (.pv (.lit (.int .i64 c.epoch))) ?_
    refine rvP C (.pv (.lit (.bool (decide (c.epoch ≥ 1))))) ?_
    refine rvP C (.pv (.lit (.bool (decide (c.epoch ≥ 1))))) ?_
    refine rvc_case 25 (decide (c.epoch ≥ 1)) rfl (fun h3 => ?_) (fun h3 => ?_)
    ·
     refine rvO C (.ptr 1 3) ?_
     refine rvO C (.pv (.lit (.int .i64 c.epoch))) ?_
     refine rvO C (.pv (.lit (.bool (decide (c.epoch ≤ 1099511627776))))) ?_
     refine rvP C (.pv (.lit (.bool (decide (c.epoch ≤ 1099511627776))))) ?_
     refine rvP C (.pv (.lit (.bool (decide (c.epoch ≤ 1099511627776))))) ?_
     refine rvc_nil ?_
     exact ⟨fun b => b, WeakerR.ofL (Ks := [1]) hI ⟨⟨rfl, rfl⟩, ⟨rfl, rfl⟩, ⟨rfl, rfl⟩, ⟨rfl, rfl⟩, ⟨litB_eq (by simp only [h3, cond_true, cond_false]), rfl⟩, trivial⟩ (okH_cons rfl rfl rfl rfl (okH_nil)) rfl⟩
    ·
     refine rvS ?_
     refine rvS ?_
     refine rvS ?_
     refine rvP C (.pv (.lit (.bool false))) ?_
     refine rvP C (.pv (.lit (.bool false))) ?_
     refine rvc_nil ?_
     exact ⟨fun b => b, WeakerR.ofL (Ks := [1]) hI ⟨⟨rfl, rfl⟩, ⟨rfl, rfl⟩, ⟨rfl, rfl⟩, ⟨rfl, rfl⟩, ⟨litB_eq (by simp only [h3, cond_true, cond_false]), rfl⟩, trivial⟩ (okH_cons rfl rfl rfl rfl (okH_nil)) rfl⟩
   ·
    refine Awp.seq ?_
    refine Awp.consP C ?_
    refine rvP C (.ptr 1 0) ?_
    refine rvP C (.pv (.lit (.int .i64 c.kind))) ?_
    refine rvc_nil ?_
    refine Awp.block ?_
    refine Awp.seq ?_
    refine Awp.consP C ?_
    refine rvP C (.pv (.lit (.bool (c.kind == 1)))) ?_
    refine rvP C (.pv (.lit (.bool (c.kind == 1)))) ?_
    refine rvc_nil ?_
    refine Awp.cond (b := (c.kind == 1)) rfl (fun h4 => ?_) (fun h4 => ?_)
    ·
     replace hR := of_true h4 hR
     refine Awp.skip ?_
     refine Awp.condT (b := (c.kind == 1)) rfl h4 ?_
     refine Awp.regionP C ?_
     refine rvP C (.pv (.lit (.bool (bif (decide (c.epoch ≥ 1)) then (decide (c.epoch ≤ 1099511627776)) else false)))) ?_
     refine rvP C (.pv (.lit (.bool (bif (decide (c.epoch ≥ 1)) then (decide (c.epoch ≤ 1099511627776)) else false)))) ?_
     refine rvc_case 37 (bif (decide (c.epoch ≥ 1)) then (decide (c.epoch ≤ 1099511627776)) else false) rfl (fun h5 => ?_) (fun h5 => ?_)
     ·
      replace hR := of_true h5 hR
      refine rvO C (.pv (.lit (.bool (bif (decide (c.node ≥ 0)) then (decide (c.node < 6)) else false)))) ?_
      refine rvP C (.pv (.lit (.bool (bif (decide (c.node ≥ 0)) then (decide (c.node < 6)) else false)))) ?_
      refine rvP C (.pv (.lit (.bool (bif (decide (c.node ≥ 0)) then (decide (c.node < 6)) else false)))) ?_
      refine rvc_case 40 (bif (decide (c.node ≥ 0)) then (decide (c.node < 6)) else false) rfl (fun h6 => ?_) (fun h6 => ?_)
      ·
       replace hR := of_true h6 hR
       refine rvO C (.ptr 1 2) ?_
       refine rvO C (.pv (.lit (.int .i64 c.site))) ?_
       refine rvO C (.pv (.lit (.bool (c.site == 0)))) ?_
       refine rvP C (.pv (.lit (.bool (c.site == 0)))) ?_
       refine rvP C (.pv (.lit (.bool (c.site == 0)))) ?_
       refine rvc_nil ?_
       refine Awp.seq ?_
       refine Awp.consP C ?_
       refine rvP C (.pv (.lit (.bool (c.site == 0)))) ?_
       refine rvP C (.pv (.lit (.bool (!(c.site == 0))))) ?_
       refine rvc_nil ?_
       refine Awp.cond (b := (!(c.site == 0))) rfl (fun h7 => ?_) (fun h7 => ?_)
       ·
        replace hR := of_true h7 hR
        refine Awp.consP C ?_
        refine rvP C (.pv (.lit (.int .i64 120))) ?_
        refine rvc_nil ?_
        refine Awp.ret ?_
        subst hR
        exact ⟨.inl rfl, rfl⟩
       ·
        replace hR := of_false h7 hR
        refine Awp.skip ?_
        refine Awp.consP C ?_
        refine rvP C (.pv (.lit (.int .i64 0))) ?_
        refine rvc_nil ?_
        refine Awp.ret ?_
        subst hR
        exact ⟨.inl rfl, rfl⟩
      ·
       replace hR := of_false h6 hR
       refine rvS ?_
       refine rvS ?_
       refine rvS ?_
       refine rvP C (.pv (.lit (.bool false))) ?_
       refine rvP C (.pv (.lit (.bool false))) ?_
       refine rvc_nil ?_
       refine Awp.seq ?_
       refine Awp.consP C ?_
       refine rvP C (.pv (.lit (.bool false))) ?_
       refine rvP C (.pv (.lit (.bool true))) ?_
       refine rvc_nil ?_
       refine Awp.condT (b := true) rfl rfl ?_
       refine Awp.consP C ?_
       refine rvP C (.pv (.lit (.int .i64 120))) ?_
       refine rvc_nil ?_
       refine Awp.ret ?_
       subst hR
       exact ⟨.inl rfl, rfl⟩
     ·
      replace hR := of_false h5 hR
      refine rvS ?_
      refine rvP C (.pv (.lit (.bool false))) ?_
      refine rvP C (.pv (.lit (.bool false))) ?_
      refine rvS ?_
      refine rvS ?_
      refine rvS ?_
      refine rvP C (.pv (.lit (.bool false))) ?_
      refine rvP C (.pv (.lit (.bool false))) ?_
      refine rvc_nil ?_
      refine Awp.seq ?_
      refine Awp.consP C ?_
      refine rvP C (.pv (.lit (.bool false))) ?_
      refine rvP C (.pv (.lit (.bool true))) ?_
      refine rvc_nil ?_
      refine Awp.condT (b := true) rfl rfl ?_
      refine Awp.consP C ?_
      refine rvP C (.pv (.lit (.int .i64 120))) ?_
      refine rvc_nil ?_
      refine Awp.ret ?_
      subst hR
      exact ⟨.inl rfl, rfl⟩
    ·
     replace hR := of_false h4 hR
     refine Awp.consP C ?_
     refine rvP C (.pv (.lit (.bool (c.kind == 3)))) ?_
     refine rvP C (.pv (.lit (.bool (c.kind == 3)))) ?_
     refine rvc_nil ?_
     refine Awp.cond (b := (c.kind == 3)) rfl (fun h8 => ?_) (fun h8 => ?_)
     ·
      replace hR := of_true h8 hR
      refine Awp.skip ?_
      refine Awp.condT (b := (c.kind == 3)) rfl h8 ?_
      refine Awp.regionP C ?_
      refine rvP C (.pv (.lit (.bool (bif (decide (c.epoch ≥ 1)) then (decide (c.epoch ≤ 1099511627776)) else false)))) ?_
      refine rvP C (.pv (.lit (.bool (bif (decide (c.epoch ≥ 1)) then (decide (c.epoch ≤ 1099511627776)) else false)))) ?_
      refine rvc_case 37 (bif (decide (c.epoch ≥ 1)) then (decide (c.epoch ≤ 1099511627776)) else false) rfl (fun h9 => ?_) (fun h9 => ?_)
      ·
       replace hR := of_true h9 hR
       refine rvO C (.pv (.lit (.bool (bif (decide (c.node ≥ 0)) then (decide (c.node < 6)) else false)))) ?_
       refine rvP C (.pv (.lit (.bool (bif (decide (c.node ≥ 0)) then (decide (c.node < 6)) else false)))) ?_
       refine rvP C (.pv (.lit (.bool (bif (decide (c.node ≥ 0)) then (decide (c.node < 6)) else false)))) ?_
       refine rvc_case 40 (bif (decide (c.node ≥ 0)) then (decide (c.node < 6)) else false) rfl (fun h10 => ?_) (fun h10 => ?_)
       ·
        replace hR := of_true h10 hR
        refine rvO C (.ptr 1 2) ?_
        refine rvO C (.pv (.lit (.int .i64 c.site))) ?_
        refine rvO C (.pv (.lit (.bool (c.site == 0)))) ?_
        refine rvP C (.pv (.lit (.bool (c.site == 0)))) ?_
        refine rvP C (.pv (.lit (.bool (c.site == 0)))) ?_
        refine rvc_nil ?_
        refine Awp.seq ?_
        refine Awp.consP C ?_
        refine rvP C (.pv (.lit (.bool (c.site == 0)))) ?_
        refine rvP C (.pv (.lit (.bool (!(c.site == 0))))) ?_
        refine rvc_nil ?_
        refine Awp.cond (b := (!(c.site == 0))) rfl (fun h11 => ?_) (fun h11 => ?_)
        ·
         replace hR := of_true h11 hR
         refine Awp.consP C ?_
         refine rvP C (.pv (.lit (.int .i64 120))) ?_
         refine rvc_nil ?_
         refine Awp.ret ?_
         subst hR
         exact ⟨.inl rfl, rfl⟩
        ·
         replace hR := of_false h11 hR
         refine Awp.skip ?_
         refine Awp.consP C ?_
         refine rvP C (.pv (.lit (.int .i64 0))) ?_
         refine rvc_nil ?_
         refine Awp.ret ?_
         subst hR
         exact ⟨.inl rfl, rfl⟩
       ·
        replace hR := of_false h10 hR
        refine rvS ?_
        refine rvS ?_
        refine rvS ?_
        refine rvP C (.pv (.lit (.bool false))) ?_
        refine rvP C (.pv (.lit (.bool false))) ?_
        refine rvc_nil ?_
        refine Awp.seq ?_
        refine Awp.consP C ?_
        refine rvP C (.pv (.lit (.bool false))) ?_
        refine rvP C (.pv (.lit (.bool true))) ?_
        refine rvc_nil ?_
        refine Awp.condT (b := true) rfl rfl ?_
        refine Awp.consP C ?_
        refine rvP C (.pv (.lit (.int .i64 120))) ?_
        refine rvc_nil ?_
        refine Awp.ret ?_
        subst hR
        exact ⟨.inl rfl, rfl⟩
      ·
       replace hR := of_false h9 hR
       refine rvS ?_
       refine rvP C (.pv (.lit (.bool false))) ?_
       refine rvP C (.pv (.lit (.bool false))) ?_
       refine rvS ?_
       refine rvS ?_
       refine rvS ?_
       refine rvP C (.pv (.lit (.bool false))) ?_
       refine rvP C (.pv (.lit (.bool false))) ?_
       refine rvc_nil ?_
       refine Awp.seq ?_
       refine Awp.consP C ?_
       refine rvP C (.pv (.lit (.bool false))) ?_
       refine rvP C (.pv (.lit (.bool true))) ?_
       refine rvc_nil ?_
       refine Awp.condT (b := true) rfl rfl ?_
       refine Awp.consP C ?_
       refine rvP C (.pv (.lit (.int .i64 120))) ?_
       refine rvc_nil ?_
       refine Awp.ret ?_
       subst hR
       exact ⟨.inl rfl, rfl⟩
     ·
      replace hR := of_false h8 hR
      refine Awp.regionP C ?_
      refine rvP C (.pv (.lit (.bool (c.kind == 4)))) ?_
      refine rvP C (.pv (.lit (.bool (c.kind == 4)))) ?_
      refine rvc_nil ?_
      refine Awp.cond (b := (c.kind == 4)) rfl (fun h12 => ?_) (fun h12 => ?_)
      ·
       replace hR := of_true h12 hR
       refine Awp.regionP C ?_
       refine rvP C (.pv (.lit (.bool (bif (decide (c.epoch ≥ 1)) then (decide (c.epoch ≤ 1099511627776)) else false)))) ?_
       refine rvP C (.pv (.lit (.bool (bif (decide (c.epoch ≥ 1)) then (decide (c.epoch ≤ 1099511627776)) else false)))) ?_
       refine rvc_case 37 (bif (decide (c.epoch ≥ 1)) then (decide (c.epoch ≤ 1099511627776)) else false) rfl (fun h13 => ?_) (fun h13 => ?_)
       ·
        replace hR := of_true h13 hR
        refine rvO C (.pv (.lit (.bool (bif (decide (c.node ≥ 0)) then (decide (c.node < 6)) else false)))) ?_
        refine rvP C (.pv (.lit (.bool (bif (decide (c.node ≥ 0)) then (decide (c.node < 6)) else false)))) ?_
        refine rvP C (.pv (.lit (.bool (bif (decide (c.node ≥ 0)) then (decide (c.node < 6)) else false)))) ?_
        refine rvc_case 40 (bif (decide (c.node ≥ 0)) then (decide (c.node < 6)) else false) rfl (fun h14 => ?_) (fun h14 => ?_)
        ·
         replace hR := of_true h14 hR
         refine rvO C (.ptr 1 2) ?_
         refine rvO C (.pv (.lit (.int .i64 c.site))) ?_
         refine rvO C (.pv (.lit (.bool (c.site == 0)))) ?_
         refine rvP C (.pv (.lit (.bool (c.site == 0)))) ?_
         refine rvP C (.pv (.lit (.bool (c.site == 0)))) ?_
         refine rvc_nil ?_
         refine Awp.seq ?_
         refine Awp.consP C ?_
         refine rvP C (.pv (.lit (.bool (c.site == 0)))) ?_
         refine rvP C (.pv (.lit (.bool (!(c.site == 0))))) ?_
         refine rvc_nil ?_
         refine Awp.cond (b := (!(c.site == 0))) rfl (fun h15 => ?_) (fun h15 => ?_)
         ·
          replace hR := of_true h15 hR
          refine Awp.consP C ?_
          refine rvP C (.pv (.lit (.int .i64 120))) ?_
          refine rvc_nil ?_
          refine Awp.ret ?_
          subst hR
          exact ⟨.inl rfl, rfl⟩
         ·
          replace hR := of_false h15 hR
          refine Awp.skip ?_
          refine Awp.consP C ?_
          refine rvP C (.pv (.lit (.int .i64 0))) ?_
          refine rvc_nil ?_
          refine Awp.ret ?_
          subst hR
          exact ⟨.inl rfl, rfl⟩
        ·
         replace hR := of_false h14 hR
         refine rvS ?_
         refine rvS ?_
         refine rvS ?_
         refine rvP C (.pv (.lit (.bool false))) ?_
         refine rvP C (.pv (.lit (.bool false))) ?_
         refine rvc_nil ?_
         refine Awp.seq ?_
         refine Awp.consP C ?_
         refine rvP C (.pv (.lit (.bool false))) ?_
         refine rvP C (.pv (.lit (.bool true))) ?_
         refine rvc_nil ?_
         refine Awp.condT (b := true) rfl rfl ?_
         refine Awp.consP C ?_
         refine rvP C (.pv (.lit (.int .i64 120))) ?_
         refine rvc_nil ?_
         refine Awp.ret ?_
         subst hR
         exact ⟨.inl rfl, rfl⟩
       ·
        replace hR := of_false h13 hR
        refine rvS ?_
        refine rvP C (.pv (.lit (.bool false))) ?_
        refine rvP C (.pv (.lit (.bool false))) ?_
        refine rvS ?_
        refine rvS ?_
        refine rvS ?_
        refine rvP C (.pv (.lit (.bool false))) ?_
        refine rvP C (.pv (.lit (.bool false))) ?_
        refine rvc_nil ?_
        refine Awp.seq ?_
        refine Awp.consP C ?_
        refine rvP C (.pv (.lit (.bool false))) ?_
        refine rvP C (.pv (.lit (.bool true))) ?_
        refine rvc_nil ?_
        refine Awp.condT (b := true) rfl rfl ?_
        refine Awp.consP C ?_
        refine rvP C (.pv (.lit (.int .i64 120))) ?_
        refine rvc_nil ?_
        refine Awp.ret ?_
        subst hR
        exact ⟨.inl rfl, rfl⟩
      ·
       replace hR := of_false h12 hR
       refine Awp.consP C ?_
       refine rvP C (.pv (.lit (.bool (c.kind == 2)))) ?_
       refine rvP C (.pv (.lit (.bool (c.kind == 2)))) ?_
       refine rvc_nil ?_
       refine Awp.cond (b := (c.kind == 2)) rfl (fun h16 => ?_) (fun h16 => ?_)
       ·
        replace hR := of_true h16 hR
        refine Awp.regionP C ?_
        refine rvP C (.pv (.lit (.bool (bif (decide (c.epoch ≥ 1)) then (decide (c.epoch ≤ 1099511627776)) else false)))) ?_
        refine rvP C (.pv (.lit (.bool (bif (decide (c.epoch ≥ 1)) then (decide (c.epoch ≤ 1099511627776)) else false)))) ?_
        refine rvc_case 48 (bif (decide (c.epoch ≥ 1)) then (decide (c.epoch ≤ 1099511627776)) else false) rfl (fun h17 => ?_) (fun h17 => ?_)
        ·
         replace hR := of_true h17 hR
         refine rvO C (.pv (.lit (.bool (bif (decide (c.node ≥ 0)) then (decide (c.node < 6)) else false)))) ?_
         refine rvP C (.pv (.lit (.bool (bif (decide (c.node ≥ 0)) then (decide (c.node < 6)) else false)))) ?_
         refine rvP C (.pv (.lit (.bool (bif (decide (c.node ≥ 0)) then (decide (c.node < 6)) else false)))) ?_
         refine rvc_case 51 (bif (decide (c.node ≥ 0)) then (decide (c.node < 6)) else false) rfl (fun h18 => ?_) (fun h18 => ?_)
         ·
          replace hR := of_true h18 hR
          refine rvO C (.pv (.lit (.bool (bif (decide (c.site ≥ 0)) then (decide (c.site < 3)) else false)))) ?_
          refine rvP C (.pv (.lit (.bool (bif (decide (c.site ≥ 0)) then (decide (c.site < 3)) else false)))) ?_
          refine rvP C (.pv (.lit (.bool (bif (decide (c.site ≥ 0)) then (decide (c.site < 3)) else false)))) ?_
          refine rvc_nil ?_
          refine Awp.seq ?_
          refine Awp.consP C ?_
          refine rvP C (.pv (.lit (.bool (bif (decide (c.site ≥ 0)) then (decide (c.site < 3)) else false)))) ?_
          refine rvP C (.pv (.lit (.bool (!(bif (decide (c.site ≥ 0)) then (decide (c.site < 3)) else false))))) ?_
          refine rvc_nil ?_
          refine Awp.cond (b := (!(bif (decide (c.site ≥ 0)) then (decide (c.site < 3)) else false))) rfl (fun h19 => ?_) (fun h19 => ?_)
          ·
           replace hR := of_true h19 hR
           refine Awp.consP C ?_
           refine rvP C (.pv (.lit (.int .i64 120))) ?_
           refine rvc_nil ?_
           refine Awp.ret ?_
           subst hR
           exact ⟨.inl rfl, rfl⟩
          ·
           replace hR := of_false h19 hR
           refine Awp.skip ?_
           refine Awp.consP C ?_
           refine rvP C (.pv (.lit (.int .i64 0))) ?_
           refine rvc_nil ?_
           refine Awp.ret ?_
           subst hR
           exact ⟨.inl rfl, rfl⟩
         ·
          replace hR := of_false h18 hR
          refine rvS ?_
          refine rvP C (.pv (.lit (.bool false))) ?_
          refine rvP C (.pv (.lit (.bool false))) ?_
          refine rvc_nil ?_
          refine Awp.seq ?_
          refine Awp.consP C ?_
          refine rvP C (.pv (.lit (.bool false))) ?_
          refine rvP C (.pv (.lit (.bool true))) ?_
          refine rvc_nil ?_
          refine Awp.condT (b := true) rfl rfl ?_
          refine Awp.consP C ?_
          refine rvP C (.pv (.lit (.int .i64 120))) ?_
          refine rvc_nil ?_
          refine Awp.ret ?_
          subst hR
          exact ⟨.inl rfl, rfl⟩
        ·
         replace hR := of_false h17 hR
         refine rvS ?_
         refine rvP C (.pv (.lit (.bool false))) ?_
         refine rvP C (.pv (.lit (.bool false))) ?_
         refine rvS ?_
         refine rvP C (.pv (.lit (.bool false))) ?_
         refine rvP C (.pv (.lit (.bool false))) ?_
         refine rvc_nil ?_
         refine Awp.seq ?_
         refine Awp.consP C ?_
         refine rvP C (.pv (.lit (.bool false))) ?_
         refine rvP C (.pv (.lit (.bool true))) ?_
         refine rvc_nil ?_
         refine Awp.condT (b := true) rfl rfl ?_
         refine Awp.consP C ?_
         refine rvP C (.pv (.lit (.int .i64 120))) ?_
         refine rvc_nil ?_
         refine Awp.ret ?_
         subst hR
         exact ⟨.inl rfl, rfl⟩
       ·
        replace hR := of_false h16 hR
        refine Awp.consP C ?_
        refine rvP C (.pv (.lit (.bool (c.kind == 5)))) ?_
        refine rvP C (.pv (.lit (.bool (c.kind == 5)))) ?_
        refine rvc_nil ?_
        refine Awp.cond (b := (c.kind == 5)) rfl (fun h20 => ?_) (fun h20 => ?_)
        ·
         replace hR := of_true h20 hR
         refine Awp.regionP C ?_
         refine rvP C (.pv (.lit (.bool (bif (decide (c.epoch ≥ 1)) then (decide (c.epoch ≤ 1099511627776)) else false)))) ?_
         refine rvP C (.pv (.lit (.bool (bif (decide (c.epoch ≥ 1)) then (decide (c.epoch ≤ 1099511627776)) else false)))) ?_
         refine rvc_case 57 (bif (decide (c.epoch ≥ 1)) then (decide (c.epoch ≤ 1099511627776)) else false) rfl (fun h21 => ?_) (fun h21 => ?_)
         ·
          replace hR := of_true h21 hR
          refine rvO C (.pv (.lit (.bool (bif (decide (c.site ≥ 0)) then (decide (c.site < 3)) else false)))) ?_
          refine rvP C (.pv (.lit (.bool (bif (decide (c.site ≥ 0)) then (decide (c.site < 3)) else false)))) ?_
          refine rvP C (.pv (.lit (.bool (bif (decide (c.site ≥ 0)) then (decide (c.site < 3)) else false)))) ?_
          refine rvc_case 60 (bif (decide (c.site ≥ 0)) then (decide (c.site < 3)) else false) rfl (fun h22 => ?_) (fun h22 => ?_)
          ·
           replace hR := of_true h22 hR
           refine rvO C (.ptr 1 1) ?_
           refine rvO C (.pv (.lit (.int .i64 c.node))) ?_
           refine rvO C (.pv (.lit (.bool (c.node == 0)))) ?_
           refine rvP C (.pv (.lit (.bool (c.node == 0)))) ?_
           refine rvP C (.pv (.lit (.bool (c.node == 0)))) ?_
           refine rvc_nil ?_
           refine Awp.seq ?_
           refine Awp.consP C ?_
           refine rvP C (.pv (.lit (.bool (c.node == 0)))) ?_
           refine rvP C (.pv (.lit (.bool (!(c.node == 0))))) ?_
           refine rvc_nil ?_
           refine Awp.cond (b := (!(c.node == 0))) rfl (fun h23 => ?_) (fun h23 => ?_)
           ·
            replace hR := of_true h23 hR
            refine Awp.consP C ?_
            refine rvP C (.pv (.lit (.int .i64 120))) ?_
            refine rvc_nil ?_
            refine Awp.ret ?_
            subst hR
            exact ⟨.inl rfl, rfl⟩
           ·
            replace hR := of_false h23 hR
            refine Awp.skip ?_
            refine Awp.consP C ?_
            refine rvP C (.pv (.lit (.int .i64 0))) ?_
            refine rvc_nil ?_
            refine Awp.ret ?_
            subst hR
            exact ⟨.inl rfl, rfl⟩
          ·
           replace hR := of_false h22 hR
           refine rvS ?_
           refine rvS ?_
           refine rvS ?_
           refine rvP C (.pv (.lit (.bool false))) ?_
           refine rvP C (.pv (.lit (.bool false))) ?_
           refine rvc_nil ?_
           refine Awp.seq ?_
           refine Awp.consP C ?_
           refine rvP C (.pv (.lit (.bool false))) ?_
           refine rvP C (.pv (.lit (.bool true))) ?_
           refine rvc_nil ?_
           refine Awp.condT (b := true) rfl rfl ?_
           refine Awp.consP C ?_
           refine rvP C (.pv (.lit (.int .i64 120))) ?_
           refine rvc_nil ?_
           refine Awp.ret ?_
           subst hR
           exact ⟨.inl rfl, rfl⟩
         ·
          replace hR := of_false h21 hR
          refine rvS ?_
          refine rvP C (.pv (.lit (.bool false))) ?_
          refine rvP C (.pv (.lit (.bool false))) ?_
          refine rvS ?_
          refine rvS ?_
          refine rvS ?_
          refine rvP C (.pv (.lit (.bool false))) ?_
          refine rvP C (.pv (.lit (.bool false))) ?_
          refine rvc_nil ?_
          refine Awp.seq ?_
          refine Awp.consP C ?_
          refine rvP C (.pv (.lit (.bool false))) ?_
          refine rvP C (.pv (.lit (.bool true))) ?_
          refine rvc_nil ?_
          refine Awp.condT (b := true) rfl rfl ?_
          refine Awp.consP C ?_
          refine rvP C (.pv (.lit (.int .i64 120))) ?_
          refine rvc_nil ?_
          refine Awp.ret ?_
          subst hR
          exact ⟨.inl rfl, rfl⟩
        ·
         replace hR := of_false h20 hR
         refine Awp.regionP C ?_
         refine rvP C (.pv (.lit (.bool false))) ?_
         refine rvc_nil ?_
         refine Awp.seq ?_
         refine Awp.consP C ?_
         refine rvP C (.pv (.lit (.bool false))) ?_
         refine rvP C (.pv (.lit (.bool true))) ?_
         refine rvc_nil ?_
         refine Awp.condT (b := true) rfl rfl ?_
         refine Awp.consP C ?_
         refine rvP C (.pv (.lit (.int .i64 120))) ?_
         refine rvc_nil ?_
         refine Awp.ret ?_
         subst hR
         exact ⟨.inl rfl, rfl⟩
def rCmdCheck (c : Command) : Int :=
  (bif (bif (bif (!(bif (bif (bif (bif (bif (bif (bif (bif (bif (bif (c.kind == 1) then true else (c.kind == 2)) then true else (c.kind == 3)) then true else (c.kind == 4)) then true else (bif (c.kind == 2) then true else (c.kind == 5))) then (decide (c.epoch ≥ 1)) else false) then (decide (c.epoch ≤ 1099511627776)) else false) then (decide (c.node ≥ 0)) else false) then (decide (c.node ≤ 5)) else false) then (decide (c.site ≥ 0)) else false) then (decide (c.site ≤ 2)) else false)) then true else (bif (!(bif (bif (bif (c.kind == 1) then true else (c.kind == 2)) then true else (c.kind == 3)) then true else (c.kind == 4))) then (c.node != 0) else false)) then true else (bif (!(bif (c.kind == 2) then true else (c.kind == 5))) then (c.site != 0) else false)) then 120 else 0)
theorem rCmdCheck_calls (c : Command)  : PCalls Try.prog 25 [.agg [.pv (.lit (.int .i64 c.kind)), .pv (.lit (.int .i64 c.node)), .pv (.lit (.int .i64 c.site)), .pv (.lit (.int .i64 c.epoch))]] (.pv (.lit (.int .i64 (rCmdCheck c)))) := by
 generalize hR : rCmdCheck c = R
 refine PCalls.of_body tabOk Try.func25 rfl rfl rfl rfl rfl mixed fun E hP C hI => ?_
 refine Awp.consP C ?_
 refine rvc_un (rexec_prim C (δ := { v := .ptr 1 0, new := [(1, .cells [.pv (.lit (.int .i64 c.kind)), .pv (.lit (.int .i64 c.node)), .pv (.lit (.int .i64 c.site)), .pv (.lit (.int .i64 c.epoch))])] }) rfl rfl rfl rfl trivial rfl ?_)
 refine rvP C (.pv (.lit (.int .i64 0))) ?_
 refine rvc_nil ?_
 refine Awp.seq_midR [(1, .ptr 1 0), (2, .pv (.lit (.int .i64 0))), (3, .pv (.lit (.bool (bif (bif (bif (c.kind == 1) then true else (c.kind == 2)) then true else (c.kind == 3)) then true else (c.kind == 4)))))] [(1, .cells [.pv (.lit (.int .i64 c.kind)), .pv (.lit (.int .i64 c.node)), .pv (.lit (.int .i64 c.site)), .pv (.lit (.int .i64 c.epoch))])] [1] (Awp.region C (fun _ => .pure) (by kernel_rfl) ?_) ?_
 ·
  refine rvP C (.ptr 1 0) ?_
  refine rvP C (.pv (.lit (.int .i64 c.kind))) ?_
  refine rvP C (.pv (.lit (.bool (c.kind == 1)))) ?_
  refine rvP C (.pv (.lit (.bool (c.kind == 1)))) ?_
  refine rvc_case 9 (c.kind == 1) rfl (fun h1 => ?_) (fun h1 => ?_)
  ·
   refine rvS ?_
   refine rvS ?_
   refine rvS ?_
   refine rvP C (.pv (.lit (.bool true))) ?_
   refine rvP C (.pv (.lit (.bool true))) ?_
   refine rvS ?_
   refine rvS ?_
   refine rvS ?_
   refine rvP C (.pv (.lit (.bool true))) ?_
   refine rvP C (.pv (.lit (.bool true))) ?_
   refine rvS ?_
   refine rvS ?_
   refine rvS ?_
   refine rvP C (.pv (.lit (.bool true))) ?_
   refine rvP C (.pv (.lit (.bool true))) ?_
   refine rvc_nil ?_
   exact ⟨fun b => b, WeakerR.ofL (Ks := [1]) hI ⟨⟨rfl, rfl⟩, ⟨rfl, rfl⟩, ⟨litB_eq (by simp only [h1, cond_true, cond_false]), rfl⟩, trivial⟩ (okH_cons rfl rfl rfl rfl (okH_nil)) rfl⟩
  ·
   refine rvO C (.ptr 1 0) ?_
   refine rvO C (.pv (.lit (.int .i64 c.kind))) ?_
   refine rvO C (.pv (.lit (.bool (c.kind == 2)))) ?_
   refine rvP C (.pv (.lit (.bool (c.kind == 2)))) ?_
   refine rvP C (.pv (.lit (.bool (c.kind == 2)))) ?_
   refine rvc_case 14 (c.kind == 2) rfl (fun h2 => ?_) (fun h2 => ?_)
   ·
    refine rvS ?_
    refine rvS ?_
    refine rvS ?_
    refine rvP C (.pv (.lit (.bool true))) ?_
    refine rvP C (.pv (.lit (.bool true))) ?_
    refine rvS ?_
    refine rvS ?_
    refine rvS ?_
    refine rvP C (.pv (.lit (.bool true))) ?_
    refine rvP C (.pv (.lit (.bool true))) ?_
    refine rvc_nil ?_
    exact ⟨fun b => b, WeakerR.ofL (Ks := [1]) hI ⟨⟨rfl, rfl⟩, ⟨rfl, rfl⟩, ⟨litB_eq (by simp only [h1, h2, cond_true, cond_false]), rfl⟩, trivial⟩ (okH_cons rfl rfl rfl rfl (okH_nil)) rfl⟩
   ·
    refine rvO C (.ptr 1 0) ?_
    refine rvO C (.pv (.lit (.int .i64 c.kind))) ?_
    refine rvO C (.pv (.lit (.bool (c.kind == 3)))) ?_
    refine rvP C (.pv (.lit (.bool (c.kind == 3)))) ?_
    refine rvP C (.pv (.lit (.bool (c.kind == 3)))) ?_
    refine rvc_case 19 (c.kind == 3) rfl (fun h3 => ?_) (fun h3 => ?_)
    ·
     refine rvS ?_
     refine rvS ?_
     refine rvS ?_
     refine rvP C (.pv (.lit (.bool true))) ?_
     refine rvP C (.pv (.lit (.bool true))) ?_
     refine rvc_nil ?_
     exact ⟨fun b => b, WeakerR.ofL (Ks := [1]) hI ⟨⟨rfl, rfl⟩, ⟨rfl, rfl⟩, ⟨litB_eq (by simp only [h1, h2, h3, cond_true, cond_false]), rfl⟩, trivial⟩ (okH_cons rfl rfl rfl rfl (okH_nil)) rfl⟩
    ·
     refine rvO C (.ptr 1 0) ?_
     refine rvO C (.pv (.lit (.int .i64 c.kind))) ?_
     refine rvO C (.pv (.lit (.bool (c.kind == 4)))) ?_
     refine rvP C (.pv (.lit (.bool (c.kind == 4)))) ?_
     refine rvP C (.pv (.lit (.bool (c.kind == 4)))) ?_
     refine rvc_nil ?_
     exact ⟨fun b => b, WeakerR.ofL (Ks := [1]) hI ⟨⟨rfl, rfl⟩, ⟨rfl, rfl⟩, ⟨litB_eq (by simp only [h1, h2, h3, cond_true, cond_false]), rfl⟩, trivial⟩ (okH_cons rfl rfl rfl rfl (okH_nil)) rfl⟩
 ·
  refine Awp.seq_midR [(1, .ptr 1 0), (2, .pv (.lit (.int .i64 0))), (3, .pv (.lit (.bool (bif (bif (bif (c.kind == 1) then true else (c.kind == 2)) then true else (c.kind == 3)) then true else (c.kind == 4))))), (4, .pv (.lit (.bool (bif (c.kind == 2) then true else (c.kind == 5)))))] [(1, .cells [.pv (.lit (.int .i64 c.kind)), .pv (.lit (.int .i64 c.node)), .pv (.lit (.int .i64 c.site)), .pv (.lit (.int .i64 c.epoch))])] [1] (Awp.region C (fun _ => .pure) (by kernel_rfl) ?_) ?_
  ·
   refine rvP C (.ptr 1 0) ?_
   refine rvP C (.pv (.lit (.int .i64 c.kind))) ?_
   refine rvP C (.pv (.lit (.bool (c.kind == 2)))) ?_
   refine rvP C (.pv (.lit (.bool (c.kind == 2)))) ?_
   refine rvc_case 27 (c.kind == 2) rfl (fun h4 => ?_) (fun h4 => ?_)
   ·
    refine rvS ?_
    refine rvS ?_
    refine rvS ?_
    refine rvP C (.pv (.lit (.bool true))) ?_
    refine rvP C (.pv (.lit (.bool true))) ?_
    refine rvc_nil ?_
    exact ⟨fun b => b, WeakerR.ofL (Ks := [1]) hI ⟨⟨rfl, rfl⟩, ⟨rfl, rfl⟩, ⟨rfl, rfl⟩, ⟨litB_eq (by simp only [h4, cond_true, cond_false]), rfl⟩, trivial⟩ (okH_cons rfl rfl rfl rfl (okH_nil)) rfl⟩
   ·
    refine rvO C (.ptr 1 0) ?_
    refine rvO C (.pv (.lit (.int .i64 c.kind))) ?_
    refine rvO C (.pv (.lit (.bool (c.kind == 5)))) ?_
    refine rvP C (.pv (.lit (.bool (c.kind == 5)))) ?_
    refine rvP C (.pv (.lit (.bool (c.kind == 5)))) ?_
    refine rvc_nil ?_
    exact ⟨fun b => b, WeakerR.ofL (Ks := [1]) hI ⟨⟨rfl, rfl⟩, ⟨rfl, rfl⟩, ⟨rfl, rfl⟩, ⟨litB_eq (by simp only [h4, cond_true, cond_false]), rfl⟩, trivial⟩ (okH_cons rfl rfl rfl rfl (okH_nil)) rfl⟩
  ·
   refine Awp.seq_midR [(1, .ptr 1 0), (2, .pv (.lit (.int .i64 0))), (3, .pv (.lit (.bool (bif (bif (bif (c.kind == 1) then true else (c.kind == 2)) then true else (c.kind == 3)) then true else (c.kind == 4))))), (4, .pv (.lit (.bool (bif (c.kind == 2) then true else (c.kind == 5))))), (5, .pv (.lit (.bool (bif (bif (bif (bif (bif (bif (bif (bif (bif (bif (c.kind == 1) then true else (c.kind == 2)) then true else (c.kind == 3)) then true else (c.kind == 4)) then true else (bif (c.kind == 2) then true else (c.kind == 5))) then (decide (c.epoch ≥ 1)) else false) then (decide (c.epoch ≤ 1099511627776)) else false) then (decide (c.node ≥ 0)) else false) then (decide (c.node ≤ 5)) else false) then (decide (c.site ≥ 0)) else false) then (decide (c.site ≤ 2)) else false))))] [(1, .cells [.pv (.lit (.int .i64 c.kind)), .pv (.lit (.int .i64 c.node)), .pv (.lit (.int .i64 c.site)), .pv (.lit (.int .i64 c.epoch))])] [1] (Awp.region C (fun _ => .pure) (by kernel_rfl) ?_) ?_
   ·
    refine rvP C (.pv (.lit (.bool (bif (bif (bif (c.kind == 1) then true else (c.kind == 2)) then true else (c.kind == 3)) then true else (c.kind == 4))))) ?_
    refine rvP C (.pv (.lit (.bool (bif (bif (bif (c.kind == 1) then true else (c.kind == 2)) then true else (c.kind == 3)) then true else (c.kind == 4))))) ?_
    refine rvc_case 33 (bif (bif (bif (c.kind == 1) then true else (c.kind == 2)) then true else (c.kind == 3)) then true else (c.kind == 4)) rfl (fun h5 => ?_) (fun h5 => ?_)
    ·
     refine rvS ?_
     refine rvP C (.pv (.lit (.bool true))) ?_
     refine rvP C (.pv (.lit (.bool true))) ?_
     refine rvO C (.ptr 1 3) ?_
     refine rvO C (.pv (.lit (.int .i64 c.epoch))) ?_
     refine rvO C (.pv (.lit (.bool (decide (c.epoch ≥ 1))))) ?_
     refine rvP C (.pv (.lit (.bool (decide (c.epoch ≥ 1))))) ?_
     refine rvP C (.pv (.lit (.bool (decide (c.epoch ≥ 1))))) ?_
     refine rvc_case 41 (decide (c.epoch ≥ 1)) rfl (fun h6 => ?_) (fun h6 => ?_)
     ·
      refine rvO C (.ptr 1 3) ?_
      refine rvO C (.pv (.lit (.int .i64 c.epoch))) ?_
      refine rvO C (.pv (.lit (.bool (decide (c.epoch ≤ 1099511627776))))) ?_
      refine rvP C (.pv (.lit (.bool (decide (c.epoch ≤ 1099511627776))))) ?_
      refine rvP C (.pv (.lit (.bool (decide (c.epoch ≤ 1099511627776))))) ?_
      refine rvc_case 46 (decide (c.epoch ≤ 1099511627776)) rfl (fun h7 => ?_) (fun h7 => ?_)
      ·
       refine rvO C (.ptr 1 1) ?_
       refine rvO C (.pv (.lit (.int .i64 c.node))) ?_
       refine rvO C (.pv (.lit (.bool (decide (c.node ≥ 0))))) ?_
       refine rvP C (.pv (.lit (.bool (decide (c.node ≥ 0))))) ?_
       refine rvP C (.pv (.lit (.bool (decide (c.node ≥ 0))))) ?_
       refine rvc_case 51 (decide (c.node ≥ 0)) rfl (fun h8 => ?_) (fun h8 => ?_)
       ·
        refine rvO C (.ptr 1 1) ?_
        refine rvO C (.pv (.lit (.int .i64 c.node))) ?_
        refine rvO C (.pv (.lit (.bool (decide (c.node ≤ 5))))) ?_
        refine rvP C (.pv (.lit (.bool (decide (c.node ≤ 5))))) ?_
        refine rvP C (.pv (.lit (.bool (decide (c.node ≤ 5))))) ?_
        refine rvc_case 56 (decide (c.node ≤ 5)) rfl (fun h9 => ?_) (fun h9 => ?_)
        ·
         refine rvO C (.ptr 1 2) ?_
         refine rvO C (.pv (.lit (.int .i64 c.site))) ?_
         refine rvO C (.pv (.lit (.bool (decide (c.site ≥ 0))))) ?_
         refine rvP C (.pv (.lit (.bool (decide (c.site ≥ 0))))) ?_
         refine rvP C (.pv (.lit (.bool (decide (c.site ≥ 0))))) ?_
         refine rvc_case 61 (decide (c.site ≥ 0)) rfl (fun h10 => ?_) (fun h10 => ?_)
         ·
          refine rvO C (.ptr 1 2) ?_
          refine rvO C (.pv (.lit (.int .i64 c.site))) ?_
          refine rvO C (.pv (.lit (.bool (decide (c.site ≤ 2))))) ?_
          refine rvP C (.pv (.lit (.bool (decide (c.site ≤ 2))))) ?_
          refine rvP C (.pv (.lit (.bool (decide (c.site ≤ 2))))) ?_
          refine rvc_nil ?_
          exact ⟨fun b => b, WeakerR.ofL (Ks := [1]) hI ⟨⟨rfl, rfl⟩, ⟨rfl, rfl⟩, ⟨rfl, rfl⟩, ⟨rfl, rfl⟩, ⟨litB_eq (by simp only [h5, h6, h7, h8, h9, h10, cond_true, cond_false]), rfl⟩, trivial⟩ (okH_cons rfl rfl rfl rfl (okH_nil)) rfl⟩
         ·
          refine rvS ?_
          refine rvS ?_
          refine rvS ?_
          refine rvP C (.pv (.lit (.bool false))) ?_
          refine rvP C (.pv (.lit (.bool false))) ?_
          refine rvc_nil ?_
          exact ⟨fun b => b, WeakerR.ofL (Ks := [1]) hI ⟨⟨rfl, rfl⟩, ⟨rfl, rfl⟩, ⟨rfl, rfl⟩, ⟨rfl, rfl⟩, ⟨litB_eq (by simp only [h5, h6, h7, h8, h9, h10, cond_true, cond_false]), rfl⟩, trivial⟩ (okH_cons rfl rfl rfl rfl (okH_nil)) rfl⟩
        ·
         refine rvS ?_
         refine rvS ?_
         refine rvS ?_
         refine rvP C (.pv (.lit (.bool false))) ?_
         refine rvP C (.pv (.lit (.bool false))) ?_
         refine rvS ?_
         refine rvS ?_
         refine rvS ?_
         refine rvP C (.pv (.lit (.bool false))) ?_
         refine rvP C (.pv (.lit (.bool false))) ?_
         refine rvc_nil ?_
         exact ⟨fun b => b, WeakerR.ofL (Ks := [1]) hI ⟨⟨rfl, rfl⟩, ⟨rfl, rfl⟩, ⟨rfl, rfl⟩, ⟨rfl, rfl⟩, ⟨litB_eq (by simp only [h5, h6, h7, h8, h9, cond_true, cond_false]), rfl⟩, trivial⟩ (okH_cons rfl rfl rfl rfl (okH_nil)) rfl⟩
       ·
        refine rvS ?_
        refine rvS ?_
        refine rvS ?_
        refine rvP C (.pv (.lit (.bool false))) ?_
        refine rvP C (.pv (.lit (.bool false))) ?_
        refine rvS ?_
        refine rvS ?_
        refine rvS ?_
        refine rvP C (.pv (.lit (.bool false))) ?_
        refine rvP C (.pv (.lit (.bool false))) ?_
        refine rvS ?_
        refine rvS ?_
        refine rvS ?_
        refine rvP C (.pv (.lit (.bool false))) ?_
        refine rvP C (.pv (.lit (.bool false))) ?_
        refine rvc_nil ?_
        exact ⟨fun b => b, WeakerR.ofL (Ks := [1]) hI ⟨⟨rfl, rfl⟩, ⟨rfl, rfl⟩, ⟨rfl, rfl⟩, ⟨rfl, rfl⟩, ⟨litB_eq (by simp only [h5, h6, h7, h8, cond_true, cond_false]), rfl⟩, trivial⟩ (okH_cons rfl rfl rfl rfl (okH_nil)) rfl⟩
      ·
       refine rvS ?_
       refine rvS ?_
       refine rvS ?_
       refine rvP C (.pv (.lit (.bool false))) ?_
       refine rvP C (.pv (.lit (.bool false))) ?_
       refine rvS ?_
       refine rvS ?_
       refine rvS ?_
       refine rvP C (.pv (.lit (.bool false))) ?_
       refine rvP C (.pv (.lit (.bool false))) ?_
       refine rvS ?_
       refine rvS ?_
       refine rvS ?_
       refine rvP C (.pv (.lit (.bool false))) ?_
       refine rvP C (.pv (.lit (.bool false))) ?_
       refine rvS ?_
       refine rvS ?_
       refine rvS ?_
       refine rvP C (.pv (.lit (.bool false))) ?_
       refine rvP C (.pv (.lit (.bool false))) ?_
       refine rvc_nil ?_
       exact ⟨fun b => b, WeakerR.ofL (Ks := [1]) hI ⟨⟨rfl, rfl⟩, ⟨rfl, rfl⟩, ⟨rfl, rfl⟩, ⟨rfl, rfl⟩, ⟨litB_eq (by simp only [h5, h6, h7, cond_true, cond_false]), rfl⟩, trivial⟩ (okH_cons rfl rfl rfl rfl (okH_nil)) rfl⟩
     ·
      refine rvS ?_
      refine rvS ?_
      refine rvS ?_
      refine rvP C (.pv (.lit (.bool false))) ?_
      refine rvP C (.pv (.lit (.bool false))) ?_
      refine rvS ?_
      refine rvS ?_
      refine rvS ?_
      refine rvP C (.pv (.lit (.bool false))) ?_
      refine rvP C (.pv (.lit (.bool false))) ?_
      refine rvS ?_
      refine rvS ?_
      refine rvS ?_
      refine rvP C (.pv (.lit (.bool false))) ?_
      refine rvP C (.pv (.lit (.bool false))) ?_
      refine rvS ?_
      refine rvS ?_
      refine rvS ?_
      refine rvP C (.pv (.lit (.bool false))) ?_
      refine rvP C (.pv (.lit (.bool false))) ?_
      refine rvS ?_
      refine rvS ?_
      refine rvS ?_
      refine rvP C (.pv (.lit (.bool false))) ?_
      refine rvP C (.pv (.lit (.bool false))) ?_
      refine rvc_nil ?_
      exact ⟨fun b => b, WeakerR.ofL (Ks := [1]) hI ⟨⟨rfl, rfl⟩, ⟨rfl, rfl⟩, ⟨rfl, rfl⟩, ⟨rfl, rfl⟩, ⟨litB_eq (by simp only [h5, h6, cond_true, cond_false]), rfl⟩, trivial⟩ (okH_cons rfl rfl rfl rfl (okH_nil)) rfl⟩
    ·
     refine rvO C (.pv (.lit (.bool (bif (c.kind == 2) then true else (c.kind == 5))))) ?_
     refine rvP C (.pv (.lit (.bool (bif (c.kind == 2) then true else (c.kind == 5))))) ?_
     refine rvP C (.pv (.lit (.bool (bif (c.kind == 2) then true else (c.kind == 5))))) ?_
     refine rvc_case 36 (bif (c.kind == 2) then true else (c.kind == 5)) rfl (fun h11 => ?_) (fun h11 => ?_)
     ·
      refine rvO C (.ptr 1 3) ?_
      refine rvO C (.pv (.lit (.int .i64 c.epoch))) ?_
      refine rvO C (.pv (.lit (.bool (decide (c.epoch ≥ 1))))) ?_
      refine rvP C (.pv (.lit (.bool (decide (c.epoch ≥ 1))))) ?_
      refine rvP C (.pv (.lit (.bool (decide (c.epoch ≥ 1))))) ?_
      refine rvc_case 41 (decide (c.epoch ≥ 1)) rfl (fun h12 => ?_) (fun h12 => ?_)
      ·
       refine rvO C (.ptr 1 3) ?_
       refine rvO C (.pv (.lit (.int .i64 c.epoch))) ?_
       refine rvO C (.pv (.lit (.bool (decide (c.epoch ≤ 1099511627776))))) ?_
       refine rvP C (.pv (.lit (.bool (decide (c.epoch ≤ 1099511627776))))) ?_
       refine rvP C (.pv (.lit (.bool (decide (c.epoch ≤ 1099511627776))))) ?_
       refine rvc_case 46 (decide (c.epoch ≤ 1099511627776)) rfl (fun h13 => ?_) (fun h13 => ?_)
       ·
        refine rvO C (.ptr 1 1) ?_
        refine rvO C (.pv (.lit (.int .i64 c.node))) ?_
        refine rvO C (.pv (.lit (.bool (decide (c.node ≥ 0))))) ?_
        refine rvP C (.pv (.lit (.bool (decide (c.node ≥ 0))))) ?_
        refine rvP C (.pv (.lit (.bool (decide (c.node ≥ 0))))) ?_
        refine rvc_case 51 (decide (c.node ≥ 0)) rfl (fun h14 => ?_) (fun h14 => ?_)
        ·
         refine rvO C (.ptr 1 1) ?_
         refine rvO C (.pv (.lit (.int .i64 c.node))) ?_
         refine rvO C (.pv (.lit (.bool (decide (c.node ≤ 5))))) ?_
         refine rvP C (.pv (.lit (.bool (decide (c.node ≤ 5))))) ?_
         refine rvP C (.pv (.lit (.bool (decide (c.node ≤ 5))))) ?_
         refine rvc_case 56 (decide (c.node ≤ 5)) rfl (fun h15 => ?_) (fun h15 => ?_)
         ·
          refine rvO C (.ptr 1 2) ?_
          refine rvO C (.pv (.lit (.int .i64 c.site))) ?_
          refine rvO C (.pv (.lit (.bool (decide (c.site ≥ 0))))) ?_
          refine rvP C (.pv (.lit (.bool (decide (c.site ≥ 0))))) ?_
          refine rvP C (.pv (.lit (.bool (decide (c.site ≥ 0))))) ?_
          refine rvc_case 61 (decide (c.site ≥ 0)) rfl (fun h16 => ?_) (fun h16 => ?_)
          ·
           refine rvO C (.ptr 1 2) ?_
           refine rvO C (.pv (.lit (.int .i64 c.site))) ?_
           refine rvO C (.pv (.lit (.bool (decide (c.site ≤ 2))))) ?_
           refine rvP C (.pv (.lit (.bool (decide (c.site ≤ 2))))) ?_
           refine rvP C (.pv (.lit (.bool (decide (c.site ≤ 2))))) ?_
           refine rvc_nil ?_
           exact ⟨fun b => b, WeakerR.ofL (Ks := [1]) hI ⟨⟨rfl, rfl⟩, ⟨rfl, rfl⟩, ⟨rfl, rfl⟩, ⟨rfl, rfl⟩, ⟨litB_eq (by simp only [h5, h11, h12, h13, h14, h15, h16, cond_true, cond_false]), rfl⟩, trivial⟩ (okH_cons rfl rfl rfl rfl (okH_nil)) rfl⟩
          ·
           refine rvS ?_
           refine rvS ?_
           refine rvS ?_
           refine rvP C (.pv (.lit (.bool false))) ?_
           refine rvP C (.pv (.lit (.bool false))) ?_
           refine rvc_nil ?_
           exact ⟨fun b => b, WeakerR.ofL (Ks := [1]) hI ⟨⟨rfl, rfl⟩, ⟨rfl, rfl⟩, ⟨rfl, rfl⟩, ⟨rfl, rfl⟩, ⟨litB_eq (by simp only [h5, h11, h12, h13, h14, h15, h16, cond_true, cond_false]), rfl⟩, trivial⟩ (okH_cons rfl rfl rfl rfl (okH_nil)) rfl⟩
         ·
          refine rvS ?_
          refine rvS ?_
          refine rvS ?_
          refine rvP C (.pv (.lit (.bool false))) ?_
          refine rvP C (.pv (.lit (.bool false))) ?_
          refine rvS ?_
          refine rvS ?_
          refine rvS ?_
          refine rvP C (.pv (.lit (.bool false))) ?_
          refine rvP C (.pv (.lit (.bool false))) ?_
          refine rvc_nil ?_
          exact ⟨fun b => b, WeakerR.ofL (Ks := [1]) hI ⟨⟨rfl, rfl⟩, ⟨rfl, rfl⟩, ⟨rfl, rfl⟩, ⟨rfl, rfl⟩, ⟨litB_eq (by simp only [h5, h11, h12, h13, h14, h15, cond_true, cond_false]), rfl⟩, trivial⟩ (okH_cons rfl rfl rfl rfl (okH_nil)) rfl⟩
        ·
         refine rvS ?_
         refine rvS ?_
         refine rvS ?_
         refine rvP C (.pv (.lit (.bool false))) ?_
         refine rvP C (.pv (.lit (.bool false))) ?_
         refine rvS ?_
         refine rvS ?_
         refine rvS ?_
         refine rvP C (.pv (.lit (.bool false))) ?_
         refine rvP C (.pv (.lit (.bool false))) ?_
         refine rvS ?_
         refine rvS ?_
         refine rvS ?_
         refine rvP C (.pv (.lit (.bool false))) ?_
         refine rvP C (.pv (.lit (.bool false))) ?_
         refine rvc_nil ?_
         exact ⟨fun b => b, WeakerR.ofL (Ks := [1]) hI ⟨⟨rfl, rfl⟩, ⟨rfl, rfl⟩, ⟨rfl, rfl⟩, ⟨rfl, rfl⟩, ⟨litB_eq (by simp only [h5, h11, h12, h13, h14, cond_true, cond_false]), rfl⟩, trivial⟩ (okH_cons rfl rfl rfl rfl (okH_nil)) rfl⟩
       ·
        refine rvS ?_
        refine rvS ?_
        refine rvS ?_
        refine rvP C (.pv (.lit (.bool false))) ?_
        refine rvP C (.pv (.lit (.bool false))) ?_
        refine rvS ?_
        refine rvS ?_
        refine rvS ?_
        refine rvP C (.pv (.lit (.bool false))) ?_
        refine rvP C (.pv (.lit (.bool false))) ?_
        refine rvS ?_
        refine rvS ?_
        refine rvS ?_
        refine rvP C (.pv (.lit (.bool false))) ?_
        refine rvP C (.pv (.lit (.bool false))) ?_
        refine rvS ?_
        refine rvS ?_
        refine rvS ?_
        refine rvP C (.pv (.lit (.bool false))) ?_
        refine rvP C (.pv (.lit (.bool false))) ?_
        refine rvc_nil ?_
        exact ⟨fun b => b, WeakerR.ofL (Ks := [1]) hI ⟨⟨rfl, rfl⟩, ⟨rfl, rfl⟩, ⟨rfl, rfl⟩, ⟨rfl, rfl⟩, ⟨litB_eq (by simp only [h5, h11, h12, h13, cond_true, cond_false]), rfl⟩, trivial⟩ (okH_cons rfl rfl rfl rfl (okH_nil)) rfl⟩
      ·
       refine rvS ?_
       refine rvS ?_
       refine rvS ?_
       refine rvP C (.pv (.lit (.bool false))) ?_
       refine rvP C (.pv (.lit (.bool false))) ?_
       refine rvS ?_
       refine rvS ?_
       refine rvS ?_
       refine rvP C (.pv (.lit (.bool false))) ?_
       refine rvP C (.pv (.lit (.bool false))) ?_
       refine rvS ?_
       refine rvS ?_
       refine rvS ?_
       refine rvP C (.pv (.lit (.bool false))) ?_
       refine rvP C (.pv (.lit (.bool false))) ?_
       refine rvS ?_
       refine rvS ?_
       refine rvS ?_
       refine rvP C (.pv (.lit (.bool false))) ?_
       refine rvP C (.pv (.lit (.bool false))) ?_
       refine rvS ?_
       refine rvS ?_
       refine rvS ?_
       refine rvP C (.pv (.lit (.bool false))) ?_
       refine rvP C (.pv (.lit (.bool false))) ?_
       refine rvc_nil ?_
       exact ⟨fun b => b, WeakerR.ofL (Ks := [1]) hI ⟨⟨rfl, rfl⟩, ⟨rfl, rfl⟩, ⟨rfl, rfl⟩, ⟨rfl, rfl⟩, ⟨litB_eq (by simp only [h5, h11, h12, cond_true, cond_false]), rfl⟩, trivial⟩ (okH_cons rfl rfl rfl rfl (okH_nil)) rfl⟩
     ·
      refine rvS ?_
      refine rvS ?_
      refine rvS ?_
      refine rvP C (.pv (.lit (.bool false))) ?_
      refine rvP C (.pv (.lit (.bool false))) ?_
      refine rvS ?_
      refine rvS ?_
      refine rvS ?_
      refine rvP C (.pv (.lit (.bool false))) ?_
      refine rvP C (.pv (.lit (.bool false))) ?_
      refine rvS ?_
      refine rvS ?_
      refine rvS ?_
      refine rvP C (.pv (.lit (.bool false))) ?_
      refine rvP C (.pv (.lit (.bool false))) ?_
      refine rvS ?_
      refine rvS ?_
      refine rvS ?_
      refine rvP C (.pv (.lit (.bool false))) ?_
      refine rvP C (.pv (.lit (.bool false))) ?_
      refine rvS ?_
      refine rvS ?_
      refine rvS ?_
      refine rvP C (.pv (.lit (.bool false))) ?_
      refine rvP C (.pv (.lit (.bool false))) ?_
      refine rvS ?_
      refine rvS ?_
      refine rvS ?_
      refine rvP C (.pv (.lit (.bool false))) ?_
      refine rvP C (.pv (.lit (.bool false))) ?_
      refine rvc_nil ?_
      exact ⟨fun b => b, WeakerR.ofL (Ks := [1]) hI ⟨⟨rfl, rfl⟩, ⟨rfl, rfl⟩, ⟨rfl, rfl⟩, ⟨rfl, rfl⟩, ⟨litB_eq (by simp only [h5, h11, cond_true, cond_false]), rfl⟩, trivial⟩ (okH_cons rfl rfl rfl rfl (okH_nil)) rfl⟩
   ·
    refine Awp.seq ?_
    refine Awp.seq_midR [(2, .pv (.lit (.int .i64 0))), (85, .pv (.lit (.bool (bif (bif (!(bif (bif (bif (bif (bif (bif (bif (bif (bif (bif (c.kind == 1) then true else (c.kind == 2)) then true else (c.kind == 3)) then true else (c.kind == 4)) then true else (bif (c.kind == 2) then true else (c.kind == 5))) then (decide (c.epoch ≥ 1)) else false) then (decide (c.epoch ≤ 1099511627776)) else false) then (decide (c.node ≥ 0)) else false) then (decide (c.node ≤ 5)) else false) then (decide (c.site ≥ 0)) else false) then (decide (c.site ≤ 2)) else false)) then true else (bif (!(bif (bif (bif (c.kind == 1) then true else (c.kind == 2)) then true else (c.kind == 3)) then true else (c.kind == 4))) then (c.node != 0) else false)) then true else (bif (!(bif (c.kind == 2) then true else (c.kind == 5))) then (c.site != 0) else false)))))] [] [] (Awp.region C (fun _ => .pure) (by kernel_rfl) ?_) ?_
    ·
     refine rvP C (.pv (.lit (.bool (bif (bif (bif (bif (bif (bif (bif (bif (bif (bif (c.kind == 1) then true else (c.kind == 2)) then true else (c.kind == 3)) then true else (c.kind == 4)) then true else (bif (c.kind == 2) then true else (c.kind == 5))) then (decide (c.epoch ≥ 1)) else false) then (decide (c.epoch ≤ 1099511627776)) else false) then (decide (c.node ≥ 0)) else false) then (decide (c.node ≤ 5)) else false) then (decide (c.site ≥ 0)) else false) then (decide (c.site ≤ 2)) else false)))) ?_
     refine rvP C (.pv (.lit (.bool (!(bif (bif (bif (bif (bif (bif (bif (bif (bif (bif (c.kind == 1) then true else (c.kind == 2)) then true else (c.kind == 3)) then true else (c.kind == 4)) then true else (bif (c.kind == 2) then true else (c.kind == 5))) then (decide (c.epoch ≥ 1)) else false) then (decide (c.epoch ≤ 1099511627776)) else false) then (decide (c.node ≥ 0)) else false) then (decide (c.node ≤ 5)) else false) then (decide (c.site ≥ 0)) else false) then (decide (c.site ≤ 2)) else false))))) ?_
     refine rvP C (.pv (.lit (.bool (!(bif (bif (bif (bif (bif (bif (bif (bif (bif (bif (c.kind == 1) then true else (c.kind == 2)) then true else (c.kind == 3)) then true else (c.kind == 4)) then true else (bif (c.kind == 2) then true else (c.kind == 5))) then (decide (c.epoch ≥ 1)) else false) then (decide (c.epoch ≤ 1099511627776)) else false) then (decide (c.node ≥ 0)) else false) then (decide (c.node ≤ 5)) else false) then (decide (c.site ≥ 0)) else false) then (decide (c.site ≤ 2)) else false))))) ?_
     refine rvc_case 68 (!(bif (bif (bif (bif (bif (bif (bif (bif (bif (bif (c.kind == 1) then true else (c.kind == 2)) then true else (c.kind == 3)) then true else (c.kind == 4)) then true else (bif (c.kind == 2) then true else (c.kind == 5))) then (decide (c.epoch ≥ 1)) else false) then (decide (c.epoch ≤ 1099511627776)) else false) then (decide (c.node ≥ 0)) else false) then (decide (c.node ≤ 5)) else false) then (decide (c.site ≥ 0)) else false) then (decide (c.site ≤ 2)) else false)) rfl (fun h17 => ?_) (fun h17 => ?_)
     ·
      refine rvS ?_
      refine rvS ?_
      refine rvS ?_
      refine rvc_shutU rfl rfl rfl ?_
      refine rvc_shutU rfl rfl rfl ?_
      refine rvc_shutU rfl rfl rfl ?_
      refine rvS ?_
      refine rvP C (.pv (.lit (.bool true))) ?_
      refine rvP C (.pv (.lit (.bool true))) ?_
      refine rvS ?_
      refine rvS ?_
      refine rvS ?_
      refine rvc_shutU rfl rfl rfl ?_
      refine rvc_shutU rfl rfl rfl ?_
      refine rvc_shutU rfl rfl rfl ?_
      refine rvS ?_
      refine rvP C (.pv (.lit (.bool true))) ?_
      refine rvc_nil ?_
      exact ⟨fun b => b, WeakerR.ofL (Ks := []) hI ⟨⟨rfl, rfl⟩, ⟨litB_eq (by simp only [h17, cond_true, cond_false]), rfl⟩, trivial⟩ (okH_nil) rfl⟩
     ·
      refine rvO C (.pv (.lit (.bool (bif (bif (bif (c.kind == 1) then true else (c.kind == 2)) then true else (c.kind == 3)) then true else (c.kind == 4))))) ?_
      refine rvO C (.pv (.lit (.bool (!(bif (bif (bif (c.kind == 1) then true else (c.kind == 2)) then true else (c.kind == 3)) then true else (c.kind == 4)))))) ?_
      refine rvO C (.pv (.lit (.bool (!(bif (bif (bif (c.kind == 1) then true else (c.kind == 2)) then true else (c.kind == 3)) then true else (c.kind == 4)))))) ?_
      refine rvc_case 71 (!(bif (bif (bif (c.kind == 1) then true else (c.kind == 2)) then true else (c.kind == 3)) then true else (c.kind == 4))) rfl (fun h18 => ?_) (fun h18 => ?_)
      ·
       refine rvO C (.ptr 1 1) ?_
       refine rvO C (.pv (.lit (.int .i64 c.node))) ?_
       refine rvO C (.pv (.lit (.bool (c.node != 0)))) ?_
       refine rvO C (.pv (.lit (.bool (c.node != 0)))) ?_
       refine rvP C (.pv (.lit (.bool (c.node != 0)))) ?_
       refine rvP C (.pv (.lit (.bool (c.node != 0)))) ?_
       refine rvc_case 77 (c.node != 0) rfl (fun h19 => ?_) (fun h19 => ?_)
       ·
        refine rvS ?_
        refine rvS ?_
        refine rvS ?_
        refine rvc_shutU rfl rfl rfl ?_
        refine rvc_shutU rfl rfl rfl ?_
        refine rvc_shutU rfl rfl rfl ?_
        refine rvS ?_
        refine rvP C (.pv (.lit (.bool true))) ?_
        refine rvc_nil ?_
        exact ⟨fun b => b, WeakerR.ofL (Ks := []) hI ⟨⟨rfl, rfl⟩, ⟨litB_eq (by simp only [h17, h18, h19, cond_true, cond_false]), rfl⟩, trivial⟩ (okH_nil) rfl⟩
       ·
        refine rvO C (.pv (.lit (.bool (bif (c.kind == 2) then true else (c.kind == 5))))) ?_
        refine rvO C (.pv (.lit (.bool (!(bif (c.kind == 2) then true else (c.kind == 5)))))) ?_
        refine rvO C (.pv (.lit (.bool (!(bif (c.kind == 2) then true else (c.kind == 5)))))) ?_
        refine rvc_case 80 (!(bif (c.kind == 2) then true else (c.kind == 5))) rfl (fun h20 => ?_) (fun h20 => ?_)
        ·
         refine rvO C (.ptr 1 2) ?_
         refine rvO C (.pv (.lit (.int .i64 c.site))) ?_
         refine rvO C (.pv (.lit (.bool (c.site != 0)))) ?_
         refine rvO C (.pv (.lit (.bool (c.site != 0)))) ?_
         refine rvP C (.pv (.lit (.bool (c.site != 0)))) ?_
         refine rvc_nil ?_
         exact ⟨fun b => b, WeakerR.ofL (Ks := []) hI ⟨⟨rfl, rfl⟩, ⟨litB_eq (by simp only [h17, h18, h19, h20, cond_true, cond_false]), rfl⟩, trivial⟩ (okH_nil) rfl⟩
        ·
         refine rvS ?_
         refine rvS ?_
         refine rvS ?_
         refine rvO C (.pv (.lit (.bool false))) ?_
         refine rvP C (.pv (.lit (.bool false))) ?_
         refine rvc_nil ?_
         exact ⟨fun b => b, WeakerR.ofL (Ks := []) hI ⟨⟨rfl, rfl⟩, ⟨litB_eq (by simp only [h17, h18, h19, h20, cond_true, cond_false]), rfl⟩, trivial⟩ (okH_nil) rfl⟩
      ·
       refine rvS ?_
       refine rvS ?_
       refine rvS ?_
       refine rvO C (.pv (.lit (.bool false))) ?_
       refine rvP C (.pv (.lit (.bool false))) ?_
       refine rvP C (.pv (.lit (.bool false))) ?_
       refine rvO C (.pv (.lit (.bool (bif (c.kind == 2) then true else (c.kind == 5))))) ?_
       refine rvO C (.pv (.lit (.bool (!(bif (c.kind == 2) then true else (c.kind == 5)))))) ?_
       refine rvO C (.pv (.lit (.bool (!(bif (c.kind == 2) then true else (c.kind == 5)))))) ?_
       refine rvc_case 80 (!(bif (c.kind == 2) then true else (c.kind == 5))) rfl (fun h21 => ?_) (fun h21 => ?_)
       ·
        refine rvO C (.ptr 1 2) ?_
        refine rvO C (.pv (.lit (.int .i64 c.site))) ?_
        refine rvO C (.pv (.lit (.bool (c.site != 0)))) ?_
        refine rvO C (.pv (.lit (.bool (c.site != 0)))) ?_
        refine rvP C (.pv (.lit (.bool (c.site != 0)))) ?_
        refine rvc_nil ?_
        exact ⟨fun b => b, WeakerR.ofL (Ks := []) hI ⟨⟨rfl, rfl⟩, ⟨litB_eq (by simp only [h17, h18, h21, cond_true, cond_false]), rfl⟩, trivial⟩ (okH_nil) rfl⟩
       ·
        refine rvS ?_
        refine rvS ?_
        refine rvS ?_
        refine rvO C (.pv (.lit (.bool false))) ?_
        refine rvP C (.pv (.lit (.bool false))) ?_
        refine rvc_nil ?_
        exact ⟨fun b => b, WeakerR.ofL (Ks := []) hI ⟨⟨rfl, rfl⟩, ⟨litB_eq (by simp only [h17, h18, h21, cond_true, cond_false]), rfl⟩, trivial⟩ (okH_nil) rfl⟩
    ·
     refine Awp.cond (b := (bif (bif (!(bif (bif (bif (bif (bif (bif (bif (bif (bif (bif (c.kind == 1) then true else (c.kind == 2)) then true else (c.kind == 3)) then true else (c.kind == 4)) then true else (bif (c.kind == 2) then true else (c.kind == 5))) then (decide (c.epoch ≥ 1)) else false) then (decide (c.epoch ≤ 1099511627776)) else false) then (decide (c.node ≥ 0)) else false) then (decide (c.node ≤ 5)) else false) then (decide (c.site ≥ 0)) else false) then (decide (c.site ≤ 2)) else false)) then true else (bif (!(bif (bif (bif (c.kind == 1) then true else (c.kind == 2)) then true else (c.kind == 3)) then true else (c.kind == 4))) then (c.node != 0) else false)) then true else (bif (!(bif (c.kind == 2) then true else (c.kind == 5))) then (c.site != 0) else false))) rfl (fun h22 => ?_) (fun h22 => ?_)
     ·
      replace hR := of_true h22 hR
      refine Awp.consP C ?_
      refine rvP C (.pv (.lit (.int .i64 120))) ?_
      refine rvc_nil ?_
      refine Awp.ret ?_
      subst hR
      exact ⟨.inl rfl, rfl⟩
     ·
      replace hR := of_false h22 hR
      refine Awp.skip ?_
      refine Awp.consP C ?_
      refine rvP C (.pv (.lit (.int .i64 0))) ?_
      refine rvc_nil ?_
      refine Awp.ret ?_
      subst hR
      exact ⟨.inl rfl, rfl⟩
end Go.Proofs.Ytpgenmflgdkfiaa
/- Readers of bytes: where they stand. No conditions. -/
namespace Go.Proofs.Ytpgenmflgdkfiaa
open Go.Am
def okR (r : Reader) : Prop := (0 ≤ r.at_ ∧ r.at_ ≤ (r.b.D.length : Int)) ∧ r.b.D.length ≤ 1000000
theorem rdNew_ok (b : Sl Int) (h : b.D.length ≤ 1000000) : okR (rdNew b) := ⟨⟨Int.le_refl _, Int.natCast_nonneg _⟩, h⟩
theorem rdStop_ok {r : Reader} {a e : Int} (h : okR r) (ha : 0 ≤ a ∧ a ≤ (r.b.D.length : Int)) : okR (rdStop r a e) := by
  unfold rdStop
  cases r.err == 0
  · exact h
  · exact ⟨ha, h.2⟩
theorem bif_pair {P : Reader → Prop} {a : Bool} {x y : Reader × Int} (hx : P x.1) (hy : P y.1) : P (bif a then x else y).1 := by cases a <;> assumption
theorem rdNum_l0_ok (r : Reader) (h : okR r) : ∀ (f : Nat) (n s : Int) (v : Reader), f = v.b.D.length - v.at_.toNat + 1 → v.b = r.b → okR v → okR (rdNum_l0 r f n s v).1
  | 0, _, _, _, hf, _, _ => by omega
  | f + 1, n, s, v, hf, hb, hv => by
    have hw : 0 ≤ r.at_ ∧ r.at_ ≤ (v.b.D.length : Int) := by rw [hb]; exact h.1
    have h1 := hv.1
    have h2 := hv.2
    unfold rdNum_l0
    cases e1 : v.at_ == (v.b.D.length : Int)
    · have hne := ne_of_beq_false e1
      have hv' : okR (Reader.mk v.b (IntKind.i64.wrap (v.at_ + 1)) v.err v.made) := by
        have := wrapI (v.at_ + 1)
        refine ⟨⟨?_, ?_⟩, hv.2⟩ <;> (dsimp only; omega)
      have ih : ∀ n s, okR (rdNum_l0 r f n s (Reader.mk v.b (IntKind.i64.wrap (v.at_ + 1)) v.err v.made)).1 := fun n s => by
        refine rdNum_l0_ok r h f n s _ ?_ hb hv'
        have := wrapI (v.at_ + 1)
        dsimp only
        omega
      simp only [cond_false]
      repeat' (first | exact ih _ _ | exact rdStop_ok hv' hw | exact hv' | (apply bif_pair))
    · exact rdStop_ok hv hw
theorem rdNum_ok (r : Reader) (h : okR r) : okR (rdNum r).1 := by
  unfold rdNum
  refine bif_pair (P := okR) h ?_
  exact rdNum_l0_ok r h _ _ _ _ rfl rfl h
theorem rdNum_b_l0 (r : Reader) : ∀ (f : Nat) (n s : Int) (v : Reader), f = v.b.D.length - v.at_.toNat + 1 → okR v → v.b = r.b → (rdNum_l0 r f n s v).1.b = r.b
  | 0, _, _, _, hf, _, _ => by omega
  | f + 1, n, s, v, hf, hv, hb => by
    have st : ∀ {x : Reader} {a e : Int}, x.b = r.b → (rdStop x a e).b = r.b := fun {x a e} hx => by
      unfold rdStop; cases x.err == 0 <;> exact hx
    have h1 := hv.1
    have h2 := hv.2
    unfold rdNum_l0
    cases e1 : v.at_ == (v.b.D.length : Int)
    · have hne := ne_of_beq_false e1
      have hv' : okR (Reader.mk v.b (IntKind.i64.wrap (v.at_ + 1)) v.err v.made) := by
        have := wrapI (v.at_ + 1)
        refine ⟨⟨?_, ?_⟩, hv.2⟩ <;> (dsimp only; omega)
      have ih : ∀ n s, (rdNum_l0 r f n s (Reader.mk v.b (IntKind.i64.wrap (v.at_ + 1)) v.err v.made)).1.b = r.b := fun n s => by
        refine rdNum_b_l0 r f n s _ ?_ hv' hb
        have := wrapI (v.at_ + 1)
        dsimp only
        omega
      simp only [cond_false]
      repeat' (first | exact ih _ _ | exact st hb | exact hb | (apply bif_pair (P := fun x => x.b = r.b)))
    · exact st hb
theorem rdNum_b (r : Reader) (h : okR r) : (rdNum r).1.b = r.b := by
  unfold rdNum
  refine bif_pair (P := fun x => x.b = r.b) rfl ?_
  exact rdNum_b_l0 r _ _ _ _ rfl h rfl
theorem rdNum_err (r : Reader) (h : (rdErr r != 0) = true) : rdNum r = (r, 0) := by unfold rdNum; rw [h]; rfl
theorem rdLeft_eq (r : Reader) (h : okR r) (e : rdErr r = 0) : rdLeft r = (r.b.D.length : Int) - r.at_ := by
  unfold rdLeft
  rw [e]
  have := wrapI ((r.b.D.length : Int) - r.at_)
  have h1 := h.1
  have h2 := h.2
  show IntKind.i64.wrap _ = _
  omega
theorem rdIn_back (r : Reader) (h : okR r) (e : rdErr r = 0) : IntKind.i64.wrap (((rdNum r).1.b.D.length : Int) - rdLeft r) = r.at_ := by
  rw [rdLeft_eq r h e, rdNum_b r h]
  have := wrapI ((r.b.D.length : Int) - ((r.b.D.length : Int) - r.at_))
  have h1 := h.1
  have h2 := h.2
  omega
theorem rdIn_ok (r : Reader) (lo hi : Int) (h : okR r) : okR (rdIn r lo hi).1 := by
  have h1 := rdNum_ok r h
  cases e0 : rdErr r != 0
  · have hs : okR (rdStop (rdNum r).1 (IntKind.i64.wrap (((rdNum r).1.b.D.length : Int) - rdLeft r)) 5) := by
      rw [rdIn_back r h (eq_of_bne_false e0)]
      exact rdStop_ok h1 (by rw [rdNum_b r h]; exact h.1)
    unfold rdIn
    repeat' (first | exact h1 | exact hs | (apply bif_pair))
  · unfold rdIn
    rw [rdNum_err r e0]
    dsimp only
    rw [e0]
    exact h
theorem wrapU (n : Int) : IntKind.u64.wrap n = n % 18446744073709551616 := by
  simp [IntKind.wrap, IntKind.bits, IntKind.signed]
theorem wrap_lt64 (n : Int) : IntKind.u64.wrap n < 18446744073709551616 := by rw [wrapU]; omega
theorem wPut_l1_len {b : Nat} {x : Int} (hx : x < 18446744073709551616) : ∀ (f : Nat) (b1 : List Int) (n : Int), n.toNat < f → putInv b x b1 n → (wPut_l1 (fun b1 n => (Sl.mk false (b1 ++ [(IntKind.u8.wrap n)]))) f b1 n).D.length ≤ b + 10
  | 0, _, _, h, _ => by omega
  | f + 1, b1, n, h, hI => by
    unfold wPut_l1
    cases e1 : decide (n ≥ 128)
    · have := putInv_le hI hx
      show (b1 ++ [_]).length ≤ _
      rw [List.length_append, List.length_singleton]; omega
    · have hn := of_decide_eq_true e1
      exact wPut_l1_len hx f _ _ (by rw [shr7]; omega) (putInv_step hI hn)
theorem wPut_len (b : Sl Int) (x : Int) (hx : x < 18446744073709551616) : (wPut b x).D.length ≤ b.D.length + 10 := by
  unfold wPut
  cases e1 : decide (x ≥ 128)
  · show (b.D ++ [_]).length ≤ _
    rw [List.length_append, List.length_singleton]; omega
  · exact wPut_l1_len hx _ _ _ (by rw [shr7]; omega) (putInv_start (of_decide_eq_true e1))
end Go.Proofs.Ytpgenmflgdkfiaa
/- Commands as bytes. No conditions. -/
namespace Go.Proofs.Ytpgenmflgdkfiaa
open Go.Am
def cmdPut (c : Command) : (Sl Int) × Int :=
  (bif ((cmdCheck c) != 0) then ((Sl.mk true []), (cmdCheck c)) else ((wPut (wPut (wPut (wPut (Sl.mk true []) (IntKind.u64.wrap c.kind)) (IntKind.u64.wrap c.node)) (IntKind.u64.wrap c.site)) (IntKind.u64.wrap c.epoch)), 0))
theorem cmdPut_calls (c : Command)  : PCalls Try.prog 20 [.agg [.pv (.lit (.int .i64 c.kind)), .pv (.lit (.int .i64 c.node)), .pv (.lit (.int .i64 c.site)), .pv (.lit (.int .i64 c.epoch))]] (.tup [sS (some (cmdPut c).1.nil) (eI .u8) ((cmdPut c).1.D), .pv (.lit (.int .i64 ((cmdPut c).2)))]) := by
 generalize hR : cmdPut c = R
 refine PCalls.of_body tabOk Try.func20 rfl rfl rfl rfl rfl mixed fun E hP C hI => ?_
 refine Awp.consP C ?_
 refine rvc_un (rexec_prim C (δ := { v := .ptr 1 0, new := [(1, .cells [.pv (.lit (.int .i64 c.kind)), .pv (.lit (.int .i64 c.node)), .pv (.lit (.int .i64 c.site)), .pv (.lit (.int .i64 c.epoch))])] }) rfl rfl rfl rfl trivial rfl ?_)
 refine rvP C (sS (some true) (eI .u8) []) ?_
 refine rvP C (.pv (.lit (.int .i64 0))) ?_
 refine rvc_nil ?_
 refine Awp.seq ?_
 refine Awp.consP C ?_
 refine rvP C (.agg [.pv (.lit (.int .i64 c.kind)), .pv (.lit (.int .i64 c.node)), .pv (.lit (.int .i64 c.site)), .pv (.lit (.int .i64 c.epoch))]) ?_
 refine rvc_un (rexec_call hP C rfl rfl rfl (cmdCheck_calls c) ?_)
 refine rvP C (.pv (.lit (.int .i64 (cmdCheck c)))) ?_
 refine rvc_nil ?_
 refine Awp.consP C ?_
 refine rvP C (.pv (.lit (.int .i64 (cmdCheck c)))) ?_
 refine rvP C (.pv (.lit (.bool ((cmdCheck c) != 0)))) ?_
 refine rvc_nil ?_
 refine Awp.cond (b := ((cmdCheck c) != 0)) rfl (fun h1 => ?_) (fun h1 => ?_)
 ·
  replace hR := of_true h1 hR
  refine Awp.consP C ?_
  refine rvP C (.pv (.lit (.int .i64 (cmdCheck c)))) ?_
  refine rvP C (sS (some true) (eI .u8) []) ?_
  refine rvP C (.pv (.lit (.int .i64 (cmdCheck c)))) ?_
  refine rvc_nil ?_
  refine Awp.ret ?_
  subst hR
  exact ⟨.inl rfl, rfl⟩
 ·
  replace hR := of_false h1 hR
  refine Awp.skip ?_
  refine Awp.consP C ?_
  refine rvP C (sS (some true) (eI .u8) []) ?_
  refine rvc_nil ?_
  refine Awp.seq ?_
  refine Awp.consP C ?_
  refine rvP C (.ptr 1 0) ?_
  refine rvP C (.pv (.lit (.int .i64 c.kind))) ?_
  refine rvP C (.ptr 1 1) ?_
  refine rvP C (.pv (.lit (.int .i64 c.node))) ?_
  refine rvP C (.ptr 1 2) ?_
  refine rvP C (.pv (.lit (.int .i64 c.site))) ?_
  refine rvP C (.ptr 1 3) ?_
  refine rvP C (.pv (.lit (.int .i64 c.epoch))) ?_
  refine rvc_un (rexec_buildSliceF C (eI .i64) [c.kind, c.node, c.site, c.epoch] rfl rfl rfl rfl rfl rfl rfl (by decide) rfl ?_)
  refine rvP C (.pv (.lit (.int .i64 4))) ?_
  refine rvP C (.pv (.lit (.int .i64 0))) ?_
  refine rvc_nil ?_
  refine Awp.block ?_
  refine Awp.rounds 5 ?_
  refine Arounds.succ ?_
  refine Awp.consP C ?_
  refine rvP C (.pv (.lit (.bool true))) ?_
  refine rvc_nil ?_
  refine Awp.seq ?_
  refine Awp.condT (b := true) rfl rfl ?_
  refine Awp.skip ?_
  refine Awp.seq ?_
  refine Awp.block ?_
  refine Awp.consP C ?_
  have h2 : [c.kind, c.node, c.site, c.epoch][0]? = some c.kind := rfl
  refine rvc_un (rexec_idxS C rfl rfl rfl rfl rfl rfl c.kind (Int.natCast_nonneg _) h2 ?_)
  refine rvP C (.pv (.lit (.int .i64 c.kind))) ?_
  refine rvP C (.pv (.lit (.int .i64 c.kind))) ?_
  refine rvc_nil ?_
  refine Awp.regionP C ?_
  refine rvP C (sS (some true) (eI .u8) []) ?_
  refine rvP C (.pv (.lit (.int .i64 c.kind))) ?_
  refine rvP C (.pv (.lit (.int .u64 (IntKind.u64.wrap c.kind)))) ?_
  refine rvc_un (rexec_buildSliceF C (eI .u64) [(IntKind.u64.wrap c.kind)] rfl rfl rfl rfl rfl rfl rfl (by decide) rfl ?_)
  refine rvc_un (rexec_call hP C rfl rfl rfl (wPut_calls (Sl.mk true []) (IntKind.u64.wrap c.kind) (wrap_lt64 _) (by simp)) ?_)
  refine rvP C (sS (some (wPut (Sl.mk true []) (IntKind.u64.wrap c.kind)).nil) (eI .u8) ((wPut (Sl.mk true []) (IntKind.u64.wrap c.kind)).D)) ?_
  refine rvc_nil ?_
  refine Awp.regionP C ?_
  refine rvP C (.pv (.lit (.int .i64 1))) ?_
  refine rvP C (.pv (.lit (.int .i64 1))) ?_
  refine rvc_nil ?_
  refine Arounds.succ ?_
  refine Awp.consP C ?_
  refine rvP C (.pv (.lit (.bool true))) ?_
  refine rvc_nil ?_
  refine Awp.seq ?_
  refine Awp.condT (b := true) rfl rfl ?_
  refine Awp.skip ?_
  refine Awp.seq ?_
  refine Awp.block ?_
  refine Awp.consP C ?_
  have h3 : [c.kind, c.node, c.site, c.epoch][1]? = some c.node := rfl
  refine rvc_un (rexec_idxS C rfl rfl rfl rfl rfl rfl c.node (Int.natCast_nonneg _) h3 ?_)
  refine rvP C (.pv (.lit (.int .i64 c.node))) ?_
  refine rvP C (.pv (.lit (.int .i64 c.node))) ?_
  refine rvc_nil ?_
  refine Awp.regionP C ?_
  refine rvP C (sS (some (wPut (Sl.mk true []) (IntKind.u64.wrap c.kind)).nil) (eI .u8) ((wPut (Sl.mk true []) (IntKind.u64.wrap c.kind)).D)) ?_
  refine rvP C (.pv (.lit (.int .i64 c.node))) ?_
  refine rvP C (.pv (.lit (.int .u64 (IntKind.u64.wrap c.node)))) ?_
  refine rvc_un (rexec_buildSliceF C (eI .u64) [(IntKind.u64.wrap c.node)] rfl rfl rfl rfl rfl rfl rfl (by decide) rfl ?_)
  refine rvc_un (rexec_call hP C rfl rfl rfl (wPut_calls (wPut (Sl.mk true []) (IntKind.u64.wrap c.kind)) (IntKind.u64.wrap c.node) (wrap_lt64 _) (by show ((wPut (Sl.mk true []) (IntKind.u64.wrap c.kind)).D).length ≤ 1000000; have := wPut_len (Sl.mk true []) (IntKind.u64.wrap c.kind) (wrap_lt64 _); (try dsimp only [List.length_nil] at this); have := eq_of_bne_false h1; omega)) ?_)
  refine rvP C (sS (some (wPut (wPut (Sl.mk true []) (IntKind.u64.wrap c.kind)) (IntKind.u64.wrap c.node)).nil) (eI .u8) ((wPut (wPut (Sl.mk true []) (IntKind.u64.wrap c.kind)) (IntKind.u64.wrap c.node)).D)) ?_
  refine rvc_nil ?_
  refine Awp.regionP C ?_
  refine rvP C (.pv (.lit (.int .i64 2))) ?_
  refine rvP C (.pv (.lit (.int .i64 2))) ?_
  refine rvc_nil ?_
  refine Arounds.succ ?_
  refine Awp.consP C ?_
  refine rvP C (.pv (.lit (.bool true))) ?_
  refine rvc_nil ?_
  refine Awp.seq ?_
  refine Awp.condT (b := true) rfl rfl ?_
  refine Awp.skip ?_
  refine Awp.seq ?_
  refine Awp.block ?_
  refine Awp.consP C ?_
  have h4 : [c.kind, c.node, c.site, c.epoch][2]? = some c.site := rfl
  refine rvc_un (rexec_idxS C rfl rfl rfl rfl rfl rfl c.site (Int.natCast_nonneg _) h4 ?_)
  refine rvP C (.pv (.lit (.int .i64 c.site))) ?_
  refine rvP C (.pv (.lit (.int .i64 c.site))) ?_
  refine rvc_nil ?_
  refine Awp.regionP C ?_
  refine rvP C (sS (some (wPut (wPut (Sl.mk true []) (IntKind.u64.wrap c.kind)) (IntKind.u64.wrap c.node)).nil) (eI .u8) ((wPut (wPut (Sl.mk true []) (IntKind.u64.wrap c.kind)) (IntKind.u64.wrap c.node)).D)) ?_
  refine rvP C (.pv (.lit (.int .i64 c.site))) ?_
  refine rvP C (.pv (.lit (.int .u64 (IntKind.u64.wrap c.site)))) ?_
  refine rvc_un (rexec_buildSliceF C (eI .u64) [(IntKind.u64.wrap c.site)] rfl rfl rfl rfl rfl rfl rfl (by decide) rfl ?_)
  refine rvc_un (rexec_call hP C rfl rfl rfl (wPut_calls (wPut (wPut (Sl.mk true []) (IntKind.u64.wrap c.kind)) (IntKind.u64.wrap c.node)) (IntKind.u64.wrap c.site) (wrap_lt64 _) (by show ((wPut (wPut (Sl.mk true []) (IntKind.u64.wrap c.kind)) (IntKind.u64.wrap c.node)).D).length ≤ 1000000; have := wPut_len (Sl.mk true []) (IntKind.u64.wrap c.kind) (wrap_lt64 _); (try dsimp only [List.length_nil] at this); have := wPut_len (wPut (Sl.mk true []) (IntKind.u64.wrap c.kind)) (IntKind.u64.wrap c.node) (wrap_lt64 _); (try dsimp only [List.length_nil] at this); have := eq_of_bne_false h1; omega)) ?_)
  refine rvP C (sS (some (wPut (wPut (wPut (Sl.mk true []) (IntKind.u64.wrap c.kind)) (IntKind.u64.wrap c.node)) (IntKind.u64.wrap c.site)).nil) (eI .u8) ((wPut (wPut (wPut (Sl.mk true []) (IntKind.u64.wrap c.kind)) (IntKind.u64.wrap c.node)) (IntKind.u64.wrap c.site)).D)) ?_
  refine rvc_nil ?_
  refine Awp.regionP C ?_
  refine rvP C (.pv (.lit (.int .i64 3))) ?_
  refine rvP C (.pv (.lit (.int .i64 3))) ?_
  refine rvc_nil ?_
  refine Arounds.succ ?_
  refine Awp.consP C ?_
  refine rvP C (.pv (.lit (.bool true))) ?_
  refine rvc_nil ?_
  refine Awp.seq ?_
  refine Awp.condT (b := true) rfl rfl ?_
  refine Awp.skip ?_
  refine Awp.seq ?_
  refine Awp.block ?_
  refine Awp.consP C ?_
  have h5 : [c.kind, c.node, c.site, c.epoch][3]? = some c.epoch := rfl
  refine rvc_un (rexec_idxS C rfl rfl rfl rfl rfl rfl c.epoch (Int.natCast_nonneg _) h5 ?_)
  refine rvP C (.pv (.lit (.int .i64 c.epoch))) ?_
  refine rvP C (.pv (.lit (.int .i64 c.epoch))) ?_
  refine rvc_nil ?_
  refine Awp.regionP C ?_
  refine rvP C (sS (some (wPut (wPut (wPut (Sl.mk true []) (IntKind.u64.wrap c.kind)) (IntKind.u64.wrap c.node)) (IntKind.u64.wrap c.site)).nil) (eI .u8) ((wPut (wPut (wPut (Sl.mk true []) (IntKind.u64.wrap c.kind)) (IntKind.u64.wrap c.node)) (IntKind.u64.wrap c.site)).D)) ?_
  refine rvP C (.pv (.lit (.int .i64 c.epoch))) ?_
  refine rvP C (.pv (.lit (.int .u64 (IntKind.u64.wrap c.epoch)))) ?_
  refine rvc_un (rexec_buildSliceF C (eI .u64) [(IntKind.u64.wrap c.epoch)] rfl rfl rfl rfl rfl rfl rfl (by decide) rfl ?_)
  refine rvc_un (rexec_call hP C rfl rfl rfl (wPut_calls (wPut (wPut (wPut (Sl.mk true []) (IntKind.u64.wrap c.kind)) (IntKind.u64.wrap c.node)) (IntKind.u64.wrap c.site)) (IntKind.u64.wrap c.epoch) (wrap_lt64 _) (by show ((wPut (wPut (wPut (Sl.mk true []) (IntKind.u64.wrap c.kind)) (IntKind.u64.wrap c.node)) (IntKind.u64.wrap c.site)).D).length ≤ 1000000; have := wPut_len (Sl.mk true []) (IntKind.u64.wrap c.kind) (wrap_lt64 _); (try dsimp only [List.length_nil] at this); have := wPut_len (wPut (Sl.mk true []) (IntKind.u64.wrap c.kind)) (IntKind.u64.wrap c.node) (wrap_lt64 _); (try dsimp only [List.length_nil] at this); have := wPut_len (wPut (wPut (Sl.mk true []) (IntKind.u64.wrap c.kind)) (IntKind.u64.wrap c.node)) (IntKind.u64.wrap c.site) (wrap_lt64 _); (try dsimp only [List.length_nil] at this); have := eq_of_bne_false h1; omega)) ?_)
  refine rvP C (sS (some (wPut (wPut (wPut (wPut (Sl.mk true []) (IntKind.u64.wrap c.kind)) (IntKind.u64.wrap c.node)) (IntKind.u64.wrap c.site)) (IntKind.u64.wrap c.epoch)).nil) (eI .u8) ((wPut (wPut (wPut (wPut (Sl.mk true []) (IntKind.u64.wrap c.kind)) (IntKind.u64.wrap c.node)) (IntKind.u64.wrap c.site)) (IntKind.u64.wrap c.epoch)).D)) ?_
  refine rvc_nil ?_
  refine Awp.regionP C ?_
  refine rvP C (.pv (.lit (.int .i64 4))) ?_
  refine rvP C (.pv (.lit (.int .i64 4))) ?_
  refine rvc_nil ?_
  refine Arounds.succ ?_
  refine Awp.consP C ?_
  refine rvP C (.pv (.lit (.bool false))) ?_
  refine rvc_nil ?_
  refine Awp.seq ?_
  refine Awp.condF (b := false) rfl rfl ?_
  refine Awp.exit ?_
  refine Awp.consP C ?_
  refine rvP C (sS (some (wPut (wPut (wPut (wPut (Sl.mk true []) (IntKind.u64.wrap c.kind)) (IntKind.u64.wrap c.node)) (IntKind.u64.wrap c.site)) (IntKind.u64.wrap c.epoch)).nil) (eI .u8) ((wPut (wPut (wPut (wPut (Sl.mk true []) (IntKind.u64.wrap c.kind)) (IntKind.u64.wrap c.node)) (IntKind.u64.wrap c.site)) (IntKind.u64.wrap c.epoch)).D)) ?_
  refine rvP C (sS (some (wPut (wPut (wPut (wPut (Sl.mk true []) (IntKind.u64.wrap c.kind)) (IntKind.u64.wrap c.node)) (IntKind.u64.wrap c.site)) (IntKind.u64.wrap c.epoch)).nil) (eI .u8) ((wPut (wPut (wPut (wPut (Sl.mk true []) (IntKind.u64.wrap c.kind)) (IntKind.u64.wrap c.node)) (IntKind.u64.wrap c.site)) (IntKind.u64.wrap c.epoch)).D)) ?_
  refine rvP C (.pv (.lit (.int .i64 0))) ?_
  refine rvc_nil ?_
  refine Awp.ret ?_
  subst hR
  exact ⟨.inl rfl, rfl⟩
def rCmdPut (c : Command) : (Sl Int) × Int :=
  (bif ((rCmdCheck c) != 0) then ((Sl.mk true []), (rCmdCheck c)) else ((rPut (Sl.mk true []) (Sl.mk false [(IntKind.u64.wrap c.kind), (IntKind.u64.wrap c.node), (IntKind.u64.wrap c.site), (IntKind.u64.wrap c.epoch)])), 0))
theorem rCmdPut_calls (c : Command)  : PCalls Try.prog 21 [.agg [.pv (.lit (.int .i64 c.kind)), .pv (.lit (.int .i64 c.node)), .pv (.lit (.int .i64 c.site)), .pv (.lit (.int .i64 c.epoch))]] (.tup [sS (some (rCmdPut c).1.nil) (eI .u8) ((rCmdPut c).1.D), .pv (.lit (.int .i64 ((rCmdPut c).2)))]) := by
 generalize hR : rCmdPut c = R
 refine PCalls.of_body tabOk Try.func21 rfl rfl rfl rfl rfl mixed fun E hP C hI => ?_
 refine Awp.consP C ?_
 refine rvc_un (rexec_prim C (δ := { v := .ptr 1 0, new := [(1, .cells [.pv (.lit (.int .i64 c.kind)), .pv (.lit (.int .i64 c.node)), .pv (.lit (.int .i64 c.site)), .pv (.lit (.int .i64 c.epoch))])] }) rfl rfl rfl rfl trivial rfl ?_)
 refine rvP C (sS (some true) (eI .u8) []) ?_
 refine rvP C (.pv (.lit (.int .i64 0))) ?_
 refine rvc_nil ?_
 refine Awp.seq ?_
 refine Awp.consP C ?_
 refine rvP C (.agg [.pv (.lit (.int .i64 c.kind)), .pv (.lit (.int .i64 c.node)), .pv (.lit (.int .i64 c.site)), .pv (.lit (.int .i64 c.epoch))]) ?_
 refine rvc_un (rexec_call hP C rfl rfl rfl (rCmdCheck_calls c) ?_)
 refine rvP C (.pv (.lit (.int .i64 (rCmdCheck c)))) ?_
 refine rvc_nil ?_
 refine Awp.consP C ?_
 refine rvP C (.pv (.lit (.int .i64 (rCmdCheck c)))) ?_
 refine rvP C (.pv (.lit (.bool ((rCmdCheck c) != 0)))) ?_
 refine rvc_nil ?_
 refine Awp.cond (b := ((rCmdCheck c) != 0)) rfl (fun h1 => ?_) (fun h1 => ?_)
 ·
  replace hR := of_true h1 hR
  refine Awp.consP C ?_
  refine rvP C (.pv (.lit (.int .i64 (rCmdCheck c)))) ?_
  refine rvP C (sS (some true) (eI .u8) []) ?_
  refine rvP C (.pv (.lit (.int .i64 (rCmdCheck c)))) ?_
  refine rvc_nil ?_
  refine Awp.ret ?_
  subst hR
  exact ⟨.inl rfl, rfl⟩
 ·
  replace hR := of_false h1 hR
  refine Awp.skip ?_
  refine Awp.consP C ?_
  refine rvP C (.ptr 1 0) ?_
  refine rvP C (.pv (.lit (.int .i64 c.kind))) ?_
  refine rvP C (.pv (.lit (.int .u64 (IntKind.u64.wrap c.kind)))) ?_
  refine rvP C (.ptr 1 1) ?_
  refine rvP C (.pv (.lit (.int .i64 c.node))) ?_
  refine rvP C (.pv (.lit (.int .u64 (IntKind.u64.wrap c.node)))) ?_
  refine rvP C (.ptr 1 2) ?_
  refine rvP C (.pv (.lit (.int .i64 c.site))) ?_
  refine rvP C (.pv (.lit (.int .u64 (IntKind.u64.wrap c.site)))) ?_
  refine rvP C (.ptr 1 3) ?_
  refine rvP C (.pv (.lit (.int .i64 c.epoch))) ?_
  refine rvP C (.pv (.lit (.int .u64 (IntKind.u64.wrap c.epoch)))) ?_
  refine rvc_un (rexec_buildSliceF C (eI .u64) [(IntKind.u64.wrap c.kind), (IntKind.u64.wrap c.node), (IntKind.u64.wrap c.site), (IntKind.u64.wrap c.epoch)] rfl rfl rfl rfl rfl rfl rfl (by decide) rfl ?_)
  refine rvc_un (rexec_call hP C rfl rfl rfl (rPut_calls (Sl.mk true []) (Sl.mk false [(IntKind.u64.wrap c.kind), (IntKind.u64.wrap c.node), (IntKind.u64.wrap c.site), (IntKind.u64.wrap c.epoch)]) (by simp) (by simp)) ?_)
  refine rvP C (sS (some (rPut (Sl.mk true []) (Sl.mk false [(IntKind.u64.wrap c.kind), (IntKind.u64.wrap c.node), (IntKind.u64.wrap c.site), (IntKind.u64.wrap c.epoch)])).nil) (eI .u8) ((rPut (Sl.mk true []) (Sl.mk false [(IntKind.u64.wrap c.kind), (IntKind.u64.wrap c.node), (IntKind.u64.wrap c.site), (IntKind.u64.wrap c.epoch)])).D)) ?_
  refine rvP C (.pv (.lit (.int .i64 0))) ?_
  refine rvc_nil ?_
  refine Awp.ret ?_
  subst hR
  exact ⟨.inl rfl, rfl⟩
def cmdGet (b : (Sl Int)) : Command × Int :=
  (bif ((rdEnd (rdIn (rdIn (rdIn (rdIn (rdNew b) 0 99).1 0 6).1 0 3).1 0 1099511627776).1) != 0) then ((Command.mk 0 0 0 0), 120) else (bif ((cmdCheck (Command.mk (rdIn (rdNew b) 0 99).2 (rdIn (rdIn (rdNew b) 0 99).1 0 6).2 (rdIn (rdIn (rdIn (rdNew b) 0 99).1 0 6).1 0 3).2 (rdIn (rdIn (rdIn (rdIn (rdNew b) 0 99).1 0 6).1 0 3).1 0 1099511627776).2)) != 0) then ((Command.mk 0 0 0 0), 120) else ((Command.mk (rdIn (rdNew b) 0 99).2 (rdIn (rdIn (rdNew b) 0 99).1 0 6).2 (rdIn (rdIn (rdIn (rdNew b) 0 99).1 0 6).1 0 3).2 (rdIn (rdIn (rdIn (rdIn (rdNew b) 0 99).1 0 6).1 0 3).1 0 1099511627776).2), 0)))
theorem cmdGet_calls (b : (Sl Int)) (hl1 : b.D.length ≤ 1000000) : PCalls Try.prog 22 [sS (some b.nil) (eI .u8) b.D] (.tup [.agg [.pv (.lit (.int .i64 ((cmdGet b).1.kind))), .pv (.lit (.int .i64 ((cmdGet b).1.node))), .pv (.lit (.int .i64 ((cmdGet b).1.site))), .pv (.lit (.int .i64 ((cmdGet b).1.epoch)))], .pv (.lit (.int .i64 ((cmdGet b).2)))]) := by
 generalize hR : cmdGet b = R
 refine PCalls.of_body tabOk Try.func22 rfl rfl rfl rfl rfl mixed fun E hP C hI => ?_
 refine Awp.consP C ?_
 refine rvc_un (rexec_prim C (δ := { v := .ptr 2 0, new := [(2, .cells [.pv (.lit (.int .i64 0)), .pv (.lit (.int .i64 0)), .pv (.lit (.int .i64 0)), .pv (.lit (.int .i64 0))])] }) rfl rfl rfl rfl trivial rfl ?_)
 refine rvP C (.pv (.lit (.int .i64 0))) ?_
 refine rvc_nil ?_
 refine Awp.cons C (fun _ => .quiet) (by kernel_rfl) ?_
 refine rvP C (sS (some b.nil) (eI .u8) b.D) ?_
 refine rvc_un (rexec_callO hP C rfl rfl rfl rfl (rdNew_calls b hl1) ?_)
 refine rvP C (.ptr 7 0) ?_
 refine rvc_nil ?_
 refine Awp.cons C (fun _ => .writer) (by kernel_rfl) ?_
 refine rvP C (.ptr 7 0) ?_
 obtain ⟨q1, hq_q1⟩ : ∃ q_, q_ = (rdIn (rdNew b) 0 99) := ⟨_, rfl⟩
 have hc_q1 := (rdIn_calls (rdNew b) 0 99 (rdNew_ok b hl1))
 first | rw [← hq_q1] at hR hc_q1 | (unfold cmdGet at hR; rw [← hq_q1] at hR hc_q1)
 have hf0_q1 := rdIn_ok (rdNew b) 0 99 (rdNew_ok b hl1)
 rw [← hq_q1] at hf0_q1
 refine rvc_un (rexec_callM hP C (b := 7) rfl rfl rfl hc_q1 rfl rfl ?_)
 refine rvP C (.ptr 7 0) ?_
 obtain ⟨q2, hq_q2⟩ : ∃ q_, q_ = (rdIn q1.1 0 6) := ⟨_, rfl⟩
 have hc_q2 := (rdIn_calls q1.1 0 6 hf0_q1)
 first | rw [← hq_q2] at hR hc_q2 | (unfold cmdGet at hR; rw [← hq_q2] at hR hc_q2)
 have hf0_q2 := rdIn_ok q1.1 0 6 hf0_q1
 rw [← hq_q2] at hf0_q2
 refine rvc_un (rexec_callM hP C (b := 7) rfl rfl rfl hc_q2 rfl rfl ?_)
 refine rvP C (.ptr 7 0) ?_
 obtain ⟨q3, hq_q3⟩ : ∃ q_, q_ = (rdIn q2.1 0 3) := ⟨_, rfl⟩
 have hc_q3 := (rdIn_calls q2.1 0 3 hf0_q2)
 first | rw [← hq_q3] at hR hc_q3 | (unfold cmdGet at hR; rw [← hq_q3] at hR hc_q3)
 have hf0_q3 := rdIn_ok q2.1 0 3 hf0_q2
 rw [← hq_q3] at hf0_q3
 refine rvc_un (rexec_callM hP C (b := 7) rfl rfl rfl hc_q3 rfl rfl ?_)
 refine rvP C (.ptr 7 0) ?_
 obtain ⟨q4, hq_q4⟩ : ∃ q_, q_ = (rdIn q3.1 0 1099511627776) := ⟨_, rfl⟩
 have hc_q4 := (rdIn_calls q3.1 0 1099511627776 hf0_q3)
 first | rw [← hq_q4] at hR hc_q4 | (unfold cmdGet at hR; rw [← hq_q4] at hR hc_q4)
 have hf0_q4 := rdIn_ok q3.1 0 1099511627776 hf0_q3
 rw [← hq_q4] at hf0_q4
 refine rvc_un (rexec_callM hP C (b := 7) rfl rfl rfl hc_q4 rfl rfl ?_)
 refine rvP C (.agg [.pv (.lit (.int .i64 q1.2)), .pv (.lit (.int .i64 q2.2)), .pv (.lit (.int .i64 q3.2)), .pv (.lit (.int .i64 q4.2))]) ?_
 refine rvc_un (rexec_prim C (δ := { v := .ptr 5 0, new := [(5, .cells [.pv (.lit (.int .i64 0)), .pv (.lit (.int .i64 0)), .pv (.lit (.int .i64 0)), .pv (.lit (.int .i64 0))])] }) rfl rfl rfl rfl trivial rfl ?_)
 refine rvc_un (rexec_prim C (δ := { v := .undef, wr := [(5, some (.cells [.pv (.lit (.int .i64 q1.2)), .pv (.lit (.int .i64 q2.2)), .pv (.lit (.int .i64 q3.2)), .pv (.lit (.int .i64 q4.2))]))] }) rfl rfl rfl rfl trivial rfl ?_)
 refine rvc_nil ?_
 refine Awp.seq ?_
 refine Awp.cons C (fun _ => .writer) (by kernel_rfl) ?_
 refine rvP C (.ptr 7 0) ?_
 refine rvc_un (rexec_callM hP C (b := 7) rfl rfl rfl (rdEnd_calls q4.1) rfl rfl ?_)
 refine rvP C (.pv (.lit (.bool ((rdEnd q4.1) != 0)))) ?_
 refine rvP C (.pv (.lit (.bool ((rdEnd q4.1) != 0)))) ?_
 refine rvc_case 20 ((rdEnd q4.1) != 0) rfl (fun h1 => ?_) (fun h1 => ?_)
 ·
  replace hR := of_true h1 hR
  refine rvS ?_
  refine rvS ?_
  refine rvS ?_
  refine rvP C (.pv (.lit (.bool true))) ?_
  refine rvc_nil ?_
  refine Awp.condT (b := true) rfl rfl ?_
  refine Awp.consP C ?_
  refine rvP C (.agg [.pv (.lit (.int .i64 0)), .pv (.lit (.int .i64 0)), .pv (.lit (.int .i64 0)), .pv (.lit (.int .i64 0))]) ?_
  refine rvc_un (rexec_prim C (δ := { v := .undef, wr := [(2, some (.cells [.pv (.lit (.int .i64 0)), .pv (.lit (.int .i64 0)), .pv (.lit (.int .i64 0)), .pv (.lit (.int .i64 0))]))] }) rfl rfl rfl rfl trivial rfl ?_)
  refine rvP C (.pv (.lit (.int .i64 120))) ?_
  refine rvc_nil ?_
  refine Awp.ret ?_
  subst hR
  exact ⟨.inl rfl, rfl⟩
 ·
  replace hR := of_false h1 hR
  refine rvO C (.agg [.pv (.lit (.int .i64 q1.2)), .pv (.lit (.int .i64 q2.2)), .pv (.lit (.int .i64 q3.2)), .pv (.lit (.int .i64 q4.2))]) ?_
  refine rvc_open rfl rfl rfl (rexec_call hP C rfl rfl rfl (cmdCheck_calls (Command.mk q1.2 q2.2 q3.2 q4.2)) ?_)
  refine rvO C (.pv (.lit (.bool ((cmdCheck (Command.mk q1.2 q2.2 q3.2 q4.2)) != 0)))) ?_
  refine rvP C (.pv (.lit (.bool ((cmdCheck (Command.mk q1.2 q2.2 q3.2 q4.2)) != 0)))) ?_
  refine rvc_nil ?_
  refine Awp.cond (b := ((cmdCheck (Command.mk q1.2 q2.2 q3.2 q4.2)) != 0)) rfl (fun h2 => ?_) (fun h2 => ?_)
  ·
   replace hR := of_true h2 hR
   refine Awp.consP C ?_
   refine rvP C (.agg [.pv (.lit (.int .i64 0)), .pv (.lit (.int .i64 0)), .pv (.lit (.int .i64 0)), .pv (.lit (.int .i64 0))]) ?_
   refine rvc_un (rexec_prim C (δ := { v := .undef, wr := [(2, some (.cells [.pv (.lit (.int .i64 0)), .pv (.lit (.int .i64 0)), .pv (.lit (.int .i64 0)), .pv (.lit (.int .i64 0))]))] }) rfl rfl rfl rfl trivial rfl ?_)
   refine rvP C (.pv (.lit (.int .i64 120))) ?_
   refine rvc_nil ?_
   refine Awp.ret ?_
   subst hR
   exact ⟨.inl rfl, rfl⟩
  ·
   replace hR := of_false h2 hR
   refine Awp.skip ?_
   refine Awp.consP C ?_
   refine rvP C (.agg [.pv (.lit (.int .i64 q1.2)), .pv (.lit (.int .i64 q2.2)), .pv (.lit (.int .i64 q3.2)), .pv (.lit (.int .i64 q4.2))]) ?_
   refine rvc_un (rexec_prim C (δ := { v := .undef, wr := [(2, some (.cells [.pv (.lit (.int .i64 q1.2)), .pv (.lit (.int .i64 q2.2)), .pv (.lit (.int .i64 q3.2)), .pv (.lit (.int .i64 q4.2))]))] }) rfl rfl rfl rfl trivial rfl ?_)
   refine rvP C (.pv (.lit (.int .i64 0))) ?_
   refine rvc_nil ?_
   refine Awp.ret ?_
   subst hR
   exact ⟨.inl rfl, rfl⟩
end Go.Proofs.Ytpgenmflgdkfiaa
