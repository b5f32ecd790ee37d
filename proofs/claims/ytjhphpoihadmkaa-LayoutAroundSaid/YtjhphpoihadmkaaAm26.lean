/- An abstract machine over the kit's calls, part 26: rows of one's own told by lists: made, read, written; slices cut. No conditions. -/
import Derived.Test.YtjhphpoihadmkaaAm25
namespace Go.Am
section steps
variable {E : Env} {T : Tab} {cq : Oper → Cls} {n : Nat} {ops : Array Oper}

/-- An operation whose outcome is told in other words. -/
theorem rexec_primv (C : Cx E T n) {d : Option Nat} {op : Op} {ty : TypeId} {pos : String} {af : Array Edge} {g : Option (Nat × Bool)} {st : St} {K : St → Prop} {xs : List Operand} {vs : List AV} {p : Prop} {hs : List (Nat × Blk)} {δ : Delta} (δ' : Delta) (h1 : dstB n ⟨d, op, ty, pos, af, g⟩ = true)
    (hx : op.operands.toList = xs) (h2 : evls st.S xs = some vs) (h4 : prim T ⟨d, op, ty, pos, af, g⟩ vs st.H = some (p, hs, δ)) (h5 : p) (hv : δ = δ') (h6 : freshB st.U δ' = true) (h7 : K (st.after d δ')) (h8 : footB (clsOf cq ⟨d, op, ty, pos, af, g⟩) hs δ' = true := by rfl) :
    rexec E cq n ⟨d, op, ty, pos, af, g⟩ st K := by
  subst hv
  exact rexec_prim C h1 hx h2 h4 h5 h6 h7 h8

/-- A literal row that will not change. -/
theorem rexec_buildSliceF (C : Cx E T n) {d : Option Nat} {t : TypeId} {l : Nat} {parts : Array (Nat × Operand)} {ty : TypeId} {pos : String} {af : Array Edge} {g : Option (Nat × Bool)} {st : St} {K : St → Prop} {r re : TyRow} {te : TypeId} {us : List AV} {α : Type} (e : Enc α) (D : List α) (h1 : dstB n ⟨d, .buildSlice t l parts, ty, pos, af, g⟩ = true)
    (h2 : evls st.S (parts.toList.map (·.2)) = some us) (hr : T.lookup t = some r) (hdesc : r.desc = .slice te) (hre : T.lookup te = some re) (hl : l = D.length) (hs : re.size = e.sz) (hbig : l * re.size ≤ 16777216) (hz : fillAV (fun i => some (i * re.size, re.size)) (zeroAV re.zero.cells (l * re.size)) (parts.toList.zipWith (fun p u => (p.1, u)) us) = some (encC e D))
    (h7 : K (st.after d { v := sS (some false) e D })) : rexec E cq n ⟨d, .buildSlice t l parts, ty, pos, af, g⟩ st K := by
  have hd : ∀ x, d = some x → x < E.n := fun x e => by
    simp only [dstB, e, decide_eq_true_eq] at h1
    exact C.n ▸ h1
  have hlen : (encL e D).length = l * re.size := by rw [encL_len, hl, hs]
  have hm := makes_buildSlice C.tab (E := E) (o := ⟨d, .buildSlice t l parts, ty, pos, af, g⟩) (n := l) (parts := parts) rfl hr hdesc hre hbig hz (by rw [encC_len, hl, hs])
  have hD : sS (some false) e D = .pv (.sl (some false) l (encL e D)) := by rw [hl]; rfl
  rw [hD] at h7
  refine ⟨h1, _, _, _, Move.of_frozen (hm.frozen hd) ?_ _, h7⟩
  simpa [Op.operands] using h2

/-- A row of zeros is a list of the zero value. -/
theorem zeroAV_rep {α : Type} {z : Array Value} {e : Enc α} {a : α} (hs : z.size = e.sz) (hz : z.toList.map constCell = (e.enc a).map .pv) : ∀ (m : Nat), zeroAV z (m * e.sz) = encC e (List.replicate m a)
  | 0 => by simp [zeroAV, encC, encL]
  | m + 1 => by
    have ih := zeroAV_rep hs hz m
    have h1 : zeroAV z ((m + 1) * e.sz) = zeroAV z (m * e.sz) ++ z.toList.map constCell := by
      simp only [zeroAV]
      rw [Nat.add_mul, Nat.one_mul, List.range_add, List.map_append]
      congr 1
      rw [List.map_map]
      apply List.ext_getElem
      · simp [hs]
      · intro i h1 h2
        simp only [List.length_map, List.length_range] at h1
        have hlt : i < z.size := by omega
        have hmod : (m * e.sz + i) % z.size = i := by rw [hs, Nat.mul_comm, Nat.mul_add_mod, Nat.mod_eq_of_lt (by omega)]
        simp only [List.getElem_map, List.getElem_range, Function.comp, hmod, Array.getElem_toList]
        rw [getElem!_pos z i hlt]
    rw [h1, ih, hz, List.replicate_succ', encC_append]
    simp [encC, encL]

/-- A row of zeros. -/
theorem rexec_makeSlice (C : Cx E T n) {d : Nat} {t : TypeId} {x y : Operand} {ty : TypeId} {pos : String} {af : Array Edge} {g : Option (Nat × Bool)} {st : St} {K : St → Prop} {k k' : IntKind} {len : Int} {r re : TyRow} {te : TypeId} {α : Type} (e : Enc α) (a : α) (m : Nat) (h1 : dstB n ⟨some d, .makeSlice t x y, ty, pos, af, g⟩ = true)
    (h2 : evls st.S [x, y] = some [.pv (.lit (.int k len)), .pv (.lit (.int k' len))]) (hr : T.lookup t = some r) (hdesc : r.desc = .slice te) (hre : T.lookup te = some re) (hm : len.toNat = m) (hb : 0 ≤ len ∧ len ≤ 140737488355328 ∧ re.bytes * len ≤ 140737488355328) (hs : re.size = e.sz) (hzs : re.zero.cells.size = e.sz) (hz : re.zero.cells.toList.map constCell = (e.enc a).map .pv) (h6 : st.U d = false)
    (h7 : K (st.after (some d) { v := .sl d 0 m e.sz true, new := [(d, .cells (encC e (List.replicate m a)))] })) (h8 : footB (clsOf cq ⟨some d, .makeSlice t x y, ty, pos, af, g⟩) [] { v := .sl d 0 m e.sz true, new := [(d, .cells (encC e (List.replicate m a)))] } = true := by rfl) : rexec E cq n ⟨some d, .makeSlice t x y, ty, pos, af, g⟩ st K := by
  refine rexec_primv C (p := 0 ≤ len ∧ len ≤ len ∧ len ≤ 140737488355328 ∧ re.bytes * len ≤ 140737488355328) (hs := []) (δ := { v := .sl d 0 len.toNat re.size (decide (len = len)), new := [(d, .cells (zeroAV re.zero.cells (len.toNat * re.size)))] }) _ h1 rfl h2 ?_ ⟨hb.1, Int.le_refl _, hb.2⟩ ?_ ?_ h7 h8
  · simp only [prim, primMakeSlice, hr, hdesc, hre]
  · rw [hm, hs, zeroAV_rep hzs hz]; simp
  · simp [freshB, h6]

theorem encC_dropAt {α : Type} {e : Enc α} {D : List α} {i off : Nat} {a : α} (ha : D[i]? = some a) (ho : off ≤ e.sz) : (encC e D).drop (i * e.sz + off) = ((e.enc a).map .pv).drop off ++ encC e (D.drop (i + 1)) := by
  have h1 : (encC e D).drop (i * e.sz) = (e.enc a).map .pv ++ encC e (D.drop (i + 1)) := by
    simp only [encC, ← List.map_drop]
    rw [encL_drop, drop_at ha]
    simp [encL]
  rw [← List.drop_drop, h1, List.drop_append_of_le_length (by simp [e.len, ho])]

/-- An element, or a part of one, out of a row of one's own. -/
theorem rexec_loadE (C : Cx E T n) {d : Option Nat} {t : TypeId} {x : Operand} {ty : TypeId} {pos : String} {af : Array Edge} {g : Option (Nat × Bool)} {st : St} {K : St → Prop} {b k : Nat} {r : TyRow} {α : Type} {e : Enc α} {D : List α} (i off : Nat) (a : α) (v : AV) (h1 : dstB n ⟨d, .load t x, ty, pos, af, g⟩ = true)
    (h2 : evl st.S x = some (.ptr b k)) (h3 : st.H b = some (.cells (encC e D))) (hr : T.lookup t = some r) (ha : D[i]? = some a) (hk : k = i * e.sz + off) (ho : off + r.size ≤ e.sz) (hz : 0 < r.size) (hv : readAV r (((e.enc a).map .pv).drop off) = some v)
    (h7 : K (st.after d { v := v })) (h8 : footB (clsOf cq ⟨d, .load t x, ty, pos, af, g⟩) [(b, .cells (encC e D))] { v := v } = true := by rfl) : rexec E cq n ⟨d, .load t x, ty, pos, af, g⟩ st K := by
  subst hk
  refine rexec_prim C (p := True) (hs := [(b, .cells (encC e D))]) (δ := { v := v }) h1 rfl (vs := [.ptr b (i * e.sz + off)]) (by show evls st.S [x] = _; simp only [evls, h2]) ?_ trivial rfl h7 h8
  have hl : (((e.enc a).map AV.pv).drop off).length = e.sz - off := by simp [e.len]
  have : readAV r ((encC e D).drop (i * e.sz + off)) = some v := by
    rw [encC_dropAt ha (by omega), ← hv]
    unfold readAV
    split
    · rw [if_pos (by rw [List.length_append, hl]; omega), if_pos (by rw [hl]; omega), List.take_append_of_le_length (by rw [hl]; omega)]
    · cases hq : ((e.enc a).map AV.pv).drop off with
      | nil => rw [hq] at hl; simp at hl; omega
      | cons y ys => rfl
  simp only [prim, primLoad, hr, h3, this]

theorem setRange_mid {xs ys zs new : List AV} {o : Nat} (h : o + new.length ≤ ys.length) : setRange (xs ++ ys ++ zs) (xs.length + o) new = xs ++ setRange ys o new ++ zs := by
  simp only [setRange]
  rw [List.append_assoc xs ys zs, List.take_length_add_append, List.take_append_of_le_length (by omega), show xs.length + o + new.length = xs.length + (o + new.length) by omega, List.drop_length_add_append, List.drop_append_of_le_length (by omega)]
  simp

/-- A store into an element of a row of one's own. -/
theorem rexec_storeE (C : Cx E T n) {t : TypeId} {x y : Operand} {ty : TypeId} {pos : String} {af : Array Edge} {g : Option (Nat × Bool)} {st : St} {K : St → Prop} {b k : Nat} {r : TyRow} {u : AV} {xs : List AV} {α : Type} {e : Enc α} {D : List α} (i off : Nat) (a a' : α) (h1 : dstB n ⟨none, .store t x y, ty, pos, af, g⟩ = true)
    (h2 : evls st.S [x, y] = some [.ptr b k, u]) (h3 : st.H b = some (.cells (encC e D))) (hr : T.lookup t = some r) (ha : D[i]? = some a) (hk : k = i * e.sz + off) (hu : cellsOf u = some xs) (hxs : xs.length = r.size) (hfl : xs.all flatCell = true) (ho : off + xs.length ≤ e.sz) (hset : setRange ((e.enc a).map .pv) off xs = (e.enc a').map .pv)
    (h7 : K (st.after none { v := .undef, wr := [(b, some (.cells (encC e (D.set i a'))))] })) (h8 : footB (clsOf cq ⟨none, .store t x y, ty, pos, af, g⟩) [(b, .cells (encC e D))] { v := .undef, wr := [(b, some (.cells (encC e (D.set i a'))))] } = true := by rfl) : rexec E cq n ⟨none, .store t x y, ty, pos, af, g⟩ st K := by
  subst hk
  have hi : i < D.length := by
    rcases Nat.lt_or_ge i D.length with h' | h'
    · exact h'
    · rw [List.getElem?_eq_none h'] at ha; cases ha
  have hle : i * e.sz + e.sz ≤ (encC e D).length := by
    rw [encC_len]
    have : (i + 1) * e.sz ≤ D.length * e.sz := Nat.mul_le_mul_right _ hi
    rw [Nat.add_mul] at this
    omega
  have hcut : setRange (encC e D) (i * e.sz + off) xs = encC e (D.set i a') := by
    have e1 : encC e D = encC e (D.take i) ++ (e.enc a).map .pv ++ encC e (D.drop (i + 1)) := by
      have : (e.enc a).map AV.pv = encC e [a] := by simp [encC, encL]
      rw [this, ← encC_append, ← encC_append]
      congr 1
      rw [List.append_assoc, List.singleton_append, ← drop_at ha, List.take_append_drop]
    have l1 : (encC e (D.take i)).length = i * e.sz := by rw [encC_len, List.length_take, Nat.min_eq_left (by omega)]
    rw [e1, ← l1, setRange_mid (by simp [e.len]; omega), hset]
    have : (e.enc a').map AV.pv = encC e [a'] := by simp [encC, encL]
    rw [this, ← encC_append, ← encC_append, List.set_eq_take_append_cons_drop, if_pos hi]
    simp
  refine rexec_primv C (p := True) (hs := [(b, .cells (encC e D))]) (δ := { v := .undef, wr := [(b, some (.cells (setRange (encC e D) (i * e.sz + off) xs)))] }) _ h1 rfl h2 ?_ trivial (by rw [hcut]) rfl h7 h8
  simp only [prim, primStore, hr, h3, hu]
  rw [if_pos ⟨hxs, by omega, hfl⟩]

/-- A slice that does not change, cut. -/
theorem rexec_sliceS (C : Cx E T n) {d : Option Nat} {t : TypeId} {x : Operand} {lo hi : Option Operand} {ty : TypeId} {pos : String} {af : Array Edge} {g : Option (Nat × Bool)} {st : St} {K : St → Prop} {r re : TyRow} {te : TypeId} {α : Type} {e : Enc α} {D : List α} {f : Option Bool} (l h : Nat) {vs : List AV} {li hi' : Option Int} {v1 v2 : List AV} (h1 : dstB n ⟨d, .slice t x lo hi none, ty, pos, af, g⟩ = true)
    (h2 : evls st.S (Op.operands (.slice t x lo hi none)).toList = some (sS f e D :: vs)) (hr : T.lookup t = some r) (hdesc : r.desc = .slice te) (hre : T.lookup te = some re) (hs : re.size = e.sz) (hlo : optI vs lo = some (li, v1)) (hhi : optI v1 hi = some (hi', v2)) (hl0 : li.getD 0 = (l : Int)) (hh0 : hi'.getD (D.length : Int) = (h : Int)) (hlh : l ≤ h) (hhn : h ≤ D.length) (D' : List α) (hD : (D.drop l).take (h - l) = D')
    (h7 : K (st.after d { v := sS f e D' })) (h8 : footB (clsOf cq ⟨d, .slice t x lo hi none, ty, pos, af, g⟩) [] { v := sS f e D' } = true := by rfl) : rexec E cq n ⟨d, .slice t x lo hi none, ty, pos, af, g⟩ st K := by
  subst hD
  have key : sS f e ((D.drop l).take (h - l)) = .pv (.sl f (h - l) (((encL e D).drop (l * e.sz)).take ((h - l) * e.sz))) := by
    rw [encL_drop, encL_take]
    simp only [sS, List.length_take, List.length_drop]
    rw [Nat.min_eq_left (by omega)]
  rw [key] at h7 h8
  have hmx : optI v2 none = some (none, v2) := by cases v2 <;> rfl
  cases hi' with
  | some hv =>
    simp only [Option.getD_some] at hh0
    subst hh0
    refine rexec_prim C (p := 0 ≤ li.getD 0 ∧ li.getD 0 ≤ (h : Int) ∧ (h : Int) ≤ (D.length : Int)) (hs := []) (δ := { v := .pv (.sl f (h - l) (((encL e D).drop (l * e.sz)).take ((h - l) * e.sz))) }) h1 rfl h2 ?_ (by rw [hl0]; omega) rfl h7 h8
    simp only [prim, primSlice, hr, hlo, hhi, hmx, sliceAV, hdesc, hre, sS, cutOf, hs, hl0, Int.toNat_natCast]
  | none =>
    simp only [Option.getD_none] at hh0
    have hh1 : h = D.length := by omega
    subst hh1
    refine rexec_prim C (p := 0 ≤ li.getD 0 ∧ li.getD 0 ≤ (D.length : Int)) (hs := []) (δ := { v := .pv (.sl f (D.length - l) (((encL e D).drop (l * e.sz)).take ((D.length - l) * e.sz))) }) h1 rfl h2 ?_ (by rw [hl0]; omega) rfl h7 h8
    simp only [prim, primSlice, hr, hlo, hhi, hmx, sliceAV, hdesc, hre, sS, cutOf, hs, hl0, Int.toNat_natCast]
end steps
end Go.Am
