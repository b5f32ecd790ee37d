/- An abstract machine over the kit's calls, part 15: append and copy. No conditions. -/
import Derived.Test.YtjhphpoihadmkaaAm14
namespace Go.Am

/-- What a slice, or a string, holds: how many elements, which blocks it looks at, its cells. -/
def srcAV (H : Nat → Option Blk) (sz : Nat) : AV → Option (Nat × List (Nat × Blk) × List AV)
  | .pv (.sl _ m ps) => some (m, [], ps.map .pv)
  | .tsl m ps => some (m, [], ps.map .pv)
  | .sl b o m s _ => if s = sz then match H b with
      | some (.cells cs) => some (m, [(b, .cells cs)], (cs.drop o).take (m * s))
      | _ => none
    else none
  | .pv (.lit (.string s)) => if sz = 1 then some (s.size, [], s.data.toList.map fun b => .pv (.lit (.int .u8 b.toNat))) else none
  | _ => none

/-- A slice that may be appended to: how many elements, which blocks it looks at, its cells, which block goes. -/
def dstAV (H : Nat → Option Blk) (sz : Nat) : AV → Option (Nat × List (Nat × Blk) × List AV × List (Nat × Option Blk))
  | .pv (.sl (some true) 0 []) => some (0, [], [], [])
  | .tsl n ps => some (n, [], ps.map .pv, [])
  | .sl b o n s t => if s = sz then match H b with
      | some (.cells cs) => some (n, [(b, .cells cs)], (cs.drop o).take (n * s), if t then [] else [(b, none)])
      | _ => none
    else none
  | _ => none

section ops
variable {E : Env} {T : Tab}

theorem VHs_lits (ι : Nat → Option (Nat × Nat)) (imm : Nat → Prop) (w : World) : ∀ (l : List UInt8), VHs ι imm w (l.map fun b => .pv (.lit (.int .u8 b.toNat))) (l.map fun b => .int .u8 b.toNat)
  | [] => rfl
  | b :: l => ⟨_, _, rfl, by simp [VH, PH, flatB], VHs_lits ι imm w l⟩

/-- The cells of what is appended, or copied. -/
theorem run_src {ι : Nat → Option (Nat × Nat)} {imm : Nat → Prop} {st : St} {a : Act} {w : World} (hs : SR E ι imm st a w) {H : Nat → Option Blk} {sz : Nat} {y : AV} {m : Nat} {hd : List (Nat × Blk)} {cs : List AV} (h : srcAV H sz y = some (m, hd, cs)) (hdeps : ∀ x ∈ hd, st.H x.1 = some x.2) (hlen : cs.length = m * sz) {v : Value} (hv : VH ι imm w y v) :
    ∃ vs, (Builtin.lenOf v).run E.P w = .ok m w ∧ VHs ι imm w cs vs ∧ ∀ k, k ≤ m → ∀ w' : World, (∀ x, w'.cell? x = w.cell? x) → (Builtin.firstCells sz k v).run E.P w' = .ok (List.toArray (vs.take (k * sz))) w' := by
  unfold srcAV at h
  split at h
  · simp only [Option.some.injEq, Prod.mk.injEq] at h
    obtain ⟨rfl, rfl, rfl⟩ := h
    rename_i ps
    simp only [VH, PH] at hv
    obtain ⟨A, cap, rfl, h1, h2, h3, h4, h5⟩ := hv
    cases A with
    | none =>
      obtain ⟨h6, h7, h8⟩ := h4 rfl
      subst h8
      refine ⟨[], rfl, rfl, fun k hk w' hw' => ?_⟩
      simp [Builtin.firstCells]
    | some ad =>
      by_cases hp : ps = []
      · subst hp
        refine ⟨[], rfl, rfl, fun k hk w' hw' => ?_⟩
        simp only [List.map_nil, List.length_nil] at hlen
        have : k * sz = 0 := by
          have h9 := Nat.mul_le_mul_right sz hk
          omega
        simp [Builtin.firstCells, this, loadCells, loadCellsFrom]
      · obtain ⟨q1, q2, q3⟩ := h5 ad rfl hp
        obtain ⟨vs, g1, g2⟩ := q3.vals ι
        refine ⟨vs, rfl, g1, fun k hk w' hw' => ?_⟩
        have hl := g1.length
        have hk' : k * sz ≤ vs.length := by rw [hl, hlen]; exact Nat.mul_le_mul_right _ hk
        have hl2 : (vs.take (k * sz)).length = k * sz := by simp; omega
        simp only [Builtin.firstCells]
        rw [addr_eta q1]
        have := run_loadCells (P := E.P) (w := w') (r := ad.block) (o := ad.off) (vs.take (k * sz)) (fun i hi => by
          rw [hw', g2 i (by omega), List.getElem?_take, if_pos (by omega)])
        rw [hl2] at this
        exact this
  · simp only [Option.some.injEq, Prod.mk.injEq] at h
    obtain ⟨rfl, rfl, rfl⟩ := h
    rename_i ps
    simp only [VH] at hv
    obtain ⟨A, rfl, h4, h5⟩ := hv
    cases A with
    | none =>
      obtain ⟨h6, h8⟩ := h4 rfl
      subst h8
      refine ⟨[], rfl, rfl, fun k hk w' hw' => ?_⟩
      simp [Builtin.firstCells]
    | some ad =>
      by_cases hp : ps = []
      · subst hp
        refine ⟨[], rfl, rfl, fun k hk w' hw' => ?_⟩
        simp only [List.map_nil, List.length_nil] at hlen
        have : k * sz = 0 := by
          have h9 := Nat.mul_le_mul_right sz hk
          omega
        simp [Builtin.firstCells, this, loadCells, loadCellsFrom]
      · obtain ⟨q1, q2, q3⟩ := h5 ad rfl hp
        obtain ⟨vs, g1, g2⟩ := q3.vals ι
        refine ⟨vs, rfl, g1, fun k hk w' hw' => ?_⟩
        have hl := g1.length
        have hk' : k * sz ≤ vs.length := by rw [hl, hlen]; exact Nat.mul_le_mul_right _ hk
        have hl2 : (vs.take (k * sz)).length = k * sz := by simp; omega
        simp only [Builtin.firstCells]
        rw [addr_eta q1]
        have := run_loadCells (P := E.P) (w := w') (r := ad.block) (o := ad.off) (vs.take (k * sz)) (fun i hi => by
          rw [hw', g2 i (by omega), List.getElem?_take, if_pos (by omega)])
        rw [hl2] at this
        exact this
  · split at h
    · rename_i hsz
      have hsz' := hsz.symm
      subst hsz'
      split at h
      · rename_i cs0 hcs
        simp only [Option.some.injEq, Prod.mk.injEq] at h
        obtain ⟨rfl, rfl, rfl⟩ := h
        simp only [VH] at hv
        obtain ⟨r, z, cap, hi, rfl, h1, _⟩ := hv
        obtain ⟨c, e, f, g1, g2, g3, g4, _⟩ := hs.heap.cells (hdeps _ (List.mem_cons_self ..)) hi
        obtain ⟨vs, g5, g6⟩ := (g4.drop.take).vals
        refine ⟨vs, rfl, g5, fun k hk w' hw' => ?_⟩
        have hl := g5.length
        have hk' : k * sz ≤ vs.length := by rw [hl, hlen]; exact Nat.mul_le_mul_right _ hk
        have hl2 : (vs.take (k * sz)).length = k * sz := by simp; omega
        have := run_loadCells (P := E.P) (w := w') (r := r) (vs.take (k * sz)) (fun i hi => by
          rw [hw', cell_of_heap g1, g6 i (by omega), List.getElem?_take, if_pos (by omega)])
        rw [hl2] at this
        simpa [Builtin.firstCells] using this
      · cases h
    · cases h
  · split at h
    · rename_i s hsz
      subst hsz
      simp only [Option.some.injEq, Prod.mk.injEq] at h
      obtain ⟨rfl, rfl, rfl⟩ := h
      simp only [VH, PH] at hv
      obtain ⟨rfl, _⟩ := hv
      refine ⟨s.data.toList.map fun b => .int .u8 b.toNat, rfl, VHs_lits ι imm w _, fun k hk w' hw' => ?_⟩
      simp only [Builtin.firstCells, run_pure', Nat.mul_one]
      congr 1
      apply Array.ext'
      simp
    · cases h
  · cases h

/-- `copy`. -/
theorem does_copy (hT : TabOk E.P T) {o : Oper} {c : Call} {t t2 : TypeId} (ho : o.op = .call c) (hc : c.callee = .builtin .copy) (hty : c.argTypes = #[t, t2]) (hd : ∀ d, o.dst = some d → d < E.n) {r re : TyRow} (hr : T.lookup t = some r) {e : TypeId} (hdesc : r.desc = .slice e) (hre : T.lookup e = some re)
    {b k n : Nat} {tt : Bool} {cs : List AV} {y : AV} {H : Nat → Option Blk} {m : Nat} {hd' : List (Nat × Blk)} {ys : List AV} (hsrc : srcAV H re.size y = some (m, hd', ys)) (hlen : ys.length = m * re.size) (hfit : k + (min m n) * re.size ≤ cs.length) (hflat : (ys.take ((min m n) * re.size)).all flatCell = true) :
    Does E o [.sl b k n re.size tt, y] ((b, .cells cs) :: hd') { v := .pv (.lit (.int .i64 ((min m n : Nat) : Int))), wr := [(b, some (.cells (setRange cs k (ys.take ((min m n) * re.size)))))] } := by
  intro ι imm st a w Q hs hv hh _
  have hvs := hs.evls hv
  have hops : o.op.operands.toList = c.args.toList := by rw [ho]; simp [Op.operands, Call.operands, hc]
  rw [hops] at hvs
  obtain ⟨v1, us1, he, hv1, hvs⟩ := hvs
  obtain ⟨v2, us2, he2, hv2, hvs⟩ := hvs
  simp only [VHs] at hvs
  subst hvs
  subst he2
  have hargs : c.args.map a.eval = #[v1, v2] := by apply Array.ext'; simpa using he
  simp only [VH] at hv1
  obtain ⟨q, z, cap, hi, rfl, _⟩ := hv1
  have hb := hh _ (List.mem_cons_self ..)
  obtain ⟨cc, ee, f, h1, h2, h3, h4, _⟩ := hs.heap.cells hb hi
  obtain ⟨vs, g1, g2, g3⟩ := run_src hs hsrc (fun x hx => hh x (List.mem_cons_of_mem _ hx)) hlen hv2
  have g4 := g3 (min m n) (Nat.min_le_left _ _) w (fun _ => rfl)
  have hl := g2.length
  have hmul : (min m n) * re.size ≤ vs.length := by rw [hl, hlen]; exact Nat.mul_le_mul_right _ (Nat.min_le_left _ _)
  have g5 : VHs ι imm w (ys.take ((min m n) * re.size)) (vs.take ((min m n) * re.size)) := g2.take
  have hl5 := g5.length
  have hsing : ∀ v ∈ vs.take ((min m n) * re.size), single v := VHs.singles _ _ g5 (flatCell_spec hflat)
  obtain ⟨w', h5, h6⟩ := run_storeCells (P := E.P) (vs.take ((min m n) * re.size)) (z + k) 0 h1 (by rw [List.length_take]; omega) (fun o _ => h3 o) hsing
  unfold Oper.wp
  have hrun : (execOp a.eval o).run E.P w = .ok (.value (.int .i64 ((min m n : Nat) : Int))) w' := by
    have h7 : (Builtin.copy_ #[t, t2] o.type #[.slice (some ⟨q, z + k, none⟩) n cap, v2]).run E.P w = .ok (.int .i64 ((min m n : Nat) : Int)) w' := by
      simp only [Builtin.copy_, List.getElem?_toArray, List.getElem?_cons_zero, List.getElem?_cons_succ]
      rw [run_bind', run_underlying hT hr]
      simp only [hdesc, run_bind', g1, run_sizeOf hT hre]
      have : Nat.min m n = min m n := rfl
      rw [this, g4]
      simp only [h5, run_pure', goInt]
    simp only [execOp, ho, resolve, hc, run_bind', run_pure', invoke, builtin, hargs, hty, h7]
  rw [hrun, Oper.upon_value]
  have L1 : (ys.take ((min m n) * re.size)).length = (min m n) * re.size := by rw [List.length_take]; omega
  have hput := CellsH.put (k := k) (c' := putCells cc (z + k + 0) (vs.take ((min m n) * re.size))) h4 g5 (by rw [L1]; exact hfit) (by rw [Nat.add_zero]) h2
  have hsr := hs.write hb hi h1 h6 (putCells_size _ _ _) (by rw [setRange_length (by rw [L1]; exact hfit)]; exact h2) hput (.pv (.lit (.int .i64 ((min m n : Nat) : Int))))
  exact ⟨ι, imm, hsr.put o.dst hd (show VH ι imm w' (.pv (.lit (.int .i64 _))) (.int .i64 _) from ⟨rfl, rfl⟩)⟩

end ops
end Go.Am
