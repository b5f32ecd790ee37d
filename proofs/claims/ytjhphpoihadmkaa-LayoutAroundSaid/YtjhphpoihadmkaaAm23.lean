/- An abstract machine over the kit's calls, part 23: bytes as a string. No conditions. -/
import Derived.Test.YtjhphpoihadmkaaAm22
namespace Go.Am
section steps
variable {E : Env} {T : Tab} {cq : Oper → Cls} {n : Nat} {ops : Array Oper}

/-- The string that bytes are. -/
def strOf (D : List Int) : ByteArray := ⟨(D.map fun x => UInt8.ofNat x.toNat).toArray⟩

theorem run_bytesLoop {P : Program} : ∀ (D : List Int) (s : ByteArray) (w : World),
    (forIn (D.map fun x => Value.int .u8 x) s (fun c (r : ByteArray) => do
      let .int .u8 n := c | stuck "bytesToString: byte expected"
      pure (ForInStep.yield (r.push (UInt8.ofNat n.toNat)))) : Sem ByteArray).run P w = .ok (⟨s.data ++ (D.map fun x => UInt8.ofNat x.toNat).toArray⟩) w
  | [], s, w => by simp
  | x :: D, s, w => by
    rw [List.map_cons, List.forIn_cons, run_bind']
    simp only [run_pure']
    rw [run_bytesLoop D]
    simp [ByteArray.push]

theorem vhs_ints {ι : Nat → Option (Nat × Nat)} {imm : Nat → Prop} {w : World} {k : IntKind} : ∀ {D : List Int} {vs : List Value}, VHs ι imm w (cI k D) vs → vs = D.map fun x => Value.int k x
  | [], vs, h => h
  | x :: D, vs, h => by
    obtain ⟨v, us, rfl, h1, h2⟩ := h
    simp only [VH, PH] at h1
    rw [h1.1, vhs_ints (D := D) h2, List.map_cons]

theorem does_bytesToString (hT : TabOk E.P T) {o : Oper} {src dst : TypeId} {x : Operand} (ho : o.op = .convert src dst x) (hd : ∀ d, o.dst = some d → d < E.n) {rs rd re : TyRow} {e : TypeId} (h1 : T.lookup src = some rs) (h2 : T.lookup dst = some rd) (hs : rs.desc = .slice e) (he : T.lookup e = some re) (hre : re.desc = .int .u8) (hk : rd.desc = .string) {f : Option Bool} {D : List Int} :
    Does E o [sI f .u8 D] [] { v := .pv (.lit (.string (strOf D))) } := by
  refine Does.value hd fun ι imm st a w hsr hv _ => ?_
  rw [ho] at hv
  simp only [Op.operands, List.map_cons, List.map_nil] at hv
  have h := hv.one
  simp only [sI, VH, PH] at h
  obtain ⟨A, cap, q1, q2, _, _, q3, q4⟩ := h
  refine ⟨.string (strOf D), ?_, by simp [VH, PH, flatB]⟩
  simp only [execOp, ho, q1, convert, run_bind', run_underlying hT h1, run_underlying hT h2, hs, hk, run_underlying hT he, hre]
  cases A with
  | none =>
    obtain ⟨e1, _, _⟩ := q3 rfl
    have : D = [] := List.eq_nil_of_length_eq_zero e1
    subst this
    rfl
  | some ad =>
    have key : ∃ vs : List Value, (loadCells ad D.length).run E.P w = .ok vs.toArray w ∧ vs = D.map fun x => Value.int .u8 x := by
      by_cases hD : D = []
      · subst hD
        exact ⟨[], rfl, rfl⟩
      · obtain ⟨p1, p2, p3⟩ := q4 ad rfl (by simpa [pI] using hD)
        obtain ⟨vs, r1, r2⟩ := p3.vals ι
        rw [pI_pv] at r1
        have e := vhs_ints r1
        have hl : vs.length = D.length := by rw [e]; simp
        refine ⟨vs, ?_, e⟩
        rw [← hl]
        rw [addr_eta p1]
        exact run_loadCells vs r2
    obtain ⟨vs, k1, k2⟩ := key
    simp only [Conv.bytesToString, run_bind', k1, k2]
    have := run_bytesLoop (P := E.P) D ByteArray.empty w
    rw [List.forIn_toArray]
    erw [this]
    simp only [run_pure']
    have e : (⟨ByteArray.empty.data ++ (List.map (fun x => UInt8.ofNat x.toNat) D).toArray⟩ : ByteArray) = strOf D := by
      simp [strOf, ByteArray.empty, ByteArray.emptyWithCapacity]
      rfl
    rw [e]
end steps
end Go.Am
