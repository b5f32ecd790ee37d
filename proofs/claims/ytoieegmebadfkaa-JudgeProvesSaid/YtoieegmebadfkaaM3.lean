import Derived.Test.YtoieegmebadfkaaM1
import Derived.Test.YtoieegmebadfkaaM2
import Derived.Lib.BytesEntry
import Derived.Lib.ConvBytes
import Derived.Laws.AppendOwn
import Derived.Sort.Row
import Derived.Sort.Grow
import Derived.Deep.Draws
import Derived.Shelf.GgSortFunc.RowK
import Derived.Test.YtoieegmebadfkaaProg
import Derived.KernelRfl
import Derived.Shelf.Small.Bits
import Derived.Shelf.SlSortCmp.WholeK
/- An abstract machine over the kit's calls, part 42: calls that are handed an object (block 0) and the blocks that it names. No conditions. -/
namespace Go.Am
section steps
variable {E : Env} {T : Tab} {cq : Oper → Cls} {n : Nat} {ops : Array Oper}
/-- A call that is handed an object, block 0, and the blocks that it names; what these hold leads nowhere. -/
structure ObjCalls (P : Program) (f : FuncId) (avs : List AV) (cs : List AV) (Bs : List (Nat × Blk)) (av : AV) (cs' : List AV) (Bs' : List (Nat × Blk)) : Prop where
  fn : ∃ fn, P.funcs[f]? = some fn ∧ (fn.name == "runtime.NumGoroutine") = false ∧ fn.body.isNone = false
  args : AV.withinL (inI (0 :: Bs.map (·.1))) avs = true
  c0 : AV.withinL (inI (0 :: Bs.map (·.1))) cs = true
  b0 : ∀ x ∈ Bs, x.2.within (fun _ => false) = true
  nd : (0 :: Bs.map (·.1)).Nodup
  res : av.within (fun _ => false) = true
  c1 : AV.withinL (inI (0 :: Bs'.map (·.1))) cs' = true
  b1 : ∀ x ∈ Bs', x.2.within (fun _ => false) = true
  nd' : (0 :: Bs'.map (·.1)).Nodup
  calls : ACalls P f (0 :: Bs.map (·.1)) avs ((0, .cells cs) :: Bs) av ((0, .cells cs') :: Bs')
theorem ObjCalls.of_body {P : Program} {T : Tab} (hT : TabOk P T) {f : FuncId} {fn : Func} {body : Code} (hf : P.funcs[f]? = some fn) (hb : fn.body = some body) (hn : (fn.name == "runtime.NumGoroutine") = false) {avs cs cs' : List AV} {Bs Bs' : List (Nat × Blk)} {av : AV} (hl : decide (avs.length ≤ fn.ntmps) = true)
    (args : AV.withinL (inI (0 :: Bs.map (·.1))) avs = true) (c0 : AV.withinL (inI (0 :: Bs.map (·.1))) cs = true) (b0 : ∀ x ∈ Bs, x.2.within (fun _ => false) = true) (nd : (0 :: Bs.map (·.1)).Nodup) (res : av.within (fun _ => false) = true)
    (c1 : AV.withinL (inI (0 :: Bs'.map (·.1))) cs' = true) (b1 : ∀ x ∈ Bs', x.2.within (fun _ => false) = true) (nd' : (0 :: Bs'.map (·.1)).Nodup) (hm : P.follows .mixedOrders = true)
    (h : ∀ E : Env, E.P = P → Cx E T fn.ntmps → E.I = 0 :: Bs.map (·.1) → Awp E body (entry avs ((0, .cells cs) :: Bs) (0 :: Bs.map (·.1))) fun e st => (e = .ret ∨ e = .normal) ∧ resAV T st fn.results.toList = some av ∧ st.H 0 = some (.cells cs') ∧ eqsH st.H Bs') : ObjCalls P f avs cs Bs av cs' Bs' where
  fn := ⟨fn, hf, hn, by simp [hb]⟩
  args := args
  c0 := c0
  b0 := b0
  nd := nd
  res := res
  c1 := c1
  b1 := b1
  nd' := nd'
  calls := ACalls.of_body hT hf hb (by simpa using hl) fun E hP hE hI => (h E hP ⟨hP ▸ hT, hE, hP ▸ hm⟩ hI).mono fun e st ⟨h1, h2, h3, h4⟩ => ⟨h1, h2, fun x hx => by
    rcases List.mem_cons.1 hx with rfl | hx
    · exact h3
    · exact eqsH_mem h4 x hx⟩
mutual
theorem AV.within_ren {U V : Nat → Bool} {τ : Nat → Nat} (h : ∀ b, U b = true → V (τ b) = true) : ∀ (x : AV), x.within U = true → (x.ren τ).within V = true
  | .agg cs, hx => by simp only [AV.within] at hx; simp only [AV.ren, AV.within]; exact AV.withinL_ren h cs hx
  | .tup cs, hx => by simp only [AV.within] at hx; simp only [AV.ren, AV.within]; exact AV.withinL_ren h cs hx
  | .undef, _ | .pv _, _ | .tsl _ _, _ | .rp _, _ => rfl
  | .ptr b _, hx => by simp only [AV.within] at hx; simp only [AV.ren, AV.within]; exact h b hx
  | .sl b _ _ _ _, hx => by simp only [AV.within] at hx; simp only [AV.ren, AV.within]; exact h b hx
  | .slc b _ _ _ _, hx => by simp only [AV.within] at hx; simp only [AV.ren, AV.within]; exact h b hx
  | .mp b, hx => by simp only [AV.within] at hx; simp only [AV.ren, AV.within]; exact h b hx
  | .fn _ xs ys, hx => by
    simp only [AV.within, Bool.and_eq_true] at hx
    simp only [AV.ren, AV.within, Bool.and_eq_true]
    exact ⟨AV.withinL_ren h xs hx.1, AV.withinL_ren h ys hx.2⟩
theorem AV.withinL_ren {U V : Nat → Bool} {τ : Nat → Nat} (h : ∀ b, U b = true → V (τ b) = true) : ∀ (xs : List AV), AV.withinL U xs = true → AV.withinL V (AV.renL τ xs) = true
  | [], _ => rfl
  | x :: xs, hx => by
    simp only [AV.withinL, Bool.and_eq_true] at hx
    simp only [AV.renL, AV.withinL, Bool.and_eq_true]
    exact ⟨AV.within_ren h x hx.1, AV.withinL_ren h xs hx.2⟩
end
/-- What such a call does at the caller's: σ names the blocks that are handed in, L those that are new. -/
def objDelta (σ : Nat → Nat) (L : List (Nat × Nat)) (I : List Nat) (Bs : List (Nat × Blk)) (av : AV) (cs' : List AV) (Bs' : List (Nat × Blk)) : Delta where
  v := av
  new := L.map fun x => (x.1, ((heapOf Bs' x.2).getD (.cells [])))
  wr := (σ 0, some (.cells (AV.renL (Names.τ ⟨σ, L⟩ I) cs'))) :: Bs.map fun x => (σ x.1, heapOf Bs' x.1)
theorem inj_of_nodup {α β : Type} {f : α → β} : ∀ {l : List α}, (l.map f).Nodup → ∀ {a b : α}, a ∈ l → b ∈ l → f a = f b → a = b
  | [], _, _, _, ha, _, _ => by cases ha
  | x :: l, h, a, b, ha, hb, e => by
    rw [List.map_cons, List.nodup_cons] at h
    rcases List.mem_cons.1 ha with h1 | h1 <;> rcases List.mem_cons.1 hb with h2 | h2
    · rw [h1, h2]
    · exact (h.1 (List.mem_map.2 ⟨b, h2, by rw [← e, h1]⟩)).elim
    · exact (h.1 (List.mem_map.2 ⟨a, h1, by rw [e, h2]⟩)).elim
    · exact inj_of_nodup h.2 h1 h2 e
theorem heapOf_cons_ne {b : Nat} {k : Blk} {H : List (Nat × Blk)} {c : Nat} (h : c ≠ b) : heapOf ((b, k) :: H) c = heapOf H c := by
  have : (c == b) = false := by simpa using h
  simp only [heapOf, List.lookup, this]
theorem rexec_callObj {P : Program} (hP : E.P = P) (C : Cx E T n) {f : FuncId} {avs args cs cs' : List AV} {Bs Bs' : List (Nat × Blk)} {av : AV} {d : Option Nat} {c : Call} {ty : TypeId} {pos : String} {af : Array Edge} {g : Option (Nat × Bool)} {st : St} {K : St → Prop}
    (σ : Nat → Nat) (L : List (Nat × Nat)) (h1 : dstB n ⟨d, .call c, ty, pos, af, g⟩ = true) (hc : c.callee = .value (.func f)) (hv : evls st.S c.args.toList = some args)
    (F : ObjCalls P f avs cs Bs av cs' Bs') (ha : AV.renL σ avs = args) (hb : st.H (σ 0) = some (.cells (AV.renL σ cs))) (hBs : eqsH st.H (Bs.map fun x => (σ x.1, x.2))) (hinj : ((0 :: Bs.map (·.1)).map σ).Nodup) (hU : (L.all fun x => !st.U x.1) = true)
    (hL1 : (L.map (·.1)).Nodup) (hL2 : (L.map (·.2)).Nodup) (hL3 : ∀ x ∈ L, inI (0 :: Bs.map (·.1)) x.2 = false) (hL4 : ∀ x ∈ L, (heapOf Bs' x.2).isSome = true) (hL5 : ∀ x ∈ Bs', Names.knows ⟨σ, L⟩ (0 :: Bs.map (·.1)) x.1 = true)
    (h7 : K (st.after d (objDelta σ L (0 :: Bs.map (·.1)) Bs av cs' Bs')))
    (hreach : refs (.fn f [] [] :: args) [] (σ 0) = true) (hrb : ∀ x ∈ Bs, AV.withinL (· != σ x.1) (args ++ AV.renL σ cs) = false)
    (hp : clsOf cq ⟨d, .call c, ty, pos, af, g⟩ ≠ .pure := by decide) (hq : clsOf cq ⟨d, .call c, ty, pos, af, g⟩ ≠ .quiet := by decide)
    (hft : footB (clsOf cq ⟨d, .call c, ty, pos, af, g⟩) ((σ 0, .cells (AV.renL σ cs)) :: Bs.map fun x => (σ x.1, x.2)) (objDelta σ L (0 :: Bs.map (·.1)) Bs av cs' Bs') = true := by rfl) : rexec E cq n ⟨d, .call c, ty, pos, af, g⟩ st K := by
  subst hP
  obtain ⟨fn, q1, q2, q3⟩ := F.fn
  have hd : ∀ x, d = some x → x < E.n := dst_lt C h1
  have hnone : ∀ (U : Nat → Bool) (b : Nat), (fun _ : Nat => false) b = true → U b = true := fun _ _ h => by cases h
  have hI0 : inI (0 :: Bs.map (·.1)) 0 = true := by simp [inI]
  have hIB : ∀ x ∈ Bs, inI (0 :: Bs.map (·.1)) x.1 = true := fun x hx => by
    simp only [inI, List.contains_iff_mem]
    exact List.mem_cons_of_mem _ (List.mem_map.2 ⟨x, hx, rfl⟩)
  have h0B : ∀ x ∈ Bs, x.1 ≠ 0 := fun x hx e => by
    have := (List.nodup_cons.1 F.nd).1
    exact this (List.mem_map.2 ⟨x, hx, e⟩)
  have h0B' : ∀ x ∈ Bs', x.1 ≠ 0 := fun x hx e => by
    have := (List.nodup_cons.1 F.nd').1
    exact this (List.mem_map.2 ⟨x, hx, e⟩)
  have hinj' : ∀ b c, inI (0 :: Bs.map (·.1)) b = true → inI (0 :: Bs.map (·.1)) c = true → σ b = σ c → b = c := fun b c hb hc e => by
    simp only [inI, List.contains_iff_mem] at hb hc
    exact inj_of_nodup hinj hb hc e
  have hknow0 : Names.knows ⟨σ, L⟩ (0 :: Bs.map (·.1)) 0 = true := by simp [Names.knows, hI0]
  have ok : CallOk ⟨σ, L⟩ (0 :: Bs.map (·.1)) avs ((0, .cells cs) :: Bs) ((0, .cells cs') :: Bs') av := by
    refine { args := F.args, ids := ?_, blks := ?_, nodup := by simpa using F.nd, inj := hinj', nodupL := hL1, nodupR := hL2, fresh := hL3, res := ?_, res' := ?_, kept := ?_, all := ?_, used := ?_ }
    · intro x hx
      rcases List.mem_cons.1 hx with rfl | hx
      · exact hI0
      · exact hIB x hx
    · intro x hx
      rcases List.mem_cons.1 hx with rfl | hx
      · exact F.c0
      · exact Blk.within_mono (hnone _) _ (F.b0 x hx)
    · exact AV.within_mono (hnone _) av F.res
    · intro x hx
      rcases List.mem_cons.1 hx with rfl | hx
      · refine ⟨hknow0, AV.withinL_mono (fun b hb => ?_) cs' F.c1⟩
        simp only [inI, List.contains_iff_mem, List.mem_cons] at hb
        rcases hb with rfl | hb
        · exact hknow0
        · obtain ⟨y, hy, rfl⟩ := List.mem_map.1 hb
          exact hL5 y hy
      · exact ⟨hL5 x hx, Blk.within_mono (hnone _) _ (F.b1 x hx)⟩
    · intro x hx hI
      simp only [inI, List.contains_iff_mem, List.mem_cons] at hI
      rcases hI with h0 | hI
      · exact ⟨.cells cs, by rw [h0]; exact List.mem_cons_self ..⟩
      · obtain ⟨y, hy, e⟩ := List.mem_map.1 hI
        exact ⟨y.2, List.mem_cons_of_mem _ (by rw [← e]; exact hy)⟩
    · intro x hx
      have hne : x.2 ≠ 0 := fun e => by
        have := hL3 x hx
        rw [e, hI0] at this; cases this
      rw [heapOf_cons_ne hne]; exact hL4 x hx
    · intro b hb
      simp only [inI, List.contains_iff_mem, List.mem_cons] at hb
      rcases hb with rfl | hb
      · exact .inr rfl
      · obtain ⟨y, hy, rfl⟩ := List.mem_map.1 hb
        right
        rw [heapOf_cons_ne (h0B y hy)]
        have := lookup_of_mem (l := Bs) (x := y) (List.nodup_cons.1 F.nd).2 hy
        simp only [heapOf, this]; rfl
  have hdo := does_call (E := E) (o := ⟨d, .call c, ty, pos, af, g⟩) (c := c) rfl hc hd q1 q2 q3 F.calls ok (args := args) (caps := []) (by simpa using ha)
  have pure1 : ∀ x, heapOf Bs' x = none ∨ ∃ k, heapOf Bs' x = some k ∧ k.within (fun _ => false) = true := fun x => by
    cases e : heapOf Bs' x with
    | none => exact .inl rfl
    | some k => exact .inr ⟨k, rfl, F.b1 (x, k) (lookup_mem (l := Bs') e)⟩
  have hren : ∀ (τ : Nat → Nat) x, (heapOf Bs' x).map (·.ren τ) = heapOf Bs' x := fun τ x => by
    rcases pure1 x with h | ⟨k, h, hk⟩
    · rw [h]; rfl
    · rw [h, Option.map_some, Blk.ren_none hk]
  have hH : (((0, Blk.cells cs) :: Bs).map fun x => (σ x.1, x.2.ren σ)) = (σ 0, .cells (AV.renL σ cs)) :: Bs.map fun x => (σ x.1, x.2) := by
    rw [List.map_cons]
    congr 1
    exact List.map_congr_left fun x hx => by rw [Blk.ren_none (F.b0 x hx)]
  have he : Names.delta ⟨σ, L⟩ (0 :: Bs.map (·.1)) ((0, .cells cs) :: Bs) ((0, .cells cs') :: Bs') av = objDelta σ L (0 :: Bs.map (·.1)) Bs av cs' Bs' := by
    unfold Names.delta objDelta
    congr 1
    · exact AV.ren_none av F.res
    · refine List.map_congr_left fun x hx => ?_
      have hne : x.2 ≠ 0 := fun e => by
        have := hL3 x hx
        rw [e, hI0] at this; cases this
      rw [heapOf_cons_ne hne]
      obtain ⟨k, hk⟩ := Option.isSome_iff_exists.1 (hL4 x hx)
      have := hren (Names.τ ⟨σ, L⟩ (0 :: Bs.map (·.1))) x.2
      rw [hk] at this ⊢
      simp only [Option.map_some, Option.some.injEq] at this
      simp only [Option.getD_some, this]
    · rw [List.map_cons]
      congr 1
      refine List.map_congr_left fun x hx => ?_
      rw [heapOf_cons_ne (h0B x hx), hren]
  rw [he] at hdo
  have hdo' : Does E ⟨d, .call c, ty, pos, af, g⟩ (.fn f [] [] :: args) ((σ 0, .cells (AV.renL σ cs)) :: Bs.map fun x => (σ x.1, x.2)) (objDelta σ L (0 :: Bs.map (·.1)) Bs av cs' Bs') := by
    rw [← hH]; exact hdo
  have hops : (Op.operands (.call c)).toList = .func f :: c.args.toList := by simp [Op.operands, Call.operands, hc]
  have hr0 : ∀ hs, refs (.fn f [] [] :: args) hs (σ 0) = true := fun hs => by
    simp only [refs, Bool.or_eq_true] at hreach ⊢
    rcases hreach with h | h
    · exact .inl h
    · simp at h
  have hrB : ∀ x ∈ Bs, ∀ hs, (σ 0, Blk.cells (AV.renL σ cs)) ∈ hs → refs (.fn f [] [] :: args) hs (σ x.1) = true := fun x hx hs hm => by
    have h := hrb x hx
    simp only [refs, Bool.or_eq_true, Bool.not_eq_true', List.any_eq_true]
    have key : AV.withinL (· != σ x.1) args = false ∨ AV.withinL (· != σ x.1) (AV.renL σ cs) = false := by
      cases e1 : AV.withinL (· != σ x.1) args
      · exact .inl rfl
      · cases e2 : AV.withinL (· != σ x.1) (AV.renL σ cs)
        · exact .inr rfl
        · have : AV.withinL (· != σ x.1) (args ++ AV.renL σ cs) = true := AV.withinL_of fun y hy => by
            rcases List.mem_append.1 hy with hy | hy
            · exact AV.withinL_mem e1 y hy
            · exact AV.withinL_mem e2 y hy
          rw [this] at h; cases h
    rcases key with h | h
    · left; simp only [AV.withinL, h, Bool.and_false]
    · right; exact ⟨_, hm, by simpa [Blk.within] using h⟩
  have hrAll : reachB (.fn f [] [] :: args) [] ((σ 0, .cells (AV.renL σ cs)) :: Bs.map fun x => (σ x.1, x.2)) = true := by
    have key : ∀ (bs : List (Nat × Blk)) (seen : List (Nat × Blk)), (∀ x ∈ bs, x ∈ Bs) → (σ 0, Blk.cells (AV.renL σ cs)) ∈ seen → reachB (.fn f [] [] :: args) seen (bs.map fun x => (σ x.1, x.2)) = true := by
      intro bs
      induction bs with
      | nil => intro _ _ _; rfl
      | cons y bs ih =>
        intro seen hb hm
        simp only [List.map_cons, reachB, Bool.and_eq_true]
        exact ⟨hrB y (hb y (List.mem_cons_self ..)) seen hm, ih _ (fun x hx => hb x (List.mem_cons_of_mem _ hx)) (List.mem_cons_of_mem _ hm)⟩
    simp only [reachB, Bool.and_eq_true]
    exact ⟨hr0 [], key Bs _ (fun _ h => h) (List.mem_cons_self ..)⟩
  have hknown : ∀ b, inI (0 :: Bs'.map (·.1)) b = true → ((objDelta σ L (0 :: Bs.map (·.1)) Bs av cs' Bs').new.lookup (Names.τ ⟨σ, L⟩ (0 :: Bs.map (·.1)) b)).isSome = true ∨ refs (.fn f [] [] :: args) ((σ 0, .cells (AV.renL σ cs)) :: Bs.map fun x => (σ x.1, x.2)) (Names.τ ⟨σ, L⟩ (0 :: Bs.map (·.1)) b) = true := fun b hb => by
    have hk : Names.knows ⟨σ, L⟩ (0 :: Bs.map (·.1)) b = true := by
      simp only [inI, List.contains_iff_mem, List.mem_cons] at hb
      rcases hb with rfl | hb
      · exact hknow0
      · obtain ⟨y, hy, rfl⟩ := List.mem_map.1 hb
        exact hL5 y hy
    cases hi : inI (0 :: Bs.map (·.1)) b with
    | true =>
      right
      have e : Names.τ ⟨σ, L⟩ (0 :: Bs.map (·.1)) b = σ b := by simp only [Names.τ, hi, if_true]
      rw [e]
      simp only [inI, List.contains_iff_mem, List.mem_cons] at hi
      rcases hi with rfl | hi
      · exact hr0 _
      · obtain ⟨y, hy, rfl⟩ := List.mem_map.1 hi
        exact hrB y hy _ (List.mem_cons_self ..)
    | false =>
      left
      simp only [Names.knows, hi, Bool.false_or, List.any_eq_true, beq_iff_eq] at hk
      obtain ⟨y, hy, rfl⟩ := hk
      have e : Names.τ ⟨σ, L⟩ (0 :: Bs.map (·.1)) y.2 = y.1 := by
        simp only [Names.τ, hi, Bool.false_eq_true, if_false, find_snd hL2 hy]; rfl
      rw [e]
      have : (L.map fun x => (x.1, (heapOf Bs' x.2).getD (.cells []))).lookup y.1 = some ((heapOf Bs' y.2).getD (.cells [])) :=
        lookup_of_mem (l := L.map fun x => (x.1, (heapOf Bs' x.2).getD (.cells []))) (x := (y.1, (heapOf Bs' y.2).getD (.cells []))) (by rw [List.map_map]; exact hL1) (List.mem_map.2 ⟨y, hy, rfl⟩)
      show ((L.map fun x => (x.1, (heapOf Bs' x.2).getD (.cells []))).lookup y.1).isSome = true
      rw [this]; rfl
  refine ⟨h1, .fn f [] [] :: args, _, _, { vals := ?_, deps := ?_, fresh := ?_, does := hdo', reach := hrAll, inV := ?_, inN := ?_, inW := ?_, wr := ?_, pure := fun h => absurd h hp, quiet := fun h => absurd h hq, foot := hft }, h7⟩
  · show evls st.S (Op.operands (.call c)).toList = _
    rw [hops]; simp only [evls, evl, hv]
  · intro x hx
    rcases List.mem_cons.1 hx with rfl | hx
    · exact hb
    · exact eqsH_mem hBs x hx
  · intro x hx
    obtain ⟨y, hy, rfl⟩ := List.mem_map.1 hx
    have := List.all_eq_true.1 hU y hy
    simpa using this
  · exact AV.within_mono (hnone _) av F.res
  · intro x hx
    obtain ⟨y, hy, rfl⟩ := List.mem_map.1 hx
    rcases pure1 y.2 with h | ⟨k, h, hk⟩
    · rw [h]; rfl
    · show ((heapOf Bs' y.2).getD _).within _ = true
      rw [h]; exact Blk.within_mono (hnone _) _ hk
  · intro x hx k hk
    rcases List.mem_cons.1 hx with rfl | hx
    · obtain rfl := Option.some.inj hk
      refine AV.withinL_ren (fun b hb => ?_) cs' F.c1
      have := hknown b hb
      simpa using this
    · obtain ⟨y, hy, rfl⟩ := List.mem_map.1 hx
      rcases pure1 y.1 with h | ⟨k', h, hk'⟩
      · have hk : heapOf Bs' y.1 = some k := hk
        rw [h] at hk; cases hk
      · have hk : heapOf Bs' y.1 = some k := hk
        rw [h] at hk
        obtain rfl := Option.some.inj hk
        exact Blk.within_mono (hnone _) _ hk'
  · intro x hx
    simp only [Bool.or_eq_true]
    right
    rcases List.mem_cons.1 hx with rfl | hx
    · exact hr0 _
    · obtain ⟨y, hy, rfl⟩ := List.mem_map.1 hx
      exact hrB y hy _ (List.mem_cons_self ..)
end steps
end Go.Am
namespace Go.Am
section heads
variable {κ β : Type} {KE : KEnc κ} {VE : VEnc β} {f : Nat → Option Blk} {τ : Nat → Nat} {U Ks : List Nat} {H : List (Nat × Blk)}
theorem okH_map {c : Nat} {D : List (κ × β)} (h1 : f (τ c) = some (mapE KE VE.enc D)) (h2 : Ks.contains c = true) (h3 : U.contains c = true) (h : okH f τ U Ks H) : okH f τ U Ks ((c, mapE KE VE.enc D) :: H) :=
  okH_cons (by rw [h1, mapE_ren]) h2 h3 (mapE_within _ _) h
end heads
theorem allB_nil {α : Type} {P : α → Prop} : ∀ x ∈ ([] : List α), P x := fun _ h => by cases h
section steps
variable {E : Env} {T : Tab} {cq : Oper → Cls} {n : Nat}
theorem rexec_cutOwn (C : Cx E T n) {d : Option Nat} {t ty : TypeId} {x hi : Operand} {pos : String} {af : Array Edge} {g : Option (Nat × Bool)} {st : St} {K : St → Prop} {b n0 sz : Nat} {tt : Bool} {k : IntKind} {z : Int} (m : Nat) (h1 : dstB n ⟨d, .slice t x none (some hi) none, ty, pos, af, g⟩ = true)
    (hx : evl st.S x = some (.sl b 0 n0 sz tt)) (hz : evl st.S hi = some (.pv (.lit (.int k z)))) {r re : TyRow} (hr : T.lookup t = some r) {te : TypeId} (hdesc : r.desc = .slice te) (hre : T.lookup te = some re) (hs : sz = re.size) (hle : 0 ≤ z ∧ z ≤ (n0 : Int)) (hm : m = z.toNat)
    (h7 : K (st.after d { v := .sl b 0 m sz false })) : rexec E cq n ⟨d, .slice t x none (some hi) none, ty, pos, af, g⟩ st K := by
  subst hm
  refine rexec_value C h1 (xs := [x, hi]) (by simp [Op.operands]) (vs := [.sl b 0 n0 sz tt, .pv (.lit (.int k z))]) (by simp only [evls, hx, hz]) (fun hd => ?_) (fun U hU => ?_) h7
  · have hdo := does_slice (H := st.H) C.tab (o := ⟨d, .slice t x none (some hi) none, ty, pos, af, g⟩) (lo := none) (hi := some hi) (mx := none) rfl hd hr (vs := [.pv (.lit (.int k z))]) (v1 := [.pv (.lit (.int k z))]) (v2 := []) (v3 := []) (l := none) (h := some z) (m := none) rfl rfl rfl (u := .sl b 0 n0 sz tt)
      (z := .sl b (0 + (0 : Int).toNat * sz) (z.toNat - (0 : Int).toNat) sz (decide ((n0 : Int) = z) && (Option.isSome (none : Option Int) || tt))) (hs := []) (p := (0 ≤ (0 : Int) ∧ (0 : Int) ≤ z ∧ z ≤ n0) ∧ ((0 : Int) = 0 ∨ (0 : Int) < n0)) (by simp only [sliceAV, hdesc, hre, hs, if_true, cutOf, Option.getD_none]) ⟨⟨Int.le_refl _, hle.1, hle.2⟩, .inl rfl⟩
    intro ι imm st' a w Q q1 q2 q3 q4
    refine Oper.wp_mono (fun a' w' h => ?_) (hdo ι imm st' a w Q q1 q2 q3 q4)
    obtain ⟨ι', imm', h⟩ := h
    refine ⟨ι', imm', h.weakV (v' := .sl b 0 z.toNat sz false) fun u hu => ?_⟩
    have e1 : 0 + (0 : Int).toNat * sz = 0 := by simp
    have e2 : z.toNat - (0 : Int).toNat = z.toNat := by simp
    have hu : VH ι' imm' w' (.sl b (0 + (0 : Int).toNat * sz) (z.toNat - (0 : Int).toNat) sz (decide ((n0 : Int) = z) && (Option.isSome (none : Option Int) || tt))) u := hu
    rw [e1, e2] at hu
    exact Am.loose hu
  · simp only [AV.withinL, AV.within, Bool.and_eq_true] at hU ⊢
    exact hU.1
end steps
end Go.Am
namespace Go.Am
section
variable {f : Nat → Option Blk} {τ : Nat → Nat} {U Ks : List Nat} {H : List (Nat × Blk)} {κ β : Type} {KE : KEnc κ} {VE : VEnc β}
end
section
variable {κ β : Type} {KE : KEnc κ}
end
end Go.Am
namespace Go.Am
section
variable {E : Env} {T : Tab} {n : Nat} {cq : Oper → Cls}
def two (d d2 : Nat) : Nat → Nat := fun b => bif b == 0 then d else d2
end
end Go.Am
namespace Go.Am
mutual
/-- A value of no memory. -/
def litV : AV → Bool
  | .pv (.lit _) => true
  | .agg cs => litL cs
  | .tup cs => litL cs
  | _ => false
def litL : List AV → Bool
  | [] => true
  | x :: xs => litV x && litL xs
end
mutual
theorem VH.lit {ι κ : Nat → Option (Nat × Nat)} {i j : Nat → Prop} {a b : World} : ∀ (x : AV) (v : Value), litV x = true → VH ι i a x v → VH κ j b x v
  | .pv (.lit _), _, _, h => h
  | .pv (.sl _ _ _), _, h, _ => by simp [litV] at h
  | .agg cs, v, hl, h => by
    simp only [litV] at hl
    simp only [VH] at h ⊢
    obtain ⟨vs, h1, h2⟩ := h
    exact ⟨vs, h1, VHs.lit cs vs hl h2⟩
  | .tup cs, v, hl, h => by
    simp only [litV] at hl
    simp only [VH] at h ⊢
    obtain ⟨vs, h1, h2⟩ := h
    exact ⟨vs, h1, VHs.lit cs vs hl h2⟩
  | .undef, _, h, _ | .ptr _ _, _, h, _ | .sl _ _ _ _ _, _, h, _ | .slc _ _ _ _ _, _, h, _ | .tsl _ _, _, h, _ | .rp _, _, h, _ | .mp _, _, h, _ | .fn _ _ _, _, h, _ => by simp [litV] at h
theorem VHs.lit {ι κ : Nat → Option (Nat × Nat)} {i j : Nat → Prop} {a b : World} : ∀ (xs : List AV) (vs : List Value), litL xs = true → VHs ι i a xs vs → VHs κ j b xs vs
  | [], _, _, h => h
  | x :: xs, vs, hl, h => by
    simp only [litL, Bool.and_eq_true] at hl
    simp only [VHs] at h ⊢
    obtain ⟨v, us, h1, h2, h3⟩ := h
    exact ⟨v, us, h1, VH.lit x v hl.1 h2, VHs.lit xs us hl.2 h3⟩
end
theorem MCalls.of_PCalls {P : Program} {f : FuncId} {avs avs' : List AV} {av : AV} {ps : List PV} (F : PCalls P f avs av) (hL : FrzL 0 ps avs' avs) (hin : AV.withinL (fun b => b == 0) avs' = true) (hlit : litV av = true) : MCalls P f avs' (.cells (ps.map .pv)) av (.cells (ps.map .pv)) where
  fn := F.fn
  args := hin
  res := F.res
  blk := within_pvs _ _
  blk' := within_pvs _ _
  calls := by
    intro ι imm w M vs hH hv himm hdom
    obtain ⟨r, z, i1, i2, i3, c, e, f', q4, q5, q6, q7⟩ := hH.blk 0 (.cells (ps.map .pv)) rfl
    have hlt : r < w.heap.size := by
      rcases Nat.lt_or_ge r w.heap.size with h' | h'
      · exact h'
      · rw [Array.getElem?_eq_none h'] at q4; cases q4
    let imm' : Nat → Prop := fun k => imm k ∨ k = r
    have g0 : Grows ι ι imm imm' w w := ⟨fun _ _ h => h, ⟨fun _ hk => .inl hk, fun _ _ => rfl⟩, fun r c e f hr => ⟨c, f, hr, rfl⟩⟩
    have h0 : ∀ x y v, Frz0 0 ps x y → VH ι imm' w x v → VH ι imm' w y v := fun x y v hf hx => by
      rcases hf with rfl | ⟨m, s, tt, rfl, rfl⟩
      · exact hx
      · simp only [VH] at hx
        obtain ⟨r', z', cap, j1, j2, j3, _⟩ := hx
        rw [i1] at j1
        simp only [Option.some.injEq, Prod.mk.injEq] at j1
        obtain ⟨rfl, rfl⟩ := j1
        rw [j2]
        simp only [VH, PH]
        refine ⟨_, cap, rfl, j3, fun h => (by simp at h), fun _ h => (by simp at h), fun h => (by simp at h), fun A hA _ => ?_⟩
        simp only [Option.some.injEq] at hA
        subst hA
        exact ⟨rfl, .inr rfl, PHs.of_cells (i := imm) (ι := ι) (w := w) ⟨fun _ hk => .inl hk, fun _ _ => rfl⟩ (fun o => cell_of_heap q4 o) q7⟩
    have hv1 : VHs ι imm' w avs vs := FrzL.vhs h0 hL (VHs.grows g0 _ _ hv)
    have hv2 : VHs (fun _ => none) imm' w avs vs := VHs.lone F.args hv1
    refine (F.calls (fun _ => none) imm' w (fun _ => False) vs ⟨fun b k hb => (by cases hb), fun b b' k k' r z z' hb => (by cases hb)⟩ hv2 (fun k hk => hk.elim (himm k) fun e => e ▸ hlt) (fun b x hx => by cases hx)).mono ?_
    rintro e' w' ⟨v, ι', imm'', he, hvv, g, hext, _, _, _⟩
    have hst : Stays imm imm w w' := ⟨fun _ h => h, fun k hk => g.stays.same k (.inl hk)⟩
    have g1 : Grows ι ι imm imm w w' := ⟨fun _ _ h => h, hst, g.rows⟩
    have hb : BlkH ι imm w r z (.cells (ps.map .pv)) := ⟨c, e, f', q4, q5, q6, q7⟩
    refine ⟨v, ι, imm, he, VH.lit av v hlit hvv, g1, ⟨hext.os, hext.tape, hext.output, hext.size, fun k hk hR => hext.block k hk fun ⟨b, q, y, h1, _⟩ => (by cases h1), hext.drawn⟩, ⟨fun b k hk => ?_, fun b b' k k' r z z' h1 h2 _ _ => ?_⟩, fun k hk => .inl hk, fun k hk => Nat.lt_of_lt_of_le (himm k hk) hext.size⟩
    · have hb0 : b = 0 ∧ k = .cells (ps.map .pv) := by
        unfold heapOf at hk
        simp only [List.lookup] at hk
        split at hk
        · rename_i h; exact ⟨by simpa using h, (Option.some.inj hk).symm⟩
        · cases hk
      obtain ⟨rfl, rfl⟩ := hb0
      exact ⟨r, z, i1, i2, .inl ⟨0, _, z, rfl, i1⟩, hb.grows g1 (g.stays.same r (.inr rfl))⟩
    · have e0 : ∀ {b : Nat} {k : Blk}, heapOf [(0, Blk.cells (ps.map .pv))] b = some k → b = 0 := fun {b k} hk => by
        unfold heapOf at hk
        simp only [List.lookup] at hk
        split at hk
        · rename_i h; simpa using h
        · cases hk
      rw [e0 h1, e0 h2]
section
variable {E : Env} {T : Tab} {cq : Oper → Cls} {n : Nat}
end
end Go.Am
namespace Go.Am
section
variable {E : Env} {T : Tab} {n : Nat} {cq : Oper → Cls}
/-- A call, handed no block of one's own, that makes two blocks of no names (0 and 1), and answers what names them. -/
structure MapsCalls (P : Program) (f : FuncId) (avs : List AV) (av : AV) (k0 k1 : Blk) : Prop where
  fn : ∃ fn, P.funcs[f]? = some fn ∧ (fn.name == "runtime.NumGoroutine") = false ∧ fn.body.isNone = false
  args : AV.withinL (fun _ => false) avs = true
  res : av.within (fun b => b == 0 || b == 1) = true
  blk0 : k0.within (fun _ => false) = true
  blk1 : k1.within (fun _ => false) = true
  calls : ACalls P f [] avs [] av [(0, k0), (1, k1)]
theorem MapsCalls.of_body {P : Program} {T : Tab} (hT : TabOk P T) {f : FuncId} {fn : Func} {body : Code} (hf : P.funcs[f]? = some fn) (hb : fn.body = some body) (hn : (fn.name == "runtime.NumGoroutine") = false) {avs : List AV} {av : AV} {k0 k1 : Blk} (hl : decide (avs.length ≤ fn.ntmps) = true) (ha : AV.withinL (fun _ => false) avs = true) (hr : av.within (fun b => b == 0 || b == 1) = true) (h0 : k0.within (fun _ => false) = true) (h1 : k1.within (fun _ => false) = true) (hm : P.follows .mixedOrders = true)
    (h : ∀ E : Env, E.P = P → Cx E T fn.ntmps → E.I = [] → Awp E body (entry avs [] []) fun e st => (e = .ret ∨ e = .normal) ∧ resAV T st fn.results.toList = some av ∧ st.H 0 = some k0 ∧ st.H 1 = some k1) : MapsCalls P f avs av k0 k1 where
  fn := ⟨fn, hf, hn, by simp [hb]⟩
  args := ha
  res := hr
  blk0 := h0
  blk1 := h1
  calls := ACalls.of_body hT hf hb (by simpa using hl) fun E hP hE hI => (h E hP ⟨hP ▸ hT, hE, hP ▸ hm⟩ hI).mono fun e st ⟨h1, h2, h3, h4⟩ => ⟨h1, h2, fun x hx => by
    rcases List.mem_cons.1 hx with rfl | hx
    · exact h3
    · rw [List.mem_singleton.1 hx]; exact h4⟩
theorem rexec_callMaps {P : Program} (hP : E.P = P) (C : Cx E T n) {f : FuncId} {avs : List AV} {av : AV} {k0 k1 : Blk} {d : Nat} (d2 : Nat) {c : Call} {ty : TypeId} {pos : String} {af : Array Edge} {g : Option (Nat × Bool)} {st : St} {K : St → Prop} (h1 : dstB n ⟨some d, .call c, ty, pos, af, g⟩ = true) (hU : st.U d = false) (hU2 : st.U d2 = false) (hne : (d == d2) = false) (hc : c.callee = .value (.func f)) (hv : evls st.S c.args.toList = some avs)
    (F : MapsCalls P f avs av k0 k1) (h7 : K (st.after (some d) { v := av.ren (two d d2), new := [(d, k0), (d2, k1)] })) (hcl : clsOf cq ⟨some d, .call c, ty, pos, af, g⟩ ≠ .pure := by decide) (hft : footB (clsOf cq ⟨some d, .call c, ty, pos, af, g⟩) [] { v := av.ren (two d d2), new := [(d, k0), (d2, k1)] } = true := by rfl) : rexec E cq n ⟨some d, .call c, ty, pos, af, g⟩ st K := by
  subst hP
  obtain ⟨fn, q1, q2, q3⟩ := F.fn
  have hd : ∀ x, some d = some x → x < E.n := dst_lt C h1
  have hnd : d ≠ d2 := by simpa using hne
  let N : Names := ⟨fun b => b, [(d, 0), (d2, 1)]⟩
  have kn : ∀ b, Names.knows N [] b = (b == 0 || b == 1) := fun b => by
    simp [N, Names.knows, inI, BEq.comm]
  have kn' : Names.knows N [] = fun b => (b == 0 || b == 1) := funext kn
  have ok : CallOk N [] avs [] [(0, k0), (1, k1)] av := by
    refine { args := F.args, ids := fun x hx => (by cases hx), blks := fun x hx => (by cases hx), nodup := by simp, inj := fun b c hb => (by cases hb), nodupL := by simp [N, hnd], nodupR := by simp [N], fresh := fun x _ => rfl, res := ?_, res' := ?_, kept := fun x _ hx => (by cases hx), all := ?_, used := fun b hb => (by cases hb) }
    · rw [kn']; exact F.res
    · intro x hx
      rw [kn']
      rcases List.mem_cons.1 hx with rfl | hx
      · exact ⟨rfl, Blk.within_mono (fun b hb => by cases hb) k0 F.blk0⟩
      · rw [List.mem_singleton.1 hx]
        exact ⟨rfl, Blk.within_mono (fun b hb => by cases hb) k1 F.blk1⟩
    · intro x hx
      simp only [N, List.mem_cons, List.not_mem_nil, or_false] at hx
      rcases hx with rfl | rfl <;> rfl
  have hdo := does_call (E := E) (o := ⟨some d, .call c, ty, pos, af, g⟩) (c := c) rfl hc hd q1 q2 q3 F.calls ok (args := avs) (caps := []) (by rw [AV.renL_none avs F.args]; simp)
  have hτ0 : Names.τ N [] 0 = d := by simp [N, Names.τ, inI]
  have hτ1 : Names.τ N [] 1 = d2 := by simp [N, Names.τ, inI]
  have hav : av.ren (Names.τ N []) = av.ren (two d d2) := by
    refine AV.ren_congr (U := fun b => b == 0 || b == 1) (fun b hb => ?_) av F.res
    have : b = 0 ∨ b = 1 := by simpa using hb
    rcases this with rfl | rfl
    · exact hτ0
    · exact hτ1
  have he : Names.delta N [] [] [(0, k0), (1, k1)] av = { v := av.ren (two d d2), new := [(d, k0), (d2, k1)] } := by
    simp only [Names.delta, List.map_nil, hav, N, List.map_cons]
    have e0 : (heapOf [(0, k0), (1, k1)] 0).getD (.cells []) = k0 := rfl
    have e1 : (heapOf [(0, k0), (1, k1)] 1).getD (.cells []) = k1 := rfl
    rw [e0, e1, Blk.ren_none F.blk0, Blk.ren_none F.blk1]
  rw [he] at hdo
  have hops : (Op.operands (.call c)).toList = .func f :: c.args.toList := by simp [Op.operands, Call.operands, hc]
  refine ⟨h1, .fn f [] [] :: avs, [], _, { vals := ?_, deps := fun x hx => (by cases hx), fresh := ?_, does := hdo, reach := rfl, inV := ?_, inN := ?_, inW := fun x hx => (by cases hx), wr := fun x hx => (by cases hx), pure := fun h => absurd h hcl, quiet := fun _ => rfl, foot := hft }, h7⟩
  · show evls st.S (Op.operands (.call c)).toList = _
    rw [hops]; simp only [evls, evl, hv]
  · intro x hx
    rcases List.mem_cons.1 hx with rfl | hx
    · exact hU
    · rw [List.mem_singleton.1 hx]; exact hU2
  · refine AV.within_ren (U := fun b => b == 0 || b == 1) (fun b hb => ?_) av F.res
    have : b = 0 ∨ b = 1 := by simpa using hb
    rcases this with rfl | rfl <;> simp [two]
  · intro x hx
    rcases List.mem_cons.1 hx with rfl | hx
    · exact Blk.within_mono (fun b hb => by cases hb) k0 F.blk0
    · rw [List.mem_singleton.1 hx]
      exact Blk.within_mono (fun b hb => by cases hb) k1 F.blk1
end
end Go.Am
namespace Go.Am
/-- Eight whole numbers. -/
def eA8 (k : IntKind) : Enc (Nat → Int) := ⟨8, fun f => [.lit (.int k (f 0)), .lit (.int k (f 1)), .lit (.int k (f 2)), .lit (.int k (f 3)), .lit (.int k (f 4)), .lit (.int k (f 5)), .lit (.int k (f 6)), .lit (.int k (f 7))], fun _ => rfl⟩
end Go.Am
namespace Go.Am
section
variable {E : Env} {T : Tab}
variable {cq : Oper → Cls} {n : Nat}
end
end Go.Am
namespace Go.Am
section
variable {E : Env} {T : Tab} {n : Nat} {cq : Oper → Cls}
end
end Go.Am
namespace Go.Am
section
variable {E : Env} {T : Tab} {n : Nat} {cq : Oper → Cls}
end
end Go.Am
namespace Go.Am
open Go.Sort
/-- A world in which a row holds other values, later, with more behind all. -/
def sw {α : Type} [Inhabited α] (enc : α → Value) (w : World) (blk off m : Nat) (d : Array α) (os : Array Obj) : World := Go.Sort.grow (putRow enc (Go.Sort.ahead w m) blk off d) os
section
variable {α : Type} [Inhabited α] {enc : α → Value} {w : World} {blk off m : Nat} {d : Array α} {os : Array Obj}
theorem sw_other {k : Nat} (hk : k < w.heap.size) (hne : k ≠ blk) : (sw enc w blk off m d os).heap[k]? = w.heap[k]? := by
  show ((w.heap.modify blk _) ++ os)[k]? = _
  rw [Array.getElem?_append_left (by simpa using hk), Array.getElem?_modify, if_neg (Ne.symm hne)]
theorem sw_row {c : Array Value} {e : TypeId} {f : Nat × Nat} (hb : w.heap[blk]? = some (.cells c e f)) : (sw enc w blk off m d os).heap[blk]? = some (.cells (Go.Sort.putCells enc off d c) e f) := by
  have hk : blk < w.heap.size := by
    rcases Nat.lt_or_ge blk w.heap.size with h | h
    · exact h
    · rw [Array.getElem?_eq_none h] at hb; cases hb
  show ((w.heap.modify blk _) ++ os)[blk]? = _
  rw [Array.getElem?_append_left (by simpa using hk), Array.getElem?_modify, if_pos rfl, hb]
  rfl
theorem putCells_size' (c : Array Value) : (Go.Sort.putCells enc off d c).size = c.size := by simp [Go.Sort.putCells]
theorem putCells_get {c : Array Value} {j : Nat} (hj : j < d.size) (hc : off + j < c.size) : (Go.Sort.putCells enc off d c)[off + j]? = some (enc d[j]!) := by
  unfold Go.Sort.putCells
  rw [Array.getElem?_mapIdx, Array.getElem?_eq_getElem hc, Option.map_some, if_pos ⟨by omega, by omega⟩, show off + j - off = j by omega]
theorem sw_size : w.heap.size ≤ (sw enc w blk off m d os).heap.size := by
  show _ ≤ ((w.heap.modify blk _) ++ os).size
  simp
theorem sw_grows {ι : Nat → Option (Nat × Nat)} {imm : Nat → Prop} (hi : ∀ k, imm k → k < w.heap.size) (hb : ¬ imm blk) : Grows ι ι imm imm w (sw enc w blk off m d os) := by
  refine ⟨fun _ _ h => h, ⟨fun _ h => h, fun k hk => sw_other (hi k hk) (fun e => hb (e ▸ hk))⟩, fun r c e f hr => ?_⟩
  by_cases h : r = blk
  · subst h
    exact ⟨_, f, sw_row hr, putCells_size' c⟩
  · have hlt : r < w.heap.size := by
      rcases Nat.lt_or_ge r w.heap.size with h | h
      · exact h
      · rw [Array.getElem?_eq_none h] at hr; cases hr
    exact ⟨c, f, by rw [sw_other hlt h]; exact hr, rfl⟩
end
/-- A world in which nothing has changed but draws, and what lies behind all. -/
theorem ext_grow {w w' : World} (h : Ext (fun _ => False) w w') : ∃ q os, w' = Go.Sort.grow (w.drewN q) os := by
  refine ⟨w'.drawn - w.drawn, w'.heap.extract w.heap.size w'.heap.size, ?_⟩
  have hh : w'.heap = w.heap ++ w'.heap.extract w.heap.size w'.heap.size := by
    apply Array.ext_getElem?
    intro k
    rcases Nat.lt_or_ge k w.heap.size with hk | hk
    · rw [Array.getElem?_append_left hk, h.block k hk (fun h => h)]
    · rw [Array.getElem?_append_right hk, Array.getElem?_extract]
      split
      · congr 1; omega
      · rename_i hlt
        rw [Array.getElem?_eq_none (by omega)]
  have hd : w'.drawn = w.drawn + (w'.drawn - w.drawn) := by have := h.drawn; omega
  have h1 := h.os
  have h2 := h.tape
  have h3 := h.output
  cases w'
  cases w
  simp only [Go.Sort.grow, World.drewN] at *
  subst h1 h2 h3
  simp only [World.mk.injEq, true_and, and_true]
  exact ⟨hh, hd⟩
end Go.Am
namespace Go.Am
/-- What Go's library's sort of elements of k cells does, in a program P, as function f: the kit's own words. -/
def SortsK (P : Program) (f : FuncId) {α : Type} [Inhabited α] (enc : α → List Value) (k : Nat) (cf : α → α → Int) (srt : Array α → Array α) : Prop :=
  ∀ (g : Nat) (cb : Array Value) (blk off cap : Nat) (d : Array α) (w : World), (∀ args w, (callFunc g args).run P w = .ok (.enter g args) w) →
    (∀ (m : Nat) (os : Array Obj) (dk : Array α), dk.size = d.size → ∀ x y : α, Calls P g (#[.agg (enc x).toArray, .agg (enc y).toArray] ++ cb) (sw id w blk off m (Go.Sort.flatK enc k dk) os) fun e w' => e = .returned (.int .i64 (cf x y)) ∧ ∃ q os', w' = Go.Sort.grow ((sw id w blk off m (Go.Sort.flatK enc k dk) os).drewN q) os') →
    Go.Sort.Holds id w blk off (Go.Sort.flatK enc k d) → blk < w.heap.size → d.size < 4611686018427387904 →
    Calls P f #[.slice (some ⟨blk, off, none⟩) d.size cap, .func (.func g) #[] cb] w fun e w' => e = .returned (.tuple #[]) ∧ ∃ n os, w' = sw id w blk off n (Go.Sort.flatK enc k (srt d)) os
/-- A literal's value. -/
def litOf : PV → Value
  | .lit v => v
  | _ => .int .i64 0
/-- Cells that hold literals alone. -/
def allLits (ps : List PV) : Prop := ∀ p ∈ ps, p = .lit (litOf p) ∧ flatB (litOf p) = true
theorem cells_of_lits {ι : Nat → Option (Nat × Nat)} {imm : Nat → Prop} {w : World} {c : Array Value} : ∀ (ps : List PV) (z : Nat), allLits ps → (∀ j, j < ps.length → c[z + j]? = some (ps.map litOf)[j]!) → CellsH ι imm w c (ps.map .pv) z
  | [], _, _, _ => trivial
  | p :: ps, z, hl, h => by
    have hp := hl p List.mem_cons_self
    refine ⟨⟨litOf p, by simpa using h 0 (by simp), ?_⟩, cells_of_lits ps (z + 1) (fun q hq => hl q (List.mem_cons_of_mem _ hq)) fun j hj => ?_⟩
    · rw [hp.1]; simp only [VH, PH]; exact ⟨rfl, hp.2⟩
    · have := h (j + 1) (by simpa using hj)
      rw [show z + 1 + j = z + (j + 1) by omega, this]
      simp
theorem lits_of_cells {ι : Nat → Option (Nat × Nat)} {imm : Nat → Prop} {w : World} {c : Array Value} : ∀ (ps : List PV) (z : Nat), allLits ps → CellsH ι imm w c (ps.map .pv) z → ∀ j, j < ps.length → c[z + j]? = some (ps.map litOf)[j]!
  | [], _, _, _, j, hj => by simp at hj
  | p :: ps, z, hl, h, j, hj => by
    have hp := hl p List.mem_cons_self
    obtain ⟨⟨v, h1, h2⟩, h3⟩ := h
    rw [hp.1] at h2
    cases j with
    | zero =>
      simp only [VH, PH] at h2
      rw [Nat.add_zero, h1, h2.1]; simp
    | succ j =>
      rw [show z + (j + 1) = z + 1 + j by omega, lits_of_cells ps (z + 1) (fun q hq => hl q (List.mem_cons_of_mem _ hq)) h3 j (by simpa using hj)]
      simp
theorem encL_get {α : Type} {e : Enc α} : ∀ (D : List α) (j t : Nat) (x : α), D[j]? = some x → t < e.sz → (encL e D)[j * e.sz + t]? = (e.enc x)[t]?
  | [], _, _, _, h, _ => by simp at h
  | y :: ys, 0, t, x, h, ht => by
    simp only [List.getElem?_cons_zero, Option.some.injEq] at h
    subst h
    have e1 : encL e (y :: ys) = e.enc y ++ encL e ys := by simp [encL]
    rw [e1, Nat.zero_mul, Nat.zero_add, List.getElem?_append_left (by rw [e.len]; exact ht)]
  | y :: ys, j + 1, t, x, h, ht => by
    have e1 : encL e (y :: ys) = e.enc y ++ encL e ys := by simp [encL]
    rw [List.getElem?_cons_succ] at h
    rw [e1, List.getElem?_append_right (by rw [e.len, Nat.add_mul]; omega), e.len, show (j + 1) * e.sz + t - e.sz = j * e.sz + t by rw [Nat.add_mul]; omega]
    exact encL_get ys j t x h ht
theorem encL_length {α : Type} {e : Enc α} : ∀ (D : List α), (encL e D).length = D.length * e.sz
  | [] => by simp [encL]
  | y :: ys => by
    have e1 : encL e (y :: ys) = e.enc y ++ encL e ys := by simp [encL]
    rw [e1, List.length_append, e.len, encL_length ys, List.length_cons, Nat.add_mul]; omega
theorem flat_eq {α : Type} [Inhabited α] {e : Enc α} (D : List α) : (Go.Sort.flatK (fun x => (e.enc x).map litOf) e.sz D.toArray).toList = (encL e D).map litOf := by
  apply List.ext_getElem?
  intro i
  by_cases hi : i < D.length * e.sz
  · have hpos : 0 < e.sz := Nat.pos_of_ne_zero fun h => by rw [h] at hi; simp at hi
    have hj : i / e.sz < D.length := Nat.div_lt_of_lt_mul (by rw [Nat.mul_comm]; exact hi)
    have ht : i % e.sz < e.sz := Nat.mod_lt _ hpos
    have hx : D[i / e.sz]? = some (D[i / e.sz]'hj) := List.getElem?_eq_getElem hj
    have h1 := encL_get (e := e) D (i / e.sz) (i % e.sz) _ hx ht
    rw [show i / e.sz * e.sz + i % e.sz = i from by rw [Nat.mul_comm]; exact Nat.div_add_mod i e.sz] at h1
    rw [List.getElem?_map, h1]
    have hl : i % e.sz < (e.enc (D[i / e.sz]'hj)).length := by rw [e.len]; exact ht
    rw [List.getElem?_eq_getElem hl]
    have hsz : i < (Go.Sort.flatK (fun x => (e.enc x).map litOf) e.sz D.toArray).size := by rw [Go.Sort.size_flatK]; simpa using hi
    rw [Array.getElem?_toList, Array.getElem?_eq_getElem hsz]
    have h2 := Go.Sort.get_flatK (fun x => (e.enc x).map litOf) e.sz D.toArray i (by simpa using hi)
    rw [getElem!_pos (Go.Sort.flatK (fun x => (e.enc x).map litOf) e.sz D.toArray) i hsz] at h2
    rw [h2]
    have h3 : D.toArray[i / e.sz]! = D[i / e.sz]'hj := by rw [getElem!_pos D.toArray (i / e.sz) (by simpa using hj)]; simp
    rw [h3]
    show some (((e.enc (D[i / e.sz]'hj)).map litOf)[i % e.sz]!) = _
    rw [getElem!_pos ((e.enc (D[i / e.sz]'hj)).map litOf) (i % e.sz) (by rw [List.length_map]; exact hl)]
    simp
  · rw [List.getElem?_eq_none (by rw [Array.length_toList, Go.Sort.size_flatK]; simpa using hi), List.getElem?_eq_none (by rw [List.length_map, encL_length]; omega)]
theorem flat_get {α : Type} [Inhabited α] {e : Enc α} (D : List α) (j : Nat) (hj : j < D.length * e.sz) : (Go.Sort.flatK (fun x => (e.enc x).map litOf) e.sz D.toArray)[j]! = ((encL e D).map litOf)[j]! := by
  rw [← flat_eq D, getElem!_pos (Go.Sort.flatK (fun x => (e.enc x).map litOf) e.sz D.toArray) j (by rw [Go.Sort.size_flatK]; simpa using hj), getElem!_pos (Go.Sort.flatK (fun x => (e.enc x).map litOf) e.sz D.toArray).toList j (by rw [Array.length_toList, Go.Sort.size_flatK]; simpa using hj)]
  simp
theorem allLits_encL {α : Type} {e : Enc α} (h : ∀ x, allLits (e.enc x)) : ∀ (D : List α), allLits (encL e D)
  | [] => fun p hp => by simp [encL] at hp
  | y :: ys => fun p hp => by
    have e1 : encL e (y :: ys) = e.enc y ++ encL e ys := by simp [encL]
    rw [e1] at hp
    rcases List.mem_append.1 hp with hp | hp
    · exact h y p hp
    · exact allLits_encL h ys p hp
theorem vhs_lits {ι : Nat → Option (Nat × Nat)} {imm : Nat → Prop} {w : World} : ∀ (ps : List PV), allLits ps → VHs ι imm w (ps.map .pv) (ps.map litOf)
  | [], _ => rfl
  | p :: ps, h => by
    have hp := h p List.mem_cons_self
    refine ⟨litOf p, ps.map litOf, rfl, ?_, vhs_lits ps fun q hq => h q (List.mem_cons_of_mem _ hq)⟩
    rw [hp.1]; simp only [VH, PH]; exact ⟨rfl, hp.2⟩
theorem sortK_calls {P : Program} {f : FuncId} {fn0 : Func} (hfn : P.funcs[f]? = some fn0) (hn0 : (fn0.name == "runtime.NumGoroutine") = false) (hb0 : fn0.body.isNone = false) {α : Type} [Inhabited α] {e : Enc α} (hlit : ∀ x, allLits (e.enc x)) {cf : α → α → Int} {srt : Array α → Array α} (hs : ∀ d, (srt d).size = d.size) (S : SortsK P f (fun x => (e.enc x).map litOf) e.sz cf srt)
    (D : List α) (tt : Bool) (hD : D.length < 4611686018427387904) (g : Nat) (caps : List AV) (hp : ∀ x y : α, PCalls P g ([.agg ((e.enc x).map .pv), .agg ((e.enc y).map .pv)] ++ caps) (.pv (.lit (.int .i64 (cf x y))))) (hw : AV.withinL (fun _ => false) caps = true) (x0 : α) :
    MCalls P f [.sl 0 0 D.length e.sz tt, .fn g [] caps] (.cells (encC e D)) (.tup []) (.cells (encC e (srt D.toArray).toList)) where
  fn := ⟨fn0, hfn, hn0, hb0⟩
  args := by simp [AV.withinL, AV.within, withinL0 hw]
  res := rfl
  blk := encC_within _ _
  blk' := encC_within _ _
  calls := by
    intro ι imm w M vs hH hv hi hb
    obtain ⟨v1, us1, rfl, hv1, hv⟩ := hv
    obtain ⟨v2, us2, rfl, hv2, hv⟩ := hv
    simp only [VHs] at hv
    subst hv
    simp only [VH] at hv1 hv2
    obtain ⟨r, z, cap, i0, rfl, hncap, _, _⟩ := hv1
    obtain ⟨vs0, us, rfl, h0, hcaps⟩ := hv2
    simp only [VHs] at h0
    subst h0
    obtain ⟨r', z', i0', him, hM, c, et, fr, hc, hle, hfz, hcells⟩ := hH.blk 0 (.cells (encC e D)) rfl
    rw [i0] at i0'
    injection i0' with i0'
    injection i0' with e1 e2
    subst e1 e2
    have hrlt : r < w.heap.size := by
      rcases Nat.lt_or_ge r w.heap.size with h | h
      · exact h
      · rw [Array.getElem?_eq_none h] at hc; cases hc
    rw [encC_len] at hle
    have hsz : D.toArray.size = D.length := by simp
    have hfs : ∀ d : Array α, (Go.Sort.flatK (fun x => (e.enc x).map litOf) e.sz d).size = d.size * e.sz := fun d => Go.Sort.size_flatK _ _ _
    have hholds : Go.Sort.Holds id w r (z + 0) (Go.Sort.flatK (fun x => (e.enc x).map litOf) e.sz D.toArray) := fun j hj => by
      rw [hfs, hsz] at hj
      have := lits_of_cells (encL e D) z (allLits_encL hlit D) hcells j (by rw [encL_length]; exact hj)
      refine ⟨?_, ?_⟩
      · rw [Nat.add_zero, cell_of_heap hc, this, flat_get D j hj]; rfl
      · simp only [World.frozen?, hc]
        have := hfz (z + 0 + j)
        simp only [Bool.and_eq_false_iff, decide_eq_false_iff_not]
        by_cases h1 : fr.1 ≤ z + 0 + j
        · exact .inr fun h2 => this ⟨h1, h2⟩
        · exact .inl h1
    obtain ⟨gfn, g1, g2, g3⟩ := (hp x0 x0).fn
    have eg : ∀ args w, (callFunc g args).run P w = .ok (.enter g args) w := by
      intro args w
      have h1 : gfn.name ≠ "runtime.NumGoroutine" := by simpa using g2
      cases hbd : gfn.body with
      | none => rw [hbd] at g3; cases g3
      | some b => simp [callFunc, g1, h1, hbd, mark]
    have hcmp : ∀ (m : Nat) (os : Array Obj) (dk : Array α), dk.size = D.toArray.size → ∀ x y : α, Calls P g (#[.agg ((e.enc x).map litOf).toArray, .agg ((e.enc y).map litOf).toArray] ++ List.toArray us) (sw id w r (z + 0) m (Go.Sort.flatK (fun x => (e.enc x).map litOf) e.sz dk) os) fun e' w' => e' = .returned (.int .i64 (cf x y)) ∧ ∃ q os', w' = Go.Sort.grow ((sw id w r (z + 0) m (Go.Sort.flatK (fun x => (e.enc x).map litOf) e.sz dk) os).drewN q) os' := by
      intro m os dk _ x y
      have hgr := sw_grows (enc := id) (off := z + 0) (m := m) (d := Go.Sort.flatK (fun x => (e.enc x).map litOf) e.sz dk) (os := os) (ι := ι) hi him
      generalize sw id w r (z + 0) m (Go.Sort.flatK (fun x => (e.enc x).map litOf) e.sz dk) os = W at hgr ⊢
      have hc2 : VHs (fun _ => none) imm W caps us := VHs.lone hw (VHs.grows hgr _ _ hcaps)
      have hlt : ∀ k, imm k → k < W.heap.size := fun k hk => by
        have h1 := hgr.stays.same k hk
        rcases Nat.lt_or_ge k W.heap.size with h | h
        · exact h
        · rw [Array.getElem?_eq_none h, Array.getElem?_eq_getElem (hi k hk)] at h1; cases h1
      have harg : (#[Value.agg ((e.enc x).map litOf).toArray, Value.agg ((e.enc y).map litOf).toArray] ++ List.toArray us) = List.toArray (Value.agg ((e.enc x).map litOf).toArray :: Value.agg ((e.enc y).map litOf).toArray :: us) := by simp
      rw [harg]
      refine ((hp x y).calls (fun _ => none) imm W (fun _ => False) _ ⟨fun b k h => (by cases h), fun b b' k k' r z z' h => (by cases h)⟩ ⟨_, _, rfl, ⟨_, rfl, vhs_lits _ (hlit x)⟩, _, _, rfl, ⟨_, rfl, vhs_lits _ (hlit y)⟩, hc2⟩ hlt (fun b x h => by cases h)).mono ?_
      rintro e' w' ⟨v, ι', imm', rfl, hv, _, hext, _⟩
      simp only [VH, PH] at hv
      refine ⟨by rw [hv.1], ext_grow ⟨hext.os, hext.tape, hext.output, hext.size, fun k hk _ => hext.block k hk (fun hR => ?_), hext.drawn⟩⟩
      obtain ⟨b, kk, zz, h1, _⟩ := hR
      cases h1
    have main := S g (List.toArray us) r (z + 0) cap D.toArray w eg hcmp hholds hrlt (by rw [hsz]; exact hD)
    rw [hsz] at main
    refine main.mono ?_
    rintro e' w' ⟨rfl, n, os, rfl⟩
    have hgr := sw_grows (enc := id) (off := z + 0) (m := n) (d := Go.Sort.flatK (fun x => (e.enc x).map litOf) e.sz (srt D.toArray)) (os := os) (ι := ι) hi him
    refine ⟨_, ι, imm, rfl, ⟨[], rfl, rfl⟩, hgr, ⟨rfl, rfl, rfl, sw_size, fun k hk hR => sw_other hk fun e => hR ⟨0, _, z, rfl, e ▸ i0⟩, Nat.le_add_right _ _⟩, ⟨fun b k hk => ?_, fun b b' k k' r1 z1 z2 hk hk' _ _ => ?_⟩, fun k hk => .inl hk, fun k hk => Nat.lt_of_lt_of_le (hi k hk) sw_size⟩
    · have hb0 : b = 0 ∧ k = .cells (encC e (srt D.toArray).toList) := by
        by_cases h : b = 0
        · subst h; exact ⟨rfl, (Option.some.inj hk).symm⟩
        · have : (b == 0) = false := by simpa using h
          simp only [heapOf, List.lookup, this] at hk; cases hk
      obtain ⟨rfl, rfl⟩ := hb0
      have hl2 : (srt D.toArray).toList.length = D.length := by rw [Array.length_toList, hs, hsz]
      refine ⟨r, z, i0, him, .inl ⟨0, _, z, rfl, i0⟩, Go.Sort.putCells id (z + 0) (Go.Sort.flatK (fun x => (e.enc x).map litOf) e.sz (srt D.toArray)) c, et, fr, sw_row hc, by rw [encC_len, hl2, putCells_size']; exact hle, hfz, cells_of_lits _ _ (allLits_encL hlit _) fun j hj => ?_⟩
      rw [encL_length, hl2] at hj
      have := putCells_get (enc := id) (off := z + 0) (d := Go.Sort.flatK (fun x => (e.enc x).map litOf) e.sz (srt D.toArray)) (c := c) (j := j) (by rw [hfs, hs, hsz]; exact hj) (by omega)
      rw [show z + j = z + 0 + j by omega, this]
      have e1 := flat_get (e := e) (srt D.toArray).toList j (by rw [hl2]; exact hj)
      rw [Array.toArray_toList] at e1
      rw [e1]; rfl
    · have h1 : ∀ b k, heapOf [(0, Blk.cells (encC e (srt D.toArray).toList))] b = some k → b = 0 := fun b k hk => by
        by_cases h : b = 0
        · exact h
        · have : (b == 0) = false := by simpa using h
          simp only [heapOf, List.lookup, this] at hk; cases hk
      rw [h1 _ _ hk, h1 _ _ hk']
end Go.Am
namespace Go.Am
section ops
variable {E : Env} {T : Tab}
end ops
section steps
variable {E : Env} {T : Tab} {cq : Oper → Cls} {n : Nat}
end steps
end Go.Am
namespace Go.Am
section ops
variable {E : Env} {T : Tab}
theorem does_clearS (hT : TabOk E.P T) {o : Oper} {c : Call} {t : TypeId} (ho : o.op = .call c) (hc : c.callee = .builtin .clear) (hty : c.argTypes = #[t]) (hd : ∀ d, o.dst = some d → d < E.n) {r re : TyRow} (hr : T.lookup t = some r) {e : TypeId} (hdesc : r.desc = .slice e) (hre : T.lookup e = some re)
    {b k n : Nat} {tt : Bool} {cs : List AV} (hfit : k + n * re.size = cs.length) (hzs : re.zero.cells.size = re.size) (hzf : ∀ v ∈ re.zero.cells.toList, single v) (hn : 0 < n) :
    Does E o [.sl b k n re.size tt] [(b, .cells cs)] { v := .tup [], wr := [(b, some (.cells (cs.take k)))] } := by
  intro ι imm st a w Q hs hv hh _
  have hvs := hs.evls hv
  have hops : o.op.operands.toList = c.args.toList := by rw [ho]; simp [Op.operands, Call.operands, hc]
  rw [hops] at hvs
  obtain ⟨v1, us1, he, hv1, hvs⟩ := hvs
  simp only [VHs] at hvs
  subst hvs
  have hargs : c.args.map a.eval = #[v1] := by apply Array.ext'; simpa using he
  simp only [VH] at hv1
  obtain ⟨q, z, cap, hi, rfl, hncap, _, cS, eS, fS, hS, hSz⟩ := hv1
  have hb := hh _ (List.mem_cons_self ..)
  obtain ⟨cc, ee, f, h1, h2, h3, h4, _⟩ := hs.heap.cells hb hi
  have hzl : (Builtin.zeroCells re.zero.cells n).toList.length = n * re.size := by simp [Builtin.zeroCells, hzs]
  have hsing : ∀ v ∈ (Builtin.zeroCells re.zero.cells n).toList, single v := fun v hv => by
    simp only [Builtin.zeroCells, Array.toList_map, List.mem_map] at hv
    obtain ⟨j, hj, rfl⟩ := hv
    have hlt : j < n * re.zero.cells.size := by simpa using hj
    have hpos : 0 < re.zero.cells.size := Nat.pos_of_ne_zero fun h0 => by rw [h0] at hlt; simp at hlt
    have hm : j % re.zero.cells.size < re.zero.cells.size := Nat.mod_lt _ hpos
    rw [getElem!_pos re.zero.cells _ hm]
    exact hzf _ (Array.mem_toList_iff.2 (Array.getElem_mem hm))
  obtain ⟨w', h5, h6⟩ := run_storeCells (P := E.P) (Builtin.zeroCells re.zero.cells n).toList (z + k) 0 h1 (by rw [hzl]; omega) (fun o _ => h3 o) hsing
  have hexec : (execOp a.eval o).run E.P w = .ok (.value (.tuple #[])) w' := by
    have h7 : (Builtin.clear_ #[t] o.type #[.slice (some ⟨q, z + k, none⟩) n cap]).run E.P w = .ok (.tuple #[]) w' := by
      simp only [Builtin.clear_, List.getElem?_toArray, List.getElem?_cons_zero]
      rw [run_bind', run_underlying hT hr]
      simp only [hdesc]
      obtain ⟨n', rfl⟩ : ∃ n', n = n' + 1 := ⟨n - 1, by omega⟩
      simp only [run_bind', run_zeroValue hT hre, h5, run_pure']
    simp only [execOp, ho, resolve, hc, run_bind', run_pure', invoke, builtin, hargs, hty, h7]
  unfold Oper.wp
  rw [hexec, Oper.upon_value]
  have hund : ∀ us : List Value, VHs ι imm w (List.replicate us.length AV.undef) us := fun us => by
    induction us with
    | nil => rfl
    | cons u us ih => exact ⟨u, us, rfl, trivial, ih⟩
  have hput := CellsH.put (k := k) (c' := putCells cc (z + k + 0) (Builtin.zeroCells re.zero.cells n).toList) h4 (hund _) (by rw [List.length_replicate, hzl]; omega) (by rw [Nat.add_zero]) h2
  have hput2 : CellsH ι imm w (putCells cc (z + k + 0) (Builtin.zeroCells re.zero.cells n).toList) (cs.take k) z := by
    unfold setRange at hput
    rw [List.append_assoc] at hput
    exact hput.left
  have hsr := hs.write hb hi h1 h6 (putCells_size _ _ _) (by rw [List.length_take]; omega) hput2 (.tup [])
  exact ⟨ι, imm, hsr.put o.dst hd (show VH ι imm w' (.tup []) (.tuple #[]) from ⟨[], rfl, rfl⟩)⟩
end ops
section steps
variable {E : Env} {T : Tab} {cq : Oper → Cls} {n : Nat}
theorem rexec_clearS (C : Cx E T n) {d : Option Nat} {c : Call} {t : TypeId} {ty : TypeId} {pos : String} {af : Array Edge} {g : Option (Nat × Bool)} {st : St} {K : St → Prop} (hc : c.callee = .builtin .clear) (hty : c.argTypes = #[t]) (h1 : dstB n ⟨d, .call c, ty, pos, af, g⟩ = true) {r re : TyRow} (hr : T.lookup t = some r) {e : TypeId} (hdesc : r.desc = .slice e) (hre : T.lookup e = some re)
    {b k m : Nat} {tt : Bool} {cs : List AV} (cs' : List AV) (hv : evls st.S c.args.toList = some [.sl b k m re.size tt]) (hb : st.H b = some (.cells cs)) (hfit : k + m * re.size = cs.length) (hzs : re.zero.cells.size = re.size) (hzf : ∀ v ∈ re.zero.cells.toList, single v) (hn : 0 < m)
    (hcs' : cs.take k = cs')
    (h7 : K (st.after d { v := .tup [], wr := [(b, some (.cells cs'))] })) (hre' : reachB [.sl b k m re.size tt] [] [(b, .cells cs)] = true) (hcl : clsOf cq ⟨d, .call c, ty, pos, af, g⟩ = .writer := by rfl) : rexec E cq n ⟨d, .call c, ty, pos, af, g⟩ st K := by
  subst hcs'
  have hd : ∀ x, d = some x → x < E.n := fun x e => by
    simp only [dstB, e, decide_eq_true_eq] at h1
    exact C.n ▸ h1
  have hdo := does_clearS C.tab (o := ⟨d, .call c, ty, pos, af, g⟩) rfl hc hty hd hr hdesc hre (b := b) (k := k) (n := m) (tt := tt) (cs := cs) hfit hzs hzf hn
  have hops : (Op.operands (.call c)).toList = c.args.toList := by simp [Op.operands, Call.operands, hc]
  have hself : ∀ x ∈ [(b, Blk.cells cs)], x.2.within (fun b' => refs [.sl b k m re.size tt] [(b, .cells cs)] b') = true := fun x hx => within_self_blk _ _ x hx
  refine ⟨h1, _, _, _, { vals := ?_, deps := ?_, fresh := ?_, does := hdo, reach := hre', inV := rfl, inN := ?_, inW := ?_, wr := ?_, pure := fun h => ?_, quiet := fun h => ?_, foot := by rw [hcl]; rfl }, h7⟩
  · show evls st.S (Op.operands (.call c)).toList = _
    rw [hops]; exact hv
  · intro x hx
    simp only [List.mem_singleton] at hx
    subst hx; exact hb
  · intro x hx; cases hx
  · intro x hx; cases hx
  · intro x hx k' hk
    simp only [List.mem_singleton] at hx
    subst hx
    simp only [Option.some.injEq] at hk
    subst hk
    simp only [Blk.within]
    refine within_sub ?_ fun x hx => List.mem_of_mem_take hx
    refine AV.withinL_mono (U := fun b' => refs [.sl b k m re.size tt] [(b, .cells cs)] b') (fun b hb => by simp [hb]) cs ?_
    exact hself (b, .cells cs) (List.mem_cons_self ..)
  · intro x hx
    simp only [List.mem_singleton] at hx
    subst hx
    simp [refs, AV.withinL, AV.within]
  · rw [hcl] at h; cases h
  · rw [hcl] at h; cases h
theorem rexec_fromOwn (C : Cx E T n) {d : Option Nat} {t ty : TypeId} {x lo : Operand} {pos : String} {af : Array Edge} {g : Option (Nat × Bool)} {st : St} {K : St → Prop} {b n0 sz : Nat} {tt : Bool} {k : IntKind} {z : Int} (h1 : dstB n ⟨d, .slice t x (some lo) none none, ty, pos, af, g⟩ = true)
    (hx : evl st.S x = some (.sl b 0 n0 sz tt)) (hz : evl st.S lo = some (.pv (.lit (.int k z)))) {r re : TyRow} (hr : T.lookup t = some r) {te : TypeId} (hdesc : r.desc = .slice te) (hre : T.lookup te = some re) (hs : sz = re.size) (hle : 0 ≤ z ∧ z < (n0 : Int))
    (h7 : K (st.after d { v := .sl b (z.toNat * sz) (n0 - z.toNat) sz false })) : rexec E cq n ⟨d, .slice t x (some lo) none none, ty, pos, af, g⟩ st K := by
  refine rexec_value C h1 (xs := [x, lo]) (by simp [Op.operands]) (vs := [.sl b 0 n0 sz tt, .pv (.lit (.int k z))]) (by simp only [evls, hx, hz]) (fun hd => ?_) (fun U hU => ?_) h7
  · have hdo := does_slice (H := st.H) C.tab (o := ⟨d, .slice t x (some lo) none none, ty, pos, af, g⟩) (lo := some lo) (hi := none) (mx := none) rfl hd hr (vs := [.pv (.lit (.int k z))]) (v1 := []) (v2 := []) (v3 := []) (l := some z) (h := none) (m := none) rfl rfl rfl (u := .sl b 0 n0 sz tt)
      (z := .sl b (0 + z.toNat * sz) ((n0 : Int).toNat - z.toNat) sz (decide ((n0 : Int) = (n0 : Int)) && (Option.isSome (none : Option Int) || tt))) (hs := []) (p := (0 ≤ z ∧ z ≤ (n0 : Int)) ∧ (z = 0 ∨ z < (n0 : Int))) (by simp only [sliceAV, hdesc, hre, hs, if_true, cutOf, Option.getD_some]) ⟨⟨hle.1, Int.le_of_lt hle.2⟩, .inr hle.2⟩
    intro ι imm st' a w Q q1 q2 q3 q4
    refine Oper.wp_mono (fun a' w' h => ?_) (hdo ι imm st' a w Q q1 q2 q3 q4)
    obtain ⟨ι', imm', h⟩ := h
    refine ⟨ι', imm', h.weakV (v' := .sl b (z.toNat * sz) (n0 - z.toNat) sz false) fun u hu => ?_⟩
    have e1 : 0 + z.toNat * sz = z.toNat * sz := Nat.zero_add _
    have e2 : (n0 : Int).toNat - z.toNat = n0 - z.toNat := by simp
    have hu : VH ι' imm' w' (.sl b (0 + z.toNat * sz) ((n0 : Int).toNat - z.toNat) sz (decide ((n0 : Int) = (n0 : Int)) && (Option.isSome (none : Option Int) || tt))) u := hu
    rw [e1, e2] at hu
    exact Am.loose hu
  · simp only [AV.withinL, AV.within, Bool.and_eq_true] at hU ⊢
    exact hU.1
end steps
end Go.Am
namespace Go.Am
/-- One text of bytes stands ahead of another one. -/
def ll : List Int → List Int → Bool
  | _, [] => false
  | [], _ :: _ => true
  | a :: x, b :: y => decide (a < b) || (a == b && ll x y)
theorem ll_cons (a : Int) (x : List Int) (b : Int) (y : List Int) : ll (a :: x) (b :: y) = (decide (a < b) || (a == b && ll x y)) := by rw [ll]
def B8 (D : List Int) : Prop := ∀ x ∈ D, 0 ≤ x ∧ x < 256
def u8 (x : Int) : UInt8 := UInt8.ofNat x.toNat
theorem B8.cons {a : Int} {D : List Int} (h : B8 (a :: D)) : (0 ≤ a ∧ a < 256) ∧ B8 D := ⟨h a (by simp), fun x hx => h x (by simp [hx])⟩
theorem ll_irrefl : ∀ A : List Int, ll A A = false
  | [] => rfl
  | a :: x => by rw [ll_cons]; simp [ll_irrefl x]
theorem ll_trans : ∀ {A B C : List Int}, ll A B = true → ll B C = true → ll A C = true
  | _, [], _, h, _ => by simp [ll] at h
  | _, _ :: _, [], _, h => by simp [ll] at h
  | [], _ :: _, _ :: _, _, _ => rfl
  | a :: x, b :: y, c :: z, h1, h2 => by
    rw [ll_cons] at h1 h2 ⊢
    simp only [Bool.or_eq_true, decide_eq_true_eq, Bool.and_eq_true, beq_iff_eq] at h1 h2 ⊢
    rcases h1 with h1 | ⟨h1, h1'⟩ <;> rcases h2 with h2 | ⟨h2, h2'⟩
    · exact .inl (by omega)
    · exact .inl (by omega)
    · exact .inl (by omega)
    · exact .inr ⟨by omega, ll_trans h1' h2'⟩
theorem ll_tri : ∀ {A B : List Int}, ll A B = false → A ≠ B → ll B A = true
  | [], [], _, h => absurd rfl h
  | _ :: _, [], _, _ => rfl
  | [], _ :: _, h, _ => by simp [ll] at h
  | a :: x, b :: y, h1, h2 => by
    rw [ll_cons] at h1 ⊢
    simp only [Bool.or_eq_false_iff, decide_eq_false_iff_not, Bool.and_eq_false_imp, beq_iff_eq] at h1
    simp only [Bool.or_eq_true, decide_eq_true_eq, Bool.and_eq_true, beq_iff_eq]
    by_cases h : a = b
    · subst h; exact .inr ⟨rfl, ll_tri (h1.2 rfl) (fun e => h2 (by rw [e]))⟩
    · exact .inl (by omega)
theorem ll_asym {A B : List Int} (h : ll A B = true) : ll B A = false := by
  cases e : ll B A
  · rfl
  · have := ll_trans h e; rw [ll_irrefl] at this; cases this
theorem ll_ne {A B : List Int} (h : ll A B = true) : A ≠ B := fun e => by rw [e, ll_irrefl] at h; cases h
end Go.Am
namespace Go.Am
/-- A slice without room is a slice. -/
def Tsl0 (x y : AV) : Prop := x = y ∨ ∃ m ps, ps ≠ [] ∧ x = .tsl m ps ∧ y = .pv (.sl (some false) m ps)
def TslL : List AV → List AV → Prop
  | [], [] => True
  | x :: xs, y :: ys => Tsl0 x y ∧ TslL xs ys
  | _, _ => False
theorem Tsl0.vh {ι : Nat → Option (Nat × Nat)} {imm : Nat → Prop} {w : World} {x y : AV} {v : Value} (h : Tsl0 x y) (hv : VH ι imm w x v) : VH ι imm w y v := by
  rcases h with rfl | ⟨m, ps, hne, rfl, rfl⟩
  · exact hv
  · simp only [VH] at hv ⊢
    obtain ⟨A, rfl, h1, h2⟩ := hv
    simp only [PH]
    exact ⟨A, m, rfl, Nat.le_refl _, fun h => by simp at h, fun _ e => hne (h1 e).2, fun e => absurd (h1 e).2 hne, fun a ha hp => h2 a ha hp⟩
theorem TslL.vhs {ι : Nat → Option (Nat × Nat)} {imm : Nat → Prop} {w : World} : ∀ {xs ys : List AV} {vs : List Value}, TslL xs ys → VHs ι imm w xs vs → VHs ι imm w ys vs
  | [], [], _, _, hv => hv
  | x :: xs, y :: ys, vs, h, hv => by
    simp only [VHs] at hv ⊢
    obtain ⟨v, us, rfl, h1, h2⟩ := hv
    exact ⟨v, us, rfl, h.1.vh h1, TslL.vhs h.2 h2⟩
  | [], _ :: _, _, h, _ => h.elim
  | _ :: _, [], _, h, _ => h.elim
theorem PCalls.tsl {P : Program} {f : FuncId} {avs avs' : List AV} {av : AV} (F : PCalls P f avs av) (h : TslL avs' avs) (hin : AV.withinL (fun _ => false) avs' = true) : PCalls P f avs' av where
  fn := F.fn
  args := hin
  res := F.res
  calls := fun ι imm w M vs hH hv himm hdom => F.calls ι imm w M vs hH (h.vhs hv) himm hdom
section
variable {E : Env} {T : Tab} {n : Nat} {cq : Oper → Cls}
theorem Makes.frozenT {E : Env} {o : Oper} {vs : List AV} {hs : List (Nat × Blk)} {n s : Nat} {ps : List PV} (h : Makes E o vs hs (fun d => .sl d 0 n s true) (.cells (ps.map .pv))) (hd : ∀ d, o.dst = some d → d < E.n) : Does E o vs hs { v := .tsl n ps } := by
  intro ι imm st a w Q hs' hv hh _
  obtain ⟨O, u, h1, ⟨c, e, rfl, h2, h2'⟩, h3⟩ := h ι imm st a w hs' (hs'.evls hv) hh
  unfold Oper.wp
  rw [h1, Oper.upon_value]
  have hheap : ∀ q, q < w.heap.size → (World.push w (.cells c e (0, 0))).heap[q]? = w.heap[q]? := fun q hq => by
    show (w.heap.push _)[q]? = _
    rw [Array.getElem?_push, if_neg (by omega)]
  have hnew : (World.push w (.cells c e (0, 0))).heap[w.heap.size]? = some (.cells c e (0, 0)) := by
    show (w.heap.push _)[_]? = _
    rw [Array.getElem?_push, if_pos rfl]
  have hold : ∀ {k : Nat} {x : Obj}, w.heap[k]? = some x → k < w.heap.size := fun {k x} hk => by
    rcases Nat.lt_or_ge k w.heap.size with h' | h'
    · exact h'
    · rw [Array.getElem?_eq_none h'] at hk; cases hk
  let imm' : Nat → Prop := fun k => imm k ∨ k = w.heap.size
  have st' : Stays imm imm' w (World.push w (.cells c e (0, 0))) := ⟨fun _ hk => .inl hk, fun q hq => hheap q (hs'.immlt q hq)⟩
  have g : Grows ι ι imm imm' w (World.push w (.cells c e (0, 0))) := ⟨fun _ _ h => h, st', fun r c f f2 hr => ⟨c, f2, (hheap r (hold hr)).trans hr, rfl⟩⟩
  have hblk : ∀ {b k r z}, st.H b = some k → ι b = some (r, z) → r < w.heap.size := fun {b q r z} hb hi => by
    obtain ⟨r', z', h1, _, _, h4⟩ := hs'.heap.blk b q hb
    rw [hi] at h1
    simp only [Option.some.injEq, Prod.mk.injEq] at h1
    obtain ⟨rfl, rfl⟩ := h1
    cases q with
    | cells cs => obtain ⟨c, e, f, h1, _⟩ := h4; exact hold h1
    | map es => obtain ⟨c, q, _, _, h2, _⟩ := h4; exact hold h2
    | mapx es q => obtain ⟨c, _, h2, _⟩ := h4; exact hold h2
    | iter b since seen c0 => obtain ⟨m, _, _, h2⟩ := h4; exact hold h2
    | siter s pos => exact hold h4.2
  have hsr : SR E ι imm' ⟨st.S, st.H, st.U⟩ a (World.push w (.cells c e (0, 0))) := by
    refine hs'.turn g rfl rfl rfl (Nat.le_refl _) (by show _ ≤ (w.heap.push _).size; simp) (fun q hq _ => hheap q hq) ⟨fun b q hb => ?_, fun b b' k k' r z z' hb hb' hi hi' => hs'.heap.inj b b' k k' r z z' hb hb' hi hi'⟩ (fun b x hx => hs'.used b x hx) (fun k hk => ?_) (fun k hk => ?_)
    · obtain ⟨r, z, h1, h2, h3, h4⟩ := hs'.heap.blk b q hb
      have hr := hblk hb h1
      exact ⟨r, z, h1, fun hi => hi.elim h2 fun e => by omega, h3, h4.grows g (hheap r hr)⟩
    · rcases hk with hk | rfl
      · exact .inl hk
      · exact .inr (.inr hs'.ext.size)
    · show k < (w.heap.push _).size
      rw [Array.size_push]
      rcases hk with hk | rfl
      · have := hs'.immlt k hk; omega
      · omega
  refine ⟨ι, imm', hsr.put o.dst hd ?_⟩
  obtain ⟨r, z, cap, hi, rfl, _, hcap, _⟩ := h3 0 (fun _ => some (w.heap.size, 0)) rfl
  simp only [Option.some.injEq, Prod.mk.injEq] at hi
  obtain ⟨rfl, rfl⟩ := hi
  obtain rfl := hcap rfl
  simp only [VH]
  refine ⟨_, rfl, fun h => by simp at h, fun A hA _ => ?_⟩
  simp only [Option.some.injEq] at hA
  subst hA
  refine ⟨rfl, .inr rfl, PHs.of_cells st' (fun o => ?_) h2'⟩
  simp [cell_of_heap hnew]
theorem rexec_buildSliceT (C : Cx E T n) {d : Option Nat} {t : TypeId} {l : Nat} {parts : Array (Nat × Operand)} {ty : TypeId} {pos : String} {af : Array Edge} {g : Option (Nat × Bool)} {st : St} {K : St → Prop} {r re : TyRow} {te : TypeId} {us : List AV} {α : Type} (e : Enc α) (D : List α) (h1 : dstB n ⟨d, .buildSlice t l parts, ty, pos, af, g⟩ = true)
    (h2 : evls st.S (parts.toList.map (·.2)) = some us) (hr : T.lookup t = some r) (hdesc : r.desc = .slice te) (hre : T.lookup te = some re) (hl : l = D.length) (hs : re.size = e.sz) (hbig : l * re.size ≤ 16777216) (hz : fillAV (fun i => some (i * re.size, re.size)) (zeroAV re.zero.cells (l * re.size)) (parts.toList.zipWith (fun p u => (p.1, u)) us) = some (encC e D))
    (h7 : K (st.after d { v := .tsl D.length (encL e D) })) : rexec E cq n ⟨d, .buildSlice t l parts, ty, pos, af, g⟩ st K := by
  have hd : ∀ x, d = some x → x < E.n := fun x e => by
    simp only [dstB, e, decide_eq_true_eq] at h1
    exact C.n ▸ h1
  have hm := makes_buildSlice C.tab (E := E) (o := ⟨d, .buildSlice t l parts, ty, pos, af, g⟩) (n := l) (parts := parts) rfl hr hdesc hre hbig hz (by rw [encC_len, hl, hs])
  rw [← hl] at h7
  have h2 : evls st.S (Op.operands (.buildSlice t l parts)).toList = some us := by simpa [Op.operands] using h2
  exact ⟨h1, us, [], { v := .tsl l (encL e D) }, { vals := h2, deps := fun _ h => (by cases h), fresh := fun _ h => (by cases h), does := hm.frozenT hd, reach := rfl, inV := rfl, inN := fun _ h => (by cases h), inW := fun _ h => (by cases h), wr := fun _ h => (by cases h), pure := fun _ => ⟨rfl, rfl, rfl⟩, quiet := fun _ => rfl, foot := by cases clsOf cq ⟨d, .buildSlice t l parts, ty, pos, af, g⟩ <;> rfl }, h7⟩
end
end Go.Am
namespace Go.Am
/-- What cells of a type hold. -/
def FlatA (P : Program) : Nat → TypeId → List PV → Prop
  | 0, _, _ => False
  | m + 1, t, ps => match P.underlying t with
    | some .bool => ∃ b, ps = [.lit (.bool b)]
    | some (.int k) => ∃ n, ps = [.lit (.int k n)] ∧ (Lit.int k n).wf = true
    | some .string => ∃ s, ps = [.lit (.string s)] ∧ s.size ≤ maxLen
    | some (.slice e) => ∃ (b : Bool) (D : List (List PV)), ps = [.sl (some b) D.length D.flatten] ∧ D.length ≤ maxLen ∧ (b = true → D = []) ∧ ∀ x ∈ D, FlatA P m e x
    | some (.struct fs) => FlatS (FlatA P m) fs.toList ps
    | some (.array n e) => ∃ D : List (List PV), ps = D.flatten ∧ D.length = n ∧ ∀ x ∈ D, FlatA P m e x
    | _ => False
def okTyA (P : Program) : Nat → TypeId → Bool
  | 0, _ => false
  | m + 1, t => match P.underlying t with
    | some .bool | some (.int _) | some .string => true
    | some (.slice e) => okTyA P m e && decide (0 < P.cellsOf e)
    | some (.struct fs) => okFs P (okTyA P m) (P.cellsOf t) fs.toList 0
    | some (.array n e) => okTyA P m e && decide (P.cellsOf t = n * P.cellsOf e)
    | _ => false
theorem chunks {F : List PV → Prop} {ι : Nat → Option (Nat × Nat)} {imm : Nat → Prop} {w : World} {c : Nat} : ∀ (n : Nat) (cs : List Value), cs.length = n * c → (∀ i, i < n → ∃ ps : List PV, VHs ι imm w (ps.map .pv) ((cs.drop (i * c)).take c) ∧ F ps) → ∃ D : List (List PV), D.length = n ∧ VHs ι imm w (D.flatten.map .pv) cs ∧ ∀ x ∈ D, F x
  | 0, cs, hl, _ => by
    have : cs = [] := List.eq_nil_of_length_eq_zero (by rw [hl]; omega)
    subst this
    exact ⟨[], rfl, rfl, fun x hx => (by cases hx)⟩
  | n + 1, cs, hl, h => by
    have hc : c ≤ cs.length := by rw [hl, Nat.add_mul, Nat.one_mul]; exact Nat.le_add_left _ _
    obtain ⟨ps, p1, p2⟩ := h 0 (by omega)
    rw [Nat.zero_mul, List.drop_zero] at p1
    obtain ⟨D, d1, d2, d3⟩ := chunks n (cs.drop c) (by rw [List.length_drop, hl, Nat.add_mul, Nat.one_mul, Nat.add_sub_cancel]) fun i hi => by
      obtain ⟨qs, q1, q2⟩ := h (i + 1) (by omega)
      refine ⟨qs, ?_, q2⟩
      rw [List.drop_drop, show c + i * c = (i + 1) * c by rw [Nat.add_mul, Nat.one_mul, Nat.add_comm]]
      exact q1
    refine ⟨ps :: D, by simp [d1], ?_, fun x hx => ?_⟩
    · rw [List.flatten_cons, List.map_append, ← List.take_append_drop c cs]
      exact VHs.append p1 d2
    · rcases List.mem_cons.1 hx with rfl | hx
      · exact p2
      · exact d3 x hx
theorem len8 {α : Type} : ∀ {D : List α}, D.length = 8 → ∃ a b c d e f g h, D = [a, b, c, d, e, f, g, h]
  | [a, b, c, d, e, f, g, h], _ => ⟨a, b, c, d, e, f, g, h, rfl⟩
section
variable {H : Type} {enc : TypeId × Value → H} {P : Program} {w : World} {base : Nat} {held : Bool}
theorem open_flatA {ι : Nat → Option (Nat × Nat)} : ∀ (m fuel : Nat) (t : TypeId) (cs : List Value) (x : DataW H × List MemPlace), okTyA P m t = true → DataW.trod enc P w base (fun _ => true) held fuel t cs = some x →
    ∃ ps : List PV, VHs ι (fun k => k < w.heap.size) w (ps.map .pv) cs ∧ FlatA P m t ps
  | 0, _, _, _, _, hok, _ => by simp [okTyA] at hok
  | m + 1, fuel, t, cs, x, hok, h => by
    simp only [okTyA] at hok
    split at hok
    · rename_i ht
      obtain ⟨b, rfl, _⟩ := DataW.trod_bool ht h
      exact ⟨[.lit (.bool b)], ⟨_, [], rfl, ⟨rfl, rfl⟩, rfl⟩, by simp only [FlatA, ht]; exact ⟨b, rfl⟩⟩
    · rename_i k ht
      obtain ⟨n, rfl, _, hw⟩ := DataW.trod_int ht h
      exact ⟨[.lit (.int k n)], ⟨_, [], rfl, ⟨rfl, rfl⟩, rfl⟩, by simp only [FlatA, ht]; exact ⟨n, rfl, hw⟩⟩
    · rename_i ht
      obtain ⟨s, rfl, _, hs⟩ := DataW.trod_string ht h
      exact ⟨[.lit (.string s)], ⟨_, [], rfl, ⟨rfl, rfl⟩, rfl⟩, by simp only [FlatA, ht]; exact ⟨s, rfl, hs⟩⟩
    · rename_i e ht
      simp only [Bool.and_eq_true, decide_eq_true_eq] at hok
      rcases DataW.trod_slice ht h with ⟨rfl, _⟩ | ⟨a, len, cap, elems, rest, n, _, rfl, _, hb, hl, hm, hlen, hel, _, _⟩
      · refine ⟨[.sl (some true) 0 []], ⟨_, [], rfl, ?_, rfl⟩, by simp only [FlatA, ht]; exact ⟨true, [], rfl, Nat.zero_le _, fun _ => rfl, fun x hx => by cases hx⟩⟩
        exact ⟨none, 0, rfl, Nat.le_refl _, fun _ => rfl, fun h => by simp at h, fun _ => ⟨rfl, rfl, rfl⟩, fun a ha => by cases ha⟩
      · have hspot : 0 < len → a.spot = none ∧ a.block < w.heap.size := fun hi => by
          have h1 := hel 0 hi
          have : ∃ y, elems[0]? = some y := ⟨elems[0], by rw [List.getElem?_eq_getElem (by omega)]⟩
          obtain ⟨y, hy⟩ := this
          rw [hy, Option.bind_eq_some_iff] at h1
          obtain ⟨ds, d1, _⟩ := h1
          obtain ⟨_, d3, d4⟩ := World.cells?_some d1
          have h0 := d4 0 hok.2
          have hds : ∃ v, ds[0]? = some v := ⟨ds[0], by rw [List.getElem?_eq_getElem (by omega)]⟩
          obtain ⟨v0, hv0⟩ := hds
          rw [hv0] at h0
          simpa [Addr.add] using spot_of_cell h0
        have each : ∀ i, i < len → ∃ ps : List PV, FlatA P m e ps ∧ ps.length = P.cellsOf e ∧ a.spot = none ∧ a.block < w.heap.size ∧ PHs (fun k => k < w.heap.size) w ps a.block (a.off + i * P.cellsOf e) := fun i hi => by
          have h1 := hel i hi
          have : ∃ y, elems[i]? = some y := ⟨elems[i], by rw [List.getElem?_eq_getElem (by omega)]⟩
          obtain ⟨y, hy⟩ := this
          rw [hy, Option.bind_eq_some_iff] at h1
          obtain ⟨ds, d1, d2⟩ := h1
          obtain ⟨_, d3, d4⟩ := World.cells?_some d1
          obtain ⟨ps, p1, p2⟩ := open_flatA (ι := ι) m n e ds y hok.1 d2
          have hpl := p1.length
          rw [List.length_map] at hpl
          obtain ⟨hsp, s2⟩ := hspot (by omega)
          refine ⟨ps, p2, by omega, hsp, s2, PHs_of p1 fun j hj => ?_⟩
          have := d4 j (by omega)
          rw [← this, addr_eta hsp, add_none, add_none]
        obtain ⟨D, hD, hp⟩ := exists_list len each
        refine ⟨[.sl (some false) D.length D.flatten], ⟨_, [], rfl, ?_, rfl⟩, ?_⟩
        · refine ⟨some a, cap, by rw [hD], by omega, fun h => by simp at h, fun _ h => by simp at h, fun h => by simp at h, fun a' ha' hne => ?_⟩
          simp only [Option.some.injEq] at ha'
          subst ha'
          have hpos : ∃ x, D[0]? = some x := by
            cases D with
            | nil => simp at hne
            | cons x D => exact ⟨x, rfl⟩
          obtain ⟨x0, hx0⟩ := hpos
          obtain ⟨_, _, e3, e4, _⟩ := hp 0 x0 hx0
          exact ⟨e3, e4, PHs_flatten fun i y hy => ⟨(hp i y hy).2.1, (hp i y hy).2.2.2.2⟩⟩
        · simp only [FlatA, ht]
          refine ⟨false, D, rfl, by omega, fun h => (by cases h), fun y hy => ?_⟩
          obtain ⟨i, hi, rfl⟩ := List.getElem_of_mem hy
          exact (hp i _ (List.getElem?_eq_getElem hi)).1
    · rename_i fs ht
      obtain ⟨xs, n, _, _, hl, hxl, hx⟩ := DataW.trod_struct ht h
      obtain ⟨ps, h1, h2⟩ := open_fields (F := FlatA P m) (G := okTyA P m) (ι := ι) (imm := fun k => k < w.heap.size) (cs := cs) (n := n) (fun t' cs' x' ho ht' => open_flatA (ι := ι) m n t' cs' x' ho ht') (xs := xs) fs.toList 0 0 (by rw [hl]; exact hok) (fun i f hf => by rw [Nat.zero_add]; exact hx i f (by simpa using hf)) (by simp [hxl]) (Nat.zero_le _)
      exact ⟨ps, by simpa using h1, by simp only [FlatA, ht]; exact h2⟩
    · rename_i n e ht
      simp only [Bool.and_eq_true, decide_eq_true_eq] at hok
      obtain ⟨xs, q, _, _, hl, hxl, hx⟩ := DataW.trod_array ht h
      obtain ⟨D, d1, d2, d3⟩ := chunks (F := FlatA P m e) (ι := ι) (imm := fun k => k < w.heap.size) (w := w) (c := P.cellsOf e) n cs (by rw [hl, hok.2]) fun i hi => by
        have h1 := hx i hi
        have : ∃ y, xs[i]? = some y := ⟨xs[i]'(by omega), by rw [List.getElem?_eq_getElem (by omega)]⟩
        obtain ⟨y, hy⟩ := this
        rw [hy] at h1
        exact open_flatA (ι := ι) m q e _ y hok.1 h1
      exact ⟨D.flatten, d2, by simp only [FlatA, ht]; exact ⟨D, rfl, d1, d3⟩⟩
    · cases hok
/-- One cell that is handed in. -/
theorem open_cellA {t : TypeId} {v : Value} {d : DataW H} {ps : List MemPlace} (m : Nat) (hok : okTyA P m t = true) (hv : v.cells = #[v]) (hd : DataW.Trod enc P w base (fun _ => true) held t v d ps) : ∃ q : PV, FlatA P m t [q] ∧ VH (fun _ => none) (fun k => k < w.heap.size) w (.pv q) v := by
  obtain ⟨fuel, hf⟩ := hd
  obtain ⟨qs, h1, h2⟩ := open_flatA (ι := fun _ => none) m fuel t _ _ hok hf
  rw [hv] at h1
  cases qs with
  | nil => simp [VHs] at h1
  | cons q qs =>
    obtain ⟨v', us, he, h3, h4⟩ := h1
    simp only [List.cons.injEq] at he
    obtain ⟨rfl, rfl⟩ := he
    cases qs with
    | nil => exact ⟨q, h2, h3⟩
    | cons a b => simp [VHs] at h4
end
end Go.Am
namespace Go.Am
section
variable {H : Type} {enc : TypeId × Value → H} {P : Program} {w : World} {base : Nat} {spare : Nat → Bool} {held : Bool}
end
end Go.Am
namespace Go.Proofs.Ytoieegmebadfkaa
open Go.Am
def tab : Tab := [
  (3, ⟨.int .i64, 1, 8, .int .i64 0, false⟩),
  (4, ⟨.bool, 1, 1, .bool false, false⟩),
  (5, ⟨.int .u8, 1, 1, .int .u8 0, false⟩),
  (9, ⟨.string, 1, 16, .string ⟨#[]⟩, false⟩),
  (22, ⟨.slice 60, 1, 24, .slice none 0 0, false⟩),
  (23, ⟨.int .i64, 1, 8, .int .i64 0, false⟩),
  (27, ⟨.slice 34, 1, 24, .slice none 0 0, false⟩),
  (30, ⟨.array 8 5, 8, 8, .agg #[.int .u8 0, .int .u8 0, .int .u8 0, .int .u8 0, .int .u8 0, .int .u8 0, .int .u8 0, .int .u8 0], true⟩),
  (31, ⟨.array 8 5, 8, 8, .agg #[.int .u8 0, .int .u8 0, .int .u8 0, .int .u8 0, .int .u8 0, .int .u8 0, .int .u8 0, .int .u8 0], true⟩),
  (33, ⟨.struct #[{ name := "Client", type := 3, offset := 0, embedded := false, tag := "", pkgPath := "", byteOffset := 0 }, { name := "Seq", type := 3, offset := 1, embedded := false, tag := "", pkgPath := "", byteOffset := 8 }, { name := "Write", type := 4, offset := 2, embedded := false, tag := "", pkgPath := "", byteOffset := 16 }, { name := "Key", type := 31, offset := 3, embedded := false, tag := "", pkgPath := "", byteOffset := 17 }, { name := "Value", type := 9, offset := 11, embedded := false, tag := "", pkgPath := "", byteOffset := 32 }, { name := "Mode", type := 3, offset := 12, embedded := false, tag := "", pkgPath := "", byteOffset := 48 }, { name := "Bound", type := 3, offset := 13, embedded := false, tag := "", pkgPath := "", byteOffset := 56 }, { name := "Began", type := 3, offset := 14, embedded := false, tag := "", pkgPath := "", byteOffset := 64 }, { name := "Ended", type := 3, offset := 15, embedded := false, tag := "", pkgPath := "", byteOffset := 72 }, { name := "Ver", type := 3, offset := 16, embedded := false, tag := "", pkgPath := "", byteOffset := 80 }, { name := "Err", type := 23, offset := 17, embedded := false, tag := "", pkgPath := "", byteOffset := 88 }, { name := "Floor", type := 3, offset := 18, embedded := false, tag := "", pkgPath := "", byteOffset := 96 }], 19, 104, .agg #[.int .i64 0, .int .i64 0, .bool false, .int .u8 0, .int .u8 0, .int .u8 0, .int .u8 0, .int .u8 0, .int .u8 0, .int .u8 0, .int .u8 0, .string ⟨#[]⟩, .int .i64 0, .int .i64 0, .int .i64 0, .int .i64 0, .int .i64 0, .int .i64 0, .int .i64 0], true⟩),
  (34, ⟨.struct #[{ name := "Client", type := 3, offset := 0, embedded := false, tag := "", pkgPath := "", byteOffset := 0 }, { name := "Seq", type := 3, offset := 1, embedded := false, tag := "", pkgPath := "", byteOffset := 8 }, { name := "Write", type := 4, offset := 2, embedded := false, tag := "", pkgPath := "", byteOffset := 16 }, { name := "Key", type := 31, offset := 3, embedded := false, tag := "", pkgPath := "", byteOffset := 17 }, { name := "Value", type := 9, offset := 11, embedded := false, tag := "", pkgPath := "", byteOffset := 32 }, { name := "Mode", type := 3, offset := 12, embedded := false, tag := "", pkgPath := "", byteOffset := 48 }, { name := "Bound", type := 3, offset := 13, embedded := false, tag := "", pkgPath := "", byteOffset := 56 }, { name := "Began", type := 3, offset := 14, embedded := false, tag := "", pkgPath := "", byteOffset := 64 }, { name := "Ended", type := 3, offset := 15, embedded := false, tag := "", pkgPath := "", byteOffset := 72 }, { name := "Ver", type := 3, offset := 16, embedded := false, tag := "", pkgPath := "", byteOffset := 80 }, { name := "Err", type := 23, offset := 17, embedded := false, tag := "", pkgPath := "", byteOffset := 88 }, { name := "Floor", type := 3, offset := 18, embedded := false, tag := "", pkgPath := "", byteOffset := 96 }], 19, 104, .agg #[.int .i64 0, .int .i64 0, .bool false, .int .u8 0, .int .u8 0, .int .u8 0, .int .u8 0, .int .u8 0, .int .u8 0, .int .u8 0, .int .u8 0, .string ⟨#[]⟩, .int .i64 0, .int .i64 0, .int .i64 0, .int .i64 0, .int .i64 0, .int .i64 0, .int .i64 0], true⟩),
  (36, ⟨.slice 31, 1, 24, .slice none 0 0, false⟩),
  (39, ⟨.slice 41, 1, 24, .slice none 0 0, false⟩),
  (40, ⟨.struct #[{ name := "Write", type := 4, offset := 0, embedded := false, tag := "", pkgPath := "", byteOffset := 0 }, { name := "Value", type := 9, offset := 1, embedded := false, tag := "", pkgPath := "", byteOffset := 8 }, { name := "Ver", type := 3, offset := 2, embedded := false, tag := "", pkgPath := "", byteOffset := 24 }, { name := "Began", type := 3, offset := 3, embedded := false, tag := "", pkgPath := "", byteOffset := 32 }, { name := "Ended", type := 3, offset := 4, embedded := false, tag := "", pkgPath := "", byteOffset := 40 }], 5, 48, .agg #[.bool false, .string ⟨#[]⟩, .int .i64 0, .int .i64 0, .int .i64 0], true⟩),
  (41, ⟨.struct #[{ name := "Write", type := 4, offset := 0, embedded := false, tag := "", pkgPath := "", byteOffset := 0 }, { name := "Value", type := 9, offset := 1, embedded := false, tag := "", pkgPath := "", byteOffset := 8 }, { name := "Ver", type := 3, offset := 2, embedded := false, tag := "", pkgPath := "", byteOffset := 24 }, { name := "Began", type := 3, offset := 3, embedded := false, tag := "", pkgPath := "", byteOffset := 32 }, { name := "Ended", type := 3, offset := 4, embedded := false, tag := "", pkgPath := "", byteOffset := 40 }], 5, 48, .agg #[.bool false, .string ⟨#[]⟩, .int .i64 0, .int .i64 0, .int .i64 0], true⟩),
  (45, ⟨.int .u64, 1, 8, .int .u64 0, false⟩),
  (50, ⟨.slice 3, 1, 24, .slice none 0 0, false⟩),
  (52, ⟨.map 63 60, 1, 8, .map none, false⟩),
  (53, ⟨.map 58 60, 1, 8, .map none, false⟩),
  (54, ⟨.struct #[{ name := "of", type := 52, offset := 0, embedded := false, tag := "", pkgPath := "towline/judge", byteOffset := 0 }, { name := "req", type := 53, offset := 1, embedded := false, tag := "", pkgPath := "towline/judge", byteOffset := 8 }], 2, 16, .agg #[.map none, .map none], false⟩),
  (55, ⟨.struct #[{ name := "of", type := 52, offset := 0, embedded := false, tag := "", pkgPath := "towline/judge", byteOffset := 0 }, { name := "req", type := 53, offset := 1, embedded := false, tag := "", pkgPath := "towline/judge", byteOffset := 8 }], 2, 16, .agg #[.map none, .map none], false⟩),
  (57, ⟨.struct #[{ name := "Client", type := 3, offset := 0, embedded := false, tag := "", pkgPath := "", byteOffset := 0 }, { name := "Seq", type := 3, offset := 1, embedded := false, tag := "", pkgPath := "", byteOffset := 8 }], 2, 16, .agg #[.int .i64 0, .int .i64 0], true⟩),
  (58, ⟨.struct #[{ name := "Client", type := 3, offset := 0, embedded := false, tag := "", pkgPath := "", byteOffset := 0 }, { name := "Seq", type := 3, offset := 1, embedded := false, tag := "", pkgPath := "", byteOffset := 8 }], 2, 16, .agg #[.int .i64 0, .int .i64 0], true⟩),
  (59, ⟨.struct #[{ name := "Index", type := 3, offset := 0, embedded := false, tag := "", pkgPath := "", byteOffset := 0 }, { name := "Epoch", type := 3, offset := 1, embedded := false, tag := "", pkgPath := "", byteOffset := 8 }, { name := "Key", type := 31, offset := 2, embedded := false, tag := "", pkgPath := "", byteOffset := 16 }, { name := "Ver", type := 3, offset := 10, embedded := false, tag := "", pkgPath := "", byteOffset := 24 }, { name := "Value", type := 9, offset := 11, embedded := false, tag := "", pkgPath := "", byteOffset := 32 }, { name := "Req", type := 58, offset := 12, embedded := false, tag := "", pkgPath := "", byteOffset := 48 }], 14, 64, .agg #[.int .i64 0, .int .i64 0, .int .u8 0, .int .u8 0, .int .u8 0, .int .u8 0, .int .u8 0, .int .u8 0, .int .u8 0, .int .u8 0, .int .i64 0, .string ⟨#[]⟩, .int .i64 0, .int .i64 0], false⟩),
  (60, ⟨.struct #[{ name := "Index", type := 3, offset := 0, embedded := false, tag := "", pkgPath := "", byteOffset := 0 }, { name := "Epoch", type := 3, offset := 1, embedded := false, tag := "", pkgPath := "", byteOffset := 8 }, { name := "Key", type := 31, offset := 2, embedded := false, tag := "", pkgPath := "", byteOffset := 16 }, { name := "Ver", type := 3, offset := 10, embedded := false, tag := "", pkgPath := "", byteOffset := 24 }, { name := "Value", type := 9, offset := 11, embedded := false, tag := "", pkgPath := "", byteOffset := 32 }, { name := "Req", type := 58, offset := 12, embedded := false, tag := "", pkgPath := "", byteOffset := 48 }], 14, 64, .agg #[.int .i64 0, .int .i64 0, .int .u8 0, .int .u8 0, .int .u8 0, .int .u8 0, .int .u8 0, .int .u8 0, .int .u8 0, .int .u8 0, .int .i64 0, .string ⟨#[]⟩, .int .i64 0, .int .i64 0], false⟩),
  (62, ⟨.struct #[{ name := "key", type := 31, offset := 0, embedded := false, tag := "", pkgPath := "towline/judge", byteOffset := 0 }, { name := "ver", type := 3, offset := 8, embedded := false, tag := "", pkgPath := "towline/judge", byteOffset := 8 }], 9, 16, .agg #[.int .u8 0, .int .u8 0, .int .u8 0, .int .u8 0, .int .u8 0, .int .u8 0, .int .u8 0, .int .u8 0, .int .i64 0], true⟩),
  (63, ⟨.struct #[{ name := "key", type := 31, offset := 0, embedded := false, tag := "", pkgPath := "towline/judge", byteOffset := 0 }, { name := "ver", type := 3, offset := 8, embedded := false, tag := "", pkgPath := "towline/judge", byteOffset := 8 }], 9, 16, .agg #[.int .u8 0, .int .u8 0, .int .u8 0, .int .u8 0, .int .u8 0, .int .u8 0, .int .u8 0, .int .u8 0, .int .i64 0], true⟩),
  (71, ⟨.int .u64, 1, 8, .int .u64 0, false⟩),
  (74, ⟨.slice 5, 1, 24, .slice none 0 0, false⟩),
  (78, ⟨.pointer 81, 1, 8, .pointer none, false⟩),
  (79, ⟨.map 137 4, 1, 8, .map none, false⟩),
  (80, ⟨.struct #[{ name := "l", type := 39, offset := 0, embedded := false, tag := "", pkgPath := "towline/lin", byteOffset := 0 }, { name := "been", type := 79, offset := 1, embedded := false, tag := "", pkgPath := "towline/lin", byteOffset := 24 }, { name := "row", type := 50, offset := 2, embedded := false, tag := "", pkgPath := "towline/lin", byteOffset := 32 }], 3, 56, .agg #[.slice none 0 0, .map none, .slice none 0 0], false⟩),
  (81, ⟨.struct #[{ name := "l", type := 39, offset := 0, embedded := false, tag := "", pkgPath := "towline/lin", byteOffset := 0 }, { name := "been", type := 79, offset := 1, embedded := false, tag := "", pkgPath := "towline/lin", byteOffset := 24 }, { name := "row", type := 50, offset := 2, embedded := false, tag := "", pkgPath := "towline/lin", byteOffset := 32 }], 3, 56, .agg #[.slice none 0 0, .map none, .slice none 0 0], false⟩),
  (82, ⟨.int .u64, 1, 8, .int .u64 0, false⟩),
  (89, ⟨.map 3 91, 1, 8, .map none, false⟩),
  (90, ⟨.struct #[{ name := "value", type := 9, offset := 0, embedded := false, tag := "", pkgPath := "towline/lin", byteOffset := 0 }, { name := "began", type := 3, offset := 1, embedded := false, tag := "", pkgPath := "towline/lin", byteOffset := 16 }, { name := "there", type := 4, offset := 2, embedded := false, tag := "", pkgPath := "towline/lin", byteOffset := 24 }], 3, 32, .agg #[.string ⟨#[]⟩, .int .i64 0, .bool false], false⟩),
  (91, ⟨.struct #[{ name := "value", type := 9, offset := 0, embedded := false, tag := "", pkgPath := "towline/lin", byteOffset := 0 }, { name := "began", type := 3, offset := 1, embedded := false, tag := "", pkgPath := "towline/lin", byteOffset := 16 }, { name := "there", type := 4, offset := 2, embedded := false, tag := "", pkgPath := "towline/lin", byteOffset := 24 }], 3, 32, .agg #[.string ⟨#[]⟩, .int .i64 0, .bool false], false⟩),
  (99, ⟨.int .i64, 1, 8, .int .i64 0, false⟩),
  (107, ⟨.int .u32, 1, 4, .int .u32 0, false⟩),
  (136, ⟨.struct #[{ name := "done", type := 82, offset := 0, embedded := false, tag := "", pkgPath := "towline/lin", byteOffset := 0 }, { name := "value", type := 9, offset := 1, embedded := false, tag := "", pkgPath := "towline/lin", byteOffset := 8 }], 2, 24, .agg #[.int .u64 0, .string ⟨#[]⟩], true⟩),
  (137, ⟨.struct #[{ name := "done", type := 82, offset := 0, embedded := false, tag := "", pkgPath := "towline/lin", byteOffset := 0 }, { name := "value", type := 9, offset := 1, embedded := false, tag := "", pkgPath := "towline/lin", byteOffset := 8 }], 2, 24, .agg #[.int .u64 0, .string ⟨#[]⟩], true⟩)]
theorem inf3 : (Try.prog.info? 3).map (fun i => (i.size, i.bytes, i.zero)) = some (1, 8, some (.int .i64 0)) := by kernel_rfl
theorem inf4 : (Try.prog.info? 4).map (fun i => (i.size, i.bytes, i.zero)) = some (1, 1, some (.bool false)) := by kernel_rfl
theorem inf5 : (Try.prog.info? 5).map (fun i => (i.size, i.bytes, i.zero)) = some (1, 1, some (.int .u8 0)) := by kernel_rfl
theorem inf9 : (Try.prog.info? 9).map (fun i => (i.size, i.bytes, i.zero)) = some (1, 16, some (.string ⟨#[]⟩)) := by kernel_rfl
theorem inf22 : (Try.prog.info? 22).map (fun i => (i.size, i.bytes, i.zero)) = some (1, 24, some (.slice none 0 0)) := by kernel_rfl
theorem inf23 : (Try.prog.info? 23).map (fun i => (i.size, i.bytes, i.zero)) = some (1, 8, some (.int .i64 0)) := by kernel_rfl
theorem inf27 : (Try.prog.info? 27).map (fun i => (i.size, i.bytes, i.zero)) = some (1, 24, some (.slice none 0 0)) := by kernel_rfl
theorem inf30 : (Try.prog.info? 30).map (fun i => (i.size, i.bytes, i.zero)) = some (8, 8, some (.agg #[.int .u8 0, .int .u8 0, .int .u8 0, .int .u8 0, .int .u8 0, .int .u8 0, .int .u8 0, .int .u8 0])) := by kernel_rfl
theorem inf31 : (Try.prog.info? 31).map (fun i => (i.size, i.bytes, i.zero)) = some (8, 8, some (.agg #[.int .u8 0, .int .u8 0, .int .u8 0, .int .u8 0, .int .u8 0, .int .u8 0, .int .u8 0, .int .u8 0])) := by kernel_rfl
theorem inf33 : (Try.prog.info? 33).map (fun i => (i.size, i.bytes, i.zero)) = some (19, 104, some (.agg #[.int .i64 0, .int .i64 0, .bool false, .int .u8 0, .int .u8 0, .int .u8 0, .int .u8 0, .int .u8 0, .int .u8 0, .int .u8 0, .int .u8 0, .string ⟨#[]⟩, .int .i64 0, .int .i64 0, .int .i64 0, .int .i64 0, .int .i64 0, .int .i64 0, .int .i64 0])) := by kernel_rfl
theorem inf34 : (Try.prog.info? 34).map (fun i => (i.size, i.bytes, i.zero)) = some (19, 104, some (.agg #[.int .i64 0, .int .i64 0, .bool false, .int .u8 0, .int .u8 0, .int .u8 0, .int .u8 0, .int .u8 0, .int .u8 0, .int .u8 0, .int .u8 0, .string ⟨#[]⟩, .int .i64 0, .int .i64 0, .int .i64 0, .int .i64 0, .int .i64 0, .int .i64 0, .int .i64 0])) := by kernel_rfl
theorem inf36 : (Try.prog.info? 36).map (fun i => (i.size, i.bytes, i.zero)) = some (1, 24, some (.slice none 0 0)) := by kernel_rfl
theorem inf39 : (Try.prog.info? 39).map (fun i => (i.size, i.bytes, i.zero)) = some (1, 24, some (.slice none 0 0)) := by kernel_rfl
theorem inf40 : (Try.prog.info? 40).map (fun i => (i.size, i.bytes, i.zero)) = some (5, 48, some (.agg #[.bool false, .string ⟨#[]⟩, .int .i64 0, .int .i64 0, .int .i64 0])) := by kernel_rfl
theorem inf41 : (Try.prog.info? 41).map (fun i => (i.size, i.bytes, i.zero)) = some (5, 48, some (.agg #[.bool false, .string ⟨#[]⟩, .int .i64 0, .int .i64 0, .int .i64 0])) := by kernel_rfl
theorem inf45 : (Try.prog.info? 45).map (fun i => (i.size, i.bytes, i.zero)) = some (1, 8, some (.int .u64 0)) := by kernel_rfl
theorem inf50 : (Try.prog.info? 50).map (fun i => (i.size, i.bytes, i.zero)) = some (1, 24, some (.slice none 0 0)) := by kernel_rfl
theorem inf52 : (Try.prog.info? 52).map (fun i => (i.size, i.bytes, i.zero)) = some (1, 8, some (.map none)) := by kernel_rfl
theorem inf53 : (Try.prog.info? 53).map (fun i => (i.size, i.bytes, i.zero)) = some (1, 8, some (.map none)) := by kernel_rfl
theorem inf54 : (Try.prog.info? 54).map (fun i => (i.size, i.bytes, i.zero)) = some (2, 16, some (.agg #[.map none, .map none])) := by kernel_rfl
theorem inf55 : (Try.prog.info? 55).map (fun i => (i.size, i.bytes, i.zero)) = some (2, 16, some (.agg #[.map none, .map none])) := by kernel_rfl
theorem inf57 : (Try.prog.info? 57).map (fun i => (i.size, i.bytes, i.zero)) = some (2, 16, some (.agg #[.int .i64 0, .int .i64 0])) := by kernel_rfl
theorem inf58 : (Try.prog.info? 58).map (fun i => (i.size, i.bytes, i.zero)) = some (2, 16, some (.agg #[.int .i64 0, .int .i64 0])) := by kernel_rfl
theorem inf59 : (Try.prog.info? 59).map (fun i => (i.size, i.bytes, i.zero)) = some (14, 64, some (.agg #[.int .i64 0, .int .i64 0, .int .u8 0, .int .u8 0, .int .u8 0, .int .u8 0, .int .u8 0, .int .u8 0, .int .u8 0, .int .u8 0, .int .i64 0, .string ⟨#[]⟩, .int .i64 0, .int .i64 0])) := by kernel_rfl
theorem inf60 : (Try.prog.info? 60).map (fun i => (i.size, i.bytes, i.zero)) = some (14, 64, some (.agg #[.int .i64 0, .int .i64 0, .int .u8 0, .int .u8 0, .int .u8 0, .int .u8 0, .int .u8 0, .int .u8 0, .int .u8 0, .int .u8 0, .int .i64 0, .string ⟨#[]⟩, .int .i64 0, .int .i64 0])) := by kernel_rfl
theorem inf62 : (Try.prog.info? 62).map (fun i => (i.size, i.bytes, i.zero)) = some (9, 16, some (.agg #[.int .u8 0, .int .u8 0, .int .u8 0, .int .u8 0, .int .u8 0, .int .u8 0, .int .u8 0, .int .u8 0, .int .i64 0])) := by kernel_rfl
theorem inf63 : (Try.prog.info? 63).map (fun i => (i.size, i.bytes, i.zero)) = some (9, 16, some (.agg #[.int .u8 0, .int .u8 0, .int .u8 0, .int .u8 0, .int .u8 0, .int .u8 0, .int .u8 0, .int .u8 0, .int .i64 0])) := by kernel_rfl
theorem inf71 : (Try.prog.info? 71).map (fun i => (i.size, i.bytes, i.zero)) = some (1, 8, some (.int .u64 0)) := by kernel_rfl
theorem inf74 : (Try.prog.info? 74).map (fun i => (i.size, i.bytes, i.zero)) = some (1, 24, some (.slice none 0 0)) := by kernel_rfl
theorem inf78 : (Try.prog.info? 78).map (fun i => (i.size, i.bytes, i.zero)) = some (1, 8, some (.pointer none)) := by kernel_rfl
theorem inf79 : (Try.prog.info? 79).map (fun i => (i.size, i.bytes, i.zero)) = some (1, 8, some (.map none)) := by kernel_rfl
theorem inf80 : (Try.prog.info? 80).map (fun i => (i.size, i.bytes, i.zero)) = some (3, 56, some (.agg #[.slice none 0 0, .map none, .slice none 0 0])) := by kernel_rfl
theorem inf81 : (Try.prog.info? 81).map (fun i => (i.size, i.bytes, i.zero)) = some (3, 56, some (.agg #[.slice none 0 0, .map none, .slice none 0 0])) := by kernel_rfl
theorem inf82 : (Try.prog.info? 82).map (fun i => (i.size, i.bytes, i.zero)) = some (1, 8, some (.int .u64 0)) := by kernel_rfl
theorem inf89 : (Try.prog.info? 89).map (fun i => (i.size, i.bytes, i.zero)) = some (1, 8, some (.map none)) := by kernel_rfl
theorem inf90 : (Try.prog.info? 90).map (fun i => (i.size, i.bytes, i.zero)) = some (3, 32, some (.agg #[.string ⟨#[]⟩, .int .i64 0, .bool false])) := by kernel_rfl
theorem inf91 : (Try.prog.info? 91).map (fun i => (i.size, i.bytes, i.zero)) = some (3, 32, some (.agg #[.string ⟨#[]⟩, .int .i64 0, .bool false])) := by kernel_rfl
theorem inf99 : (Try.prog.info? 99).map (fun i => (i.size, i.bytes, i.zero)) = some (1, 8, some (.int .i64 0)) := by kernel_rfl
theorem inf107 : (Try.prog.info? 107).map (fun i => (i.size, i.bytes, i.zero)) = some (1, 4, some (.int .u32 0)) := by kernel_rfl
theorem inf136 : (Try.prog.info? 136).map (fun i => (i.size, i.bytes, i.zero)) = some (2, 24, some (.agg #[.int .u64 0, .string ⟨#[]⟩])) := by kernel_rfl
theorem inf137 : (Try.prog.info? 137).map (fun i => (i.size, i.bytes, i.zero)) = some (2, 24, some (.agg #[.int .u64 0, .string ⟨#[]⟩])) := by kernel_rfl
theorem tabOk : TabOk Try.prog tab := TabOk.cons Try.underlying3 inf3 (fun h => by cases h) (TabOk.cons Try.underlying4 inf4 (fun h => by cases h) (TabOk.cons Try.underlying5 inf5 (fun h => by cases h) (TabOk.cons Try.underlying9 inf9 (fun h => by cases h) (TabOk.cons Try.underlying22 inf22 (fun h => by cases h) (TabOk.cons Try.underlying23 inf23 (fun h => by cases h) (TabOk.cons Try.underlying27 inf27 (fun h => by cases h) (TabOk.cons Try.underlying30 inf30 (fun _ => ⟨by kernel_rfl, by kernel_rfl⟩) (TabOk.cons Try.underlying31 inf31 (fun _ => ⟨by kernel_rfl, by kernel_rfl⟩) (TabOk.cons Try.underlying33 inf33 (fun _ => ⟨by kernel_rfl, by kernel_rfl⟩) (TabOk.cons Try.underlying34 inf34 (fun _ => ⟨by kernel_rfl, by kernel_rfl⟩) (TabOk.cons Try.underlying36 inf36 (fun h => by cases h) (TabOk.cons Try.underlying39 inf39 (fun h => by cases h) (TabOk.cons Try.underlying40 inf40 (fun _ => ⟨by kernel_rfl, by kernel_rfl⟩) (TabOk.cons Try.underlying41 inf41 (fun _ => ⟨by kernel_rfl, by kernel_rfl⟩) (TabOk.cons Try.underlying45 inf45 (fun h => by cases h) (TabOk.cons Try.underlying50 inf50 (fun h => by cases h) (TabOk.cons Try.underlying52 inf52 (fun h => by cases h) (TabOk.cons Try.underlying53 inf53 (fun h => by cases h) (TabOk.cons Try.underlying54 inf54 (fun h => by cases h) (TabOk.cons Try.underlying55 inf55 (fun h => by cases h) (TabOk.cons Try.underlying57 inf57 (fun _ => ⟨by kernel_rfl, by kernel_rfl⟩) (TabOk.cons Try.underlying58 inf58 (fun _ => ⟨by kernel_rfl, by kernel_rfl⟩) (TabOk.cons Try.underlying59 inf59 (fun h => by cases h) (TabOk.cons Try.underlying60 inf60 (fun h => by cases h) (TabOk.cons Try.underlying62 inf62 (fun _ => ⟨by kernel_rfl, by kernel_rfl⟩) (TabOk.cons Try.underlying63 inf63 (fun _ => ⟨by kernel_rfl, by kernel_rfl⟩) (TabOk.cons Try.underlying71 inf71 (fun h => by cases h) (TabOk.cons Try.underlying74 inf74 (fun h => by cases h) (TabOk.cons Try.underlying78 inf78 (fun h => by cases h) (TabOk.cons Try.underlying79 inf79 (fun h => by cases h) (TabOk.cons Try.underlying80 inf80 (fun h => by cases h) (TabOk.cons Try.underlying81 inf81 (fun h => by cases h) (TabOk.cons Try.underlying82 inf82 (fun h => by cases h) (TabOk.cons Try.underlying89 inf89 (fun h => by cases h) (TabOk.cons Try.underlying90 inf90 (fun h => by cases h) (TabOk.cons Try.underlying91 inf91 (fun h => by cases h) (TabOk.cons Try.underlying99 inf99 (fun h => by cases h) (TabOk.cons Try.underlying107 inf107 (fun h => by cases h) (TabOk.cons Try.underlying136 inf136 (fun _ => ⟨by kernel_rfl, by kernel_rfl⟩) (TabOk.cons Try.underlying137 inf137 (fun _ => ⟨by kernel_rfl, by kernel_rfl⟩) (TabOk.nil _)))))))))))))))))))))))))))))))))))))))))
theorem mixed : Try.prog.follows .mixedOrders = true := by kernel_rfl
theorem lit_cast {k : IntKind} {a b : Int} (h : a = b) : some (AV.pv (.lit (.int k a))) = some (AV.pv (.lit (.int k b))) := by rw [h]
end Go.Proofs.Ytoieegmebadfkaa
namespace Go.Proofs.Ytoieegmebadfkaa
open Go.Am
structure Req where
  client : Int
  seq : Int
  deriving Inhabited
def eReq : Enc Req := ⟨2, fun x => [.lit (.int .i64 x.client), .lit (.int .i64 x.seq)], fun _ => rfl⟩
structure Record where
  index : Int
  epoch : Int
  key : (Nat → Int)
  ver : Int
  value : ByteArray
  req : Req
  deriving Inhabited
def eRecord : Enc Record := ⟨14, fun x => [.lit (.int .i64 x.index), .lit (.int .i64 x.epoch), .lit (.int .u8 (x.key 0)), .lit (.int .u8 (x.key 1)), .lit (.int .u8 (x.key 2)), .lit (.int .u8 (x.key 3)), .lit (.int .u8 (x.key 4)), .lit (.int .u8 (x.key 5)), .lit (.int .u8 (x.key 6)), .lit (.int .u8 (x.key 7)), .lit (.int .i64 x.ver), .lit (.string x.value), .lit (.int .i64 x.req.client), .lit (.int .i64 x.req.seq)], fun _ => rfl⟩
structure Slot where
  key : (Nat → Int)
  ver : Int
  deriving Inhabited
structure Book where
  of_ : (List (Slot × Record))
  req : (List (Req × Record))
  deriving Inhabited
structure Call where
  client : Int
  seq : Int
  write : Bool
  key : (Nat → Int)
  value : ByteArray
  mode : Int
  bound : Int
  began : Int
  ended : Int
  ver : Int
  err : Int
  floor : Int
  deriving Inhabited
def eCall : Enc Call := ⟨19, fun x => [.lit (.int .i64 x.client), .lit (.int .i64 x.seq), .lit (.bool x.write), .lit (.int .u8 (x.key 0)), .lit (.int .u8 (x.key 1)), .lit (.int .u8 (x.key 2)), .lit (.int .u8 (x.key 3)), .lit (.int .u8 (x.key 4)), .lit (.int .u8 (x.key 5)), .lit (.int .u8 (x.key 6)), .lit (.int .u8 (x.key 7)), .lit (.string x.value), .lit (.int .i64 x.mode), .lit (.int .i64 x.bound), .lit (.int .i64 x.began), .lit (.int .i64 x.ended), .lit (.int .i64 x.ver), .lit (.int .i64 x.err), .lit (.int .i64 x.floor)], fun _ => rfl⟩
def zeroR : Record := Record.mk 0 0 (ofL [(0 : Int), 0, 0, 0, 0, 0, 0, 0]) 0 ⟨#[]⟩ (Req.mk 0 0)
def kSlot : KEnc Slot := ⟨fun x => .agg [.pv (.lit (.int .u8 (x.key 0))), .pv (.lit (.int .u8 (x.key 1))), .pv (.lit (.int .u8 (x.key 2))), .pv (.lit (.int .u8 (x.key 3))), .pv (.lit (.int .u8 (x.key 4))), .pv (.lit (.int .u8 (x.key 5))), .pv (.lit (.int .u8 (x.key 6))), .pv (.lit (.int .u8 (x.key 7))), .pv (.lit (.int .i64 x.ver))], fun a b => ((((a.key 0) == (b.key 0)) && (((a.key 1) == (b.key 1)) && (((a.key 2) == (b.key 2)) && (((a.key 3) == (b.key 3)) && (((a.key 4) == (b.key 4)) && (((a.key 5) == (b.key 5)) && (((a.key 6) == (b.key 6)) && (((a.key 7) == (b.key 7)) && true)))))))) && ((a.ver == b.ver) && true)), fun _ => rfl, fun _ => Nat.le_of_ble_eq_true rfl, fun a b => by simp only [Bool.and_eq_true, beq_iff_eq, AV.agg.injEq, List.cons.injEq, AV.pv.injEq, PV.lit.injEq, Value.int.injEq, and_true, and_assoc, true_and]⟩
theorem kSlot_ok : KeyOk Try.prog 63 kSlot := KeyOk.agg tabOk (r := (tab.lookup 63).get rfl) rfl rfl (fun _ _ => rfl) (fun _ => rfl)
def vRecord : VEnc Record := ⟨fun x => .agg [.pv (.lit (.int .i64 x.index)), .pv (.lit (.int .i64 x.epoch)), .pv (.lit (.int .u8 (x.key 0))), .pv (.lit (.int .u8 (x.key 1))), .pv (.lit (.int .u8 (x.key 2))), .pv (.lit (.int .u8 (x.key 3))), .pv (.lit (.int .u8 (x.key 4))), .pv (.lit (.int .u8 (x.key 5))), .pv (.lit (.int .u8 (x.key 6))), .pv (.lit (.int .u8 (x.key 7))), .pv (.lit (.int .i64 x.ver)), .pv (.lit (.string x.value)), .pv (.lit (.int .i64 x.req.client)), .pv (.lit (.int .i64 x.req.seq))], fun _ _ => rfl⟩
def kReq : KEnc Req := ⟨fun x => .agg [.pv (.lit (.int .i64 x.client)), .pv (.lit (.int .i64 x.seq))], fun a b => ((a.client == b.client) && ((a.seq == b.seq) && true)), fun _ => rfl, fun _ => Nat.le_of_ble_eq_true rfl, fun a b => by simp only [Bool.and_eq_true, beq_iff_eq, AV.agg.injEq, List.cons.injEq, AV.pv.injEq, PV.lit.injEq, Value.int.injEq, and_true, true_and]⟩
theorem kReq_ok : KeyOk Try.prog 58 kReq := KeyOk.agg tabOk (r := (tab.lookup 58).get rfl) rfl rfl (fun _ _ => rfl) (fun _ => rfl)
def openB_l0 : List Record → Nat → (List (Slot × Record)) → (List (Req × Record)) → Book
  | [], _, vc, vc1 => (Book.mk vc vc1)
  | x :: xs, i, vc, vc1 => openB_l0 xs (i + 1) (mSet kSlot (Slot.mk x.key x.ver) x vc) (mSet kReq x.req x vc1)
def openB (recs : (Sl Record)) : Book :=
  openB_l0 recs.D 0 [] []
theorem openB_calls (recs : (Sl Record)) (hl1 : recs.D.length ≤ 1000000) : MapsCalls Try.prog 32 [sS (some recs.nil) eRecord recs.D] (.agg [.mp 0, .mp 1]) (mapE kSlot vRecord.enc ((openB recs).of_)) (mapE kReq vRecord.enc ((openB recs).req)) := by
 generalize hR : openB recs = R
 refine MapsCalls.of_body tabOk Try.func32 rfl rfl rfl rfl rfl (mapE_within _ _) (mapE_within _ _) mixed fun E hP C hI => ?_
 refine Awp.consP C ?_
 refine rvc_un (rexec_prim C (δ := { v := .ptr 2 0, new := [(2, .cells [.pv (.lit (.map none)), .pv (.lit (.map none))])] }) rfl rfl rfl rfl trivial rfl ?_)
 refine rvc_nil ?_
 refine Awp.consP C ?_
 refine rvc_un (rexec_makeMap C rfl rfl kSlot vRecord ?_)
 refine rvc_un (rexec_makeMap C rfl rfl kReq vRecord ?_)
 refine rvP C (.agg [.mp 6, .mp 7]) ?_
 refine rvc_un (rexec_prim C (δ := { v := .ptr 3 0, new := [(3, .cells [.pv (.lit (.map none)), .pv (.lit (.map none))])] }) rfl rfl rfl rfl trivial rfl ?_)
 refine rvc_un (rexec_prim C (δ := { v := .undef, wr := [(3, some (.cells [.mp 6, .mp 7]))] }) rfl rfl rfl rfl trivial rfl ?_)
 refine rvc_nil ?_
 refine Awp.seq ?_
 refine Awp.consP C ?_
 refine rvP C (sS (some recs.nil) eRecord recs.D) ?_
 refine rvP C (.pv (.lit (.int .i64 (recs.D.length : Int)))) ?_
 refine rvP C (.pv (.lit (.int .i64 0))) ?_
 refine rvc_nil ?_
 refine Awp.block ?_
 refine Awp.forR (σ := ((List (Slot × Record))) × ((List (Req × Record)))) (recs.D.length) (fun i v => [(2, .ptr 2 0), (3, .ptr 3 0), (9, sS (some recs.nil) eRecord recs.D), (10, .pv (.lit (.int .i64 (recs.D.length : Int)))), (11, .pv (.lit (.int .i64 (i : Int))))]) (fun i v => [(2, .cells [.pv (.lit (.map none)), .pv (.lit (.map none))]), (6, mapE kSlot vRecord.enc v.1), (7, mapE kReq vRecord.enc v.2), (3, .cells [.mp 6, .mp 7])]) [2, 3, 6, 7] (fun i v => openB_l0 (recs.D.drop i) i v.1 v.2 = R) ([], []) ?_ ?_ (fun i v h1 hR => ?_)
 · exact hR
 · exact ⟨fun b => b, WeakerR.ofL (Ks := [2, 3, 6, 7]) hI ⟨⟨rfl, rfl⟩, ⟨rfl, rfl⟩, ⟨rfl, rfl⟩, ⟨rfl, rfl⟩, ⟨rfl, rfl⟩, trivial⟩ (okH_cons rfl rfl rfl rfl (okH_map rfl rfl rfl (okH_map rfl rfl rfl (okH_cons rfl rfl rfl rfl (okH_nil))))) rfl⟩
 obtain ⟨vc, vc1⟩ := v
 refine Awp.consP C ?_
 refine rvP C (.pv (.lit (.bool (decide ((i : Int) < (recs.D.length : Int)))))) ?_
 refine rvc_nil ?_
 refine Awp.seq ?_
 refine Awp.cond (b := (decide ((i : Int) < (recs.D.length : Int)))) rfl (fun h2 => ?_) (fun h2 => ?_)
 ·
  have h3 : i < recs.D.length := by have := of_decide_eq_true h2; omega
  obtain ⟨x, h4⟩ := getX h3
  rw [drop_at h4] at hR
  refine Awp.skip ?_
  refine Awp.seq ?_
  refine Awp.block ?_
  refine Awp.consP C ?_
  refine rvc_un (rexec_idxS C rfl rfl rfl rfl rfl rfl x (Int.natCast_nonneg _) h4 ?_)
  refine rvP C (.agg [.pv (.lit (.int .i64 x.index)), .pv (.lit (.int .i64 x.epoch)), .pv (.lit (.int .u8 (x.key 0))), .pv (.lit (.int .u8 (x.key 1))), .pv (.lit (.int .u8 (x.key 2))), .pv (.lit (.int .u8 (x.key 3))), .pv (.lit (.int .u8 (x.key 4))), .pv (.lit (.int .u8 (x.key 5))), .pv (.lit (.int .u8 (x.key 6))), .pv (.lit (.int .u8 (x.key 7))), .pv (.lit (.int .i64 x.ver)), .pv (.lit (.string x.value)), .pv (.lit (.int .i64 x.req.client)), .pv (.lit (.int .i64 x.req.seq))]) ?_
  refine rvc_un (rexec_prim C (δ := { v := .ptr 5 0, new := [(5, .cells [.pv (.lit (.int .i64 0)), .pv (.lit (.int .i64 0)), .pv (.lit (.int .u8 0)), .pv (.lit (.int .u8 0)), .pv (.lit (.int .u8 0)), .pv (.lit (.int .u8 0)), .pv (.lit (.int .u8 0)), .pv (.lit (.int .u8 0)), .pv (.lit (.int .u8 0)), .pv (.lit (.int .u8 0)), .pv (.lit (.int .i64 0)), .pv (.lit (.string ⟨#[]⟩)), .pv (.lit (.int .i64 0)), .pv (.lit (.int .i64 0))])] }) rfl rfl rfl rfl trivial rfl ?_)
  refine rvc_un (rexec_prim C (δ := { v := .undef, wr := [(5, some (.cells [.pv (.lit (.int .i64 x.index)), .pv (.lit (.int .i64 x.epoch)), .pv (.lit (.int .u8 (x.key 0))), .pv (.lit (.int .u8 (x.key 1))), .pv (.lit (.int .u8 (x.key 2))), .pv (.lit (.int .u8 (x.key 3))), .pv (.lit (.int .u8 (x.key 4))), .pv (.lit (.int .u8 (x.key 5))), .pv (.lit (.int .u8 (x.key 6))), .pv (.lit (.int .u8 (x.key 7))), .pv (.lit (.int .i64 x.ver)), .pv (.lit (.string x.value)), .pv (.lit (.int .i64 x.req.client)), .pv (.lit (.int .i64 x.req.seq))]))] }) rfl rfl rfl rfl trivial rfl ?_)
  refine rvc_nil ?_
  refine Awp.region C (fun o => match o.dst with | some 16 => .reads [3] | some 18 => .reads [5] | some 20 => .reads [5] | some 23 => .reads [3] | some 25 => .reads [5] | some 26 => .reads [5] | some 27 => .reads [5] | none => .writes [6, 7] | _ => .pure) (by kernel_rfl) ?_
  refine rvP C (.ptr 3 0) ?_
  refine rvP C (.mp 6) ?_
  refine rvP C (.ptr 5 2) ?_
  refine rvP C (.agg [.pv (.lit (.int .u8 (x.key 0))), .pv (.lit (.int .u8 (x.key 1))), .pv (.lit (.int .u8 (x.key 2))), .pv (.lit (.int .u8 (x.key 3))), .pv (.lit (.int .u8 (x.key 4))), .pv (.lit (.int .u8 (x.key 5))), .pv (.lit (.int .u8 (x.key 6))), .pv (.lit (.int .u8 (x.key 7)))]) ?_
  refine rvP C (.ptr 5 10) ?_
  refine rvP C (.pv (.lit (.int .i64 x.ver))) ?_
  refine rvP C (.agg [.pv (.lit (.int .u8 (x.key 0))), .pv (.lit (.int .u8 (x.key 1))), .pv (.lit (.int .u8 (x.key 2))), .pv (.lit (.int .u8 (x.key 3))), .pv (.lit (.int .u8 (x.key 4))), .pv (.lit (.int .u8 (x.key 5))), .pv (.lit (.int .u8 (x.key 6))), .pv (.lit (.int .u8 (x.key 7))), .pv (.lit (.int .i64 x.ver))]) ?_
  refine rvP C (.ptr 3 1) ?_
  refine rvP C (.mp 7) ?_
  refine rvP C (.ptr 5 12) ?_
  refine rvP C (.agg [.pv (.lit (.int .i64 x.req.client)), .pv (.lit (.int .i64 x.req.seq))]) ?_
  refine rvP C (.agg [.pv (.lit (.int .i64 x.index)), .pv (.lit (.int .i64 x.epoch)), .pv (.lit (.int .u8 (x.key 0))), .pv (.lit (.int .u8 (x.key 1))), .pv (.lit (.int .u8 (x.key 2))), .pv (.lit (.int .u8 (x.key 3))), .pv (.lit (.int .u8 (x.key 4))), .pv (.lit (.int .u8 (x.key 5))), .pv (.lit (.int .u8 (x.key 6))), .pv (.lit (.int .u8 (x.key 7))), .pv (.lit (.int .i64 x.ver)), .pv (.lit (.string x.value)), .pv (.lit (.int .i64 x.req.client)), .pv (.lit (.int .i64 x.req.seq))]) ?_
  refine rvP C (.agg [.pv (.lit (.int .i64 x.index)), .pv (.lit (.int .i64 x.epoch)), .pv (.lit (.int .u8 (x.key 0))), .pv (.lit (.int .u8 (x.key 1))), .pv (.lit (.int .u8 (x.key 2))), .pv (.lit (.int .u8 (x.key 3))), .pv (.lit (.int .u8 (x.key 4))), .pv (.lit (.int .u8 (x.key 5))), .pv (.lit (.int .u8 (x.key 6))), .pv (.lit (.int .u8 (x.key 7))), .pv (.lit (.int .i64 x.ver)), .pv (.lit (.string x.value)), .pv (.lit (.int .i64 x.req.client)), .pv (.lit (.int .i64 x.req.seq))]) ?_
  refine rvc_un (rexec_mapUpdate hP C (Slot.mk x.key x.ver) x rfl rfl rfl rfl rfl rfl kSlot_ok ?_)
  refine rvc_un (rexec_mapUpdate hP C x.req x rfl rfl rfl rfl rfl rfl kReq_ok ?_)
  refine rvc_nil ?_
  refine Awp.regionP C ?_
  refine rvP C (.pv (.lit (.int .i64 (IntKind.i64.wrap ((i : Int) + 1))))) ?_
  refine rvP C (.pv (.lit (.int .i64 (IntKind.i64.wrap ((i : Int) + 1))))) ?_
  refine rvc_nil ?_
  refine ⟨h3, ((mSet kSlot (Slot.mk x.key x.ver) x vc), (mSet kReq x.req x vc1)), ?_, ?_⟩
  · exact hR
  · exact ⟨fun b => b, WeakerR.ofL (Ks := [2, 3, 6, 7]) hI ⟨⟨rfl, rfl⟩, ⟨rfl, rfl⟩, ⟨rfl, rfl⟩, ⟨rfl, rfl⟩, ⟨lit_cast (wrap_i64 (by omega) (by omega)), rfl⟩, trivial⟩ (okH_cons rfl rfl rfl rfl (okH_map rfl rfl rfl (okH_map rfl rfl rfl (okH_cons rfl rfl rfl rfl (okH_nil))))) rfl⟩
 ·
  have h3 : ¬ i < recs.D.length := by have := of_decide_eq_false h2; omega
  rw [drop_end h3] at hR
  refine Awp.exit ?_
  refine Awp.consP C ?_
  refine rvP C (.agg [.mp 6, .mp 7]) ?_
  refine rvc_un (rexec_prim C (δ := { v := .undef, wr := [(2, some (.cells [.mp 6, .mp 7]))] }) rfl rfl rfl rfl trivial rfl ?_)
  refine rvc_nil ?_
  refine Awp.weakenR (S := [(2, .ptr 2 0)]) (H := [(0, mapE kSlot vRecord.enc vc), (1, mapE kReq vRecord.enc vc1), (2, .cells [.mp 0, .mp 1])]) (U := [0, 1, 2]) (fun x => bif x == 0 then 6 else bif x == 1 then 7 else x) (WeakerR.ofL (Ks := [0, 1, 2]) hI ⟨⟨rfl, rfl⟩, trivial⟩ (okH_map rfl rfl rfl (okH_map rfl rfl rfl (okH_cons rfl rfl rfl rfl okH_nil))) rfl) ?_
  refine Awp.ret ?_
  subst hR
  exact ⟨.inl rfl, rfl, rfl, rfl⟩
def jAnswered (c : Call) : Bool :=
  (bif (c.ended != 0) then (c.err == 0) else false)
theorem jAnswered_calls (c : Call)  : PCalls Try.prog 37 [.agg [.pv (.lit (.int .i64 c.client)), .pv (.lit (.int .i64 c.seq)), .pv (.lit (.bool c.write)), .pv (.lit (.int .u8 (c.key 0))), .pv (.lit (.int .u8 (c.key 1))), .pv (.lit (.int .u8 (c.key 2))), .pv (.lit (.int .u8 (c.key 3))), .pv (.lit (.int .u8 (c.key 4))), .pv (.lit (.int .u8 (c.key 5))), .pv (.lit (.int .u8 (c.key 6))), .pv (.lit (.int .u8 (c.key 7))), .pv (.lit (.string c.value)), .pv (.lit (.int .i64 c.mode)), .pv (.lit (.int .i64 c.bound)), .pv (.lit (.int .i64 c.began)), .pv (.lit (.int .i64 c.ended)), .pv (.lit (.int .i64 c.ver)), .pv (.lit (.int .i64 c.err)), .pv (.lit (.int .i64 c.floor))]] (.pv (.lit (.bool (jAnswered c)))) := by
 generalize hR : jAnswered c = R
 refine PCalls.of_body tabOk Try.func37 rfl rfl rfl rfl rfl mixed fun E hP C hI => ?_
 refine Awp.consP C ?_
 refine rvc_un (rexec_prim C (δ := { v := .ptr 1 0, new := [(1, .cells [.pv (.lit (.int .i64 c.client)), .pv (.lit (.int .i64 c.seq)), .pv (.lit (.bool c.write)), .pv (.lit (.int .u8 (c.key 0))), .pv (.lit (.int .u8 (c.key 1))), .pv (.lit (.int .u8 (c.key 2))), .pv (.lit (.int .u8 (c.key 3))), .pv (.lit (.int .u8 (c.key 4))), .pv (.lit (.int .u8 (c.key 5))), .pv (.lit (.int .u8 (c.key 6))), .pv (.lit (.int .u8 (c.key 7))), .pv (.lit (.string c.value)), .pv (.lit (.int .i64 c.mode)), .pv (.lit (.int .i64 c.bound)), .pv (.lit (.int .i64 c.began)), .pv (.lit (.int .i64 c.ended)), .pv (.lit (.int .i64 c.ver)), .pv (.lit (.int .i64 c.err)), .pv (.lit (.int .i64 c.floor))])] }) rfl rfl rfl rfl trivial rfl ?_)
 refine rvP C (.pv (.lit (.bool false))) ?_
 refine rvc_nil ?_
 refine Awp.consP C ?_
 refine rvP C (.ptr 1 15) ?_
 refine rvP C (.pv (.lit (.int .i64 c.ended))) ?_
 refine rvP C (.pv (.lit (.bool (c.ended != 0)))) ?_
 refine rvP C (.pv (.lit (.bool (c.ended != 0)))) ?_
 refine rvc_case 6 (c.ended != 0) rfl (fun h1 => ?_) (fun h1 => ?_)
 ·
  replace hR := of_true h1 hR
  refine rvO C (.ptr 1 17) ?_
  refine rvO C (.pv (.lit (.int .i64 c.err))) ?_
  refine rvO C (.pv (.lit (.bool (c.err == 0)))) ?_
  refine rvP C (.pv (.lit (.bool (c.err == 0)))) ?_
  refine rvP C (.pv (.lit (.bool (c.err == 0)))) ?_
  refine rvc_nil ?_
  refine Awp.ret ?_
  subst hR
  exact ⟨.inl rfl, rfl⟩
 ·
  replace hR := of_false h1 hR
  refine rvS ?_
  refine rvS ?_
  refine rvS ?_
  refine rvP C (.pv (.lit (.bool false))) ?_
  refine rvP C (.pv (.lit (.bool false))) ?_
  refine rvc_nil ?_
  refine Awp.ret ?_
  subst hR
  exact ⟨.inl rfl, rfl⟩
def jReq (c : Call) : Req :=
  (Req.mk c.client c.seq)
theorem jReq_calls (c : Call)  : PCalls Try.prog 38 [.agg [.pv (.lit (.int .i64 c.client)), .pv (.lit (.int .i64 c.seq)), .pv (.lit (.bool c.write)), .pv (.lit (.int .u8 (c.key 0))), .pv (.lit (.int .u8 (c.key 1))), .pv (.lit (.int .u8 (c.key 2))), .pv (.lit (.int .u8 (c.key 3))), .pv (.lit (.int .u8 (c.key 4))), .pv (.lit (.int .u8 (c.key 5))), .pv (.lit (.int .u8 (c.key 6))), .pv (.lit (.int .u8 (c.key 7))), .pv (.lit (.string c.value)), .pv (.lit (.int .i64 c.mode)), .pv (.lit (.int .i64 c.bound)), .pv (.lit (.int .i64 c.began)), .pv (.lit (.int .i64 c.ended)), .pv (.lit (.int .i64 c.ver)), .pv (.lit (.int .i64 c.err)), .pv (.lit (.int .i64 c.floor))]] (.agg [.pv (.lit (.int .i64 ((jReq c).client))), .pv (.lit (.int .i64 ((jReq c).seq)))]) := by
 generalize hR : jReq c = R
 refine PCalls.of_body tabOk Try.func38 rfl rfl rfl rfl rfl mixed fun E hP C hI => ?_
 refine Awp.consP C ?_
 refine rvc_un (rexec_prim C (δ := { v := .ptr 1 0, new := [(1, .cells [.pv (.lit (.int .i64 c.client)), .pv (.lit (.int .i64 c.seq)), .pv (.lit (.bool c.write)), .pv (.lit (.int .u8 (c.key 0))), .pv (.lit (.int .u8 (c.key 1))), .pv (.lit (.int .u8 (c.key 2))), .pv (.lit (.int .u8 (c.key 3))), .pv (.lit (.int .u8 (c.key 4))), .pv (.lit (.int .u8 (c.key 5))), .pv (.lit (.int .u8 (c.key 6))), .pv (.lit (.int .u8 (c.key 7))), .pv (.lit (.string c.value)), .pv (.lit (.int .i64 c.mode)), .pv (.lit (.int .i64 c.bound)), .pv (.lit (.int .i64 c.began)), .pv (.lit (.int .i64 c.ended)), .pv (.lit (.int .i64 c.ver)), .pv (.lit (.int .i64 c.err)), .pv (.lit (.int .i64 c.floor))])] }) rfl rfl rfl rfl trivial rfl ?_)
 refine rvc_un (rexec_prim C (δ := { v := .ptr 2 0, new := [(2, .cells [.pv (.lit (.int .i64 0)), .pv (.lit (.int .i64 0))])] }) rfl rfl rfl rfl trivial rfl ?_)
 refine rvc_nil ?_
 refine Awp.consP C ?_
 refine rvP C (.ptr 1 0) ?_
 refine rvP C (.pv (.lit (.int .i64 c.client))) ?_
 refine rvP C (.ptr 1 1) ?_
 refine rvP C (.pv (.lit (.int .i64 c.seq))) ?_
 refine rvP C (.agg [.pv (.lit (.int .i64 c.client)), .pv (.lit (.int .i64 c.seq))]) ?_
 refine rvc_un (rexec_prim C (δ := { v := .undef, wr := [(2, some (.cells [.pv (.lit (.int .i64 c.client)), .pv (.lit (.int .i64 c.seq))]))] }) rfl rfl rfl rfl trivial rfl ?_)
 refine rvc_nil ?_
 refine Awp.ret ?_
 subst hR
 exact ⟨.inl rfl, rfl⟩
def jCounts (c : Call) : Bool :=
  (bif c.write then true else (bif (c.mode == 0) then true else (bif (c.mode == 1) then (c.bound == 0) else false)))
theorem jCounts_calls (c : Call)  : PCalls Try.prog 48 [.agg [.pv (.lit (.int .i64 c.client)), .pv (.lit (.int .i64 c.seq)), .pv (.lit (.bool c.write)), .pv (.lit (.int .u8 (c.key 0))), .pv (.lit (.int .u8 (c.key 1))), .pv (.lit (.int .u8 (c.key 2))), .pv (.lit (.int .u8 (c.key 3))), .pv (.lit (.int .u8 (c.key 4))), .pv (.lit (.int .u8 (c.key 5))), .pv (.lit (.int .u8 (c.key 6))), .pv (.lit (.int .u8 (c.key 7))), .pv (.lit (.string c.value)), .pv (.lit (.int .i64 c.mode)), .pv (.lit (.int .i64 c.bound)), .pv (.lit (.int .i64 c.began)), .pv (.lit (.int .i64 c.ended)), .pv (.lit (.int .i64 c.ver)), .pv (.lit (.int .i64 c.err)), .pv (.lit (.int .i64 c.floor))]] (.pv (.lit (.bool (jCounts c)))) := by
 generalize hR : jCounts c = R
 refine PCalls.of_body tabOk Try.func48 rfl rfl rfl rfl rfl mixed fun E hP C hI => ?_
 refine Awp.consP C ?_
 refine rvc_un (rexec_prim C (δ := { v := .ptr 1 0, new := [(1, .cells [.pv (.lit (.int .i64 c.client)), .pv (.lit (.int .i64 c.seq)), .pv (.lit (.bool c.write)), .pv (.lit (.int .u8 (c.key 0))), .pv (.lit (.int .u8 (c.key 1))), .pv (.lit (.int .u8 (c.key 2))), .pv (.lit (.int .u8 (c.key 3))), .pv (.lit (.int .u8 (c.key 4))), .pv (.lit (.int .u8 (c.key 5))), .pv (.lit (.int .u8 (c.key 6))), .pv (.lit (.int .u8 (c.key 7))), .pv (.lit (.string c.value)), .pv (.lit (.int .i64 c.mode)), .pv (.lit (.int .i64 c.bound)), .pv (.lit (.int .i64 c.began)), .pv (.lit (.int .i64 c.ended)), .pv (.lit (.int .i64 c.ver)), .pv (.lit (.int .i64 c.err)), .pv (.lit (.int .i64 c.floor))])] }) rfl rfl rfl rfl trivial rfl ?_)
 refine rvP C (.pv (.lit (.bool false))) ?_
 refine rvc_nil ?_
 refine Awp.consP C ?_
 refine rvP C (.ptr 1 2) ?_
 refine rvP C (.pv (.lit (.bool c.write))) ?_
 refine rvP C (.pv (.lit (.bool c.write))) ?_
 refine rvc_case 5 c.write rfl (fun h1 => ?_) (fun h1 => ?_)
 ·
  replace hR := of_true h1 hR
  refine rvS ?_
  refine rvS ?_
  refine rvS ?_
  refine rvP C (.pv (.lit (.bool true))) ?_
  refine rvP C (.pv (.lit (.bool true))) ?_
  refine rvS ?_
  refine rvS ?_
  refine rvS ?_
  refine rvS ?_
  refine rvc_shutU rfl rfl rfl ?_
  refine rvc_shutU rfl rfl rfl ?_
  refine rvc_shutU rfl rfl rfl ?_
  refine rvS ?_
  refine rvP C (.pv (.lit (.bool true))) ?_
  refine rvP C (.pv (.lit (.bool true))) ?_
  refine rvc_nil ?_
  refine Awp.ret ?_
  subst hR
  exact ⟨.inl rfl, rfl⟩
 ·
  replace hR := of_false h1 hR
  refine rvO C (.ptr 1 12) ?_
  refine rvO C (.pv (.lit (.int .i64 c.mode))) ?_
  refine rvO C (.pv (.lit (.bool (c.mode == 0)))) ?_
  refine rvP C (.pv (.lit (.bool (c.mode == 0)))) ?_
  refine rvP C (.pv (.lit (.bool (c.mode == 0)))) ?_
  refine rvc_case 10 (c.mode == 0) rfl (fun h2 => ?_) (fun h2 => ?_)
  ·
   replace hR := of_true h2 hR
   refine rvS ?_
   refine rvS ?_
   refine rvS ?_
   refine rvS ?_
   refine rvc_shutU rfl rfl rfl ?_
   refine rvc_shutU rfl rfl rfl ?_
   refine rvc_shutU rfl rfl rfl ?_
   refine rvS ?_
   refine rvP C (.pv (.lit (.bool true))) ?_
   refine rvP C (.pv (.lit (.bool true))) ?_
   refine rvc_nil ?_
   refine Awp.ret ?_
   subst hR
   exact ⟨.inl rfl, rfl⟩
  ·
   replace hR := of_false h2 hR
   refine rvO C (.ptr 1 12) ?_
   refine rvO C (.pv (.lit (.int .i64 c.mode))) ?_
   refine rvO C (.pv (.lit (.bool (c.mode == 1)))) ?_
   refine rvO C (.pv (.lit (.bool (c.mode == 1)))) ?_
   refine rvc_case 14 (c.mode == 1) rfl (fun h3 => ?_) (fun h3 => ?_)
   ·
    replace hR := of_true h3 hR
    refine rvO C (.ptr 1 13) ?_
    refine rvO C (.pv (.lit (.int .i64 c.bound))) ?_
    refine rvO C (.pv (.lit (.bool (c.bound == 0)))) ?_
    refine rvO C (.pv (.lit (.bool (c.bound == 0)))) ?_
    refine rvP C (.pv (.lit (.bool (c.bound == 0)))) ?_
    refine rvP C (.pv (.lit (.bool (c.bound == 0)))) ?_
    refine rvc_nil ?_
    refine Awp.ret ?_
    subst hR
    exact ⟨.inl rfl, rfl⟩
   ·
    replace hR := of_false h3 hR
    refine rvS ?_
    refine rvS ?_
    refine rvS ?_
    refine rvO C (.pv (.lit (.bool false))) ?_
    refine rvP C (.pv (.lit (.bool false))) ?_
    refine rvP C (.pv (.lit (.bool false))) ?_
    refine rvc_nil ?_
    refine Awp.ret ?_
    subst hR
    exact ⟨.inl rfl, rfl⟩
end Go.Proofs.Ytoieegmebadfkaa
namespace Go.Proofs.Ytoieegmebadfkaa
open Go.Am
def isNaN (x : Int) : Bool :=
  (x != x)
theorem isNaN_calls (x : Int)  : PCalls Try.prog 74 [.pv (.lit (.int .u8 x))] (.pv (.lit (.bool (isNaN x)))) := by
 generalize hR : isNaN x = R
 refine PCalls.of_body tabOk Try.func74 rfl rfl rfl rfl rfl mixed fun E hP C hI => ?_
 refine Awp.consP C ?_
 refine rvP C (.pv (.lit (.bool false))) ?_
 refine rvc_nil ?_
 refine Awp.consP C ?_
 refine rvP C (.pv (.lit (.int .u8 x))) ?_
 refine rvP C (.pv (.lit (.int .u8 x))) ?_
 refine rvP C (.pv (.lit (.bool (x != x)))) ?_
 refine rvP C (.pv (.lit (.bool (x != x)))) ?_
 refine rvc_nil ?_
 refine Awp.ret ?_
 subst hR
 exact ⟨.inl rfl, rfl⟩
def cmp1 (x : Int) (y : Int) : Int :=
  (bif (isNaN x) then (bif (isNaN y) then 0 else (-1)) else (bif (isNaN y) then 1 else (bif (decide (x < y)) then (-1) else (bif (decide (x > y)) then 1 else 0))))
theorem cmp1_calls (x : Int) (y : Int)  : PCalls Try.prog 60 [.pv (.lit (.int .u8 x)), .pv (.lit (.int .u8 y))] (.pv (.lit (.int .i64 (cmp1 x y)))) := by
 generalize hR : cmp1 x y = R
 refine PCalls.of_body tabOk Try.func60 rfl rfl rfl rfl rfl mixed fun E hP C hI => ?_
 refine Awp.consP C ?_
 refine rvP C (.pv (.lit (.int .i64 0))) ?_
 refine rvc_nil ?_
 refine Awp.consP C ?_
 refine rvP C (.pv (.lit (.int .u8 x))) ?_
 refine rvc_un (rexec_call hP C rfl rfl rfl (isNaN_calls x) ?_)
 refine rvP C (.pv (.lit (.bool (isNaN x)))) ?_
 refine rvc_nil ?_
 refine Awp.consP C ?_
 refine rvP C (.pv (.lit (.int .u8 y))) ?_
 refine rvc_un (rexec_call hP C rfl rfl rfl (isNaN_calls y) ?_)
 refine rvP C (.pv (.lit (.bool (isNaN y)))) ?_
 refine rvc_nil ?_
 refine Awp.seq ?_
 refine Awp.consP C ?_
 refine rvP C (.pv (.lit (.bool (isNaN x)))) ?_
 refine rvc_nil ?_
 refine Awp.cond (b := (isNaN x)) rfl (fun h1 => ?_) (fun h1 => ?_)
 ·
  replace hR := of_true h1 hR
  refine Awp.seq ?_
  refine Awp.consP C ?_
  refine rvP C (.pv (.lit (.bool (isNaN y)))) ?_
  refine rvc_nil ?_
  refine Awp.cond (b := (isNaN y)) rfl (fun h2 => ?_) (fun h2 => ?_)
  ·
   replace hR := of_true h2 hR
   refine Awp.consP C ?_
   refine rvP C (.pv (.lit (.int .i64 0))) ?_
   refine rvc_nil ?_
   refine Awp.ret ?_
   subst hR
   exact ⟨.inl rfl, rfl⟩
  ·
   replace hR := of_false h2 hR
   refine Awp.skip ?_
   refine Awp.consP C ?_
   refine rvP C (.pv (.lit (.int .i64 (-1)))) ?_
   refine rvc_nil ?_
   refine Awp.ret ?_
   subst hR
   exact ⟨.inl rfl, rfl⟩
 ·
  replace hR := of_false h1 hR
  refine Awp.skip ?_
  refine Awp.seq ?_
  refine Awp.consP C ?_
  refine rvP C (.pv (.lit (.bool (isNaN y)))) ?_
  refine rvc_nil ?_
  refine Awp.cond (b := (isNaN y)) rfl (fun h3 => ?_) (fun h3 => ?_)
  ·
   replace hR := of_true h3 hR
   refine Awp.consP C ?_
   refine rvP C (.pv (.lit (.int .i64 1))) ?_
   refine rvc_nil ?_
   refine Awp.ret ?_
   subst hR
   exact ⟨.inl rfl, rfl⟩
  ·
   replace hR := of_false h3 hR
   refine Awp.skip ?_
   refine Awp.seq ?_
   refine Awp.consP C ?_
   refine rvP C (.pv (.lit (.int .u8 x))) ?_
   refine rvP C (.pv (.lit (.int .u8 y))) ?_
   refine rvP C (.pv (.lit (.bool (decide (x < y))))) ?_
   refine rvc_nil ?_
   refine Awp.cond (b := (decide (x < y))) rfl (fun h4 => ?_) (fun h4 => ?_)
   ·
    replace hR := of_true h4 hR
    refine Awp.consP C ?_
    refine rvP C (.pv (.lit (.int .i64 (-1)))) ?_
    refine rvc_nil ?_
    refine Awp.ret ?_
    subst hR
    exact ⟨.inl rfl, rfl⟩
   ·
    replace hR := of_false h4 hR
    refine Awp.skip ?_
    refine Awp.seq ?_
    refine Awp.consP C ?_
    refine rvP C (.pv (.lit (.int .u8 x))) ?_
    refine rvP C (.pv (.lit (.int .u8 y))) ?_
    refine rvP C (.pv (.lit (.bool (decide (x > y))))) ?_
    refine rvc_nil ?_
    refine Awp.cond (b := (decide (x > y))) rfl (fun h5 => ?_) (fun h5 => ?_)
    ·
     replace hR := of_true h5 hR
     refine Awp.consP C ?_
     refine rvP C (.pv (.lit (.int .i64 1))) ?_
     refine rvc_nil ?_
     refine Awp.ret ?_
     subst hR
     exact ⟨.inl rfl, rfl⟩
    ·
     replace hR := of_false h5 hR
     refine Awp.skip ?_
     refine Awp.consP C ?_
     refine rvP C (.pv (.lit (.int .i64 0))) ?_
     refine rvc_nil ?_
     refine Awp.ret ?_
     subst hR
     exact ⟨.inl rfl, rfl⟩
def cmpBytes_l0 (s1 : (Sl Int)) (s2 : (Sl Int)) : List Int → Nat → Int
  | [], _ => (bif (decide ((s1.D.length : Int) < (s2.D.length : Int))) then (-1) else 0)
  | x :: xs, i => (bif (decide ((i : Int) ≥ (s2.D.length : Int))) then 1 else (bif ((cmp1 x (s2.D[(i : Int).toNat]!)) != 0) then (cmp1 x (s2.D[(i : Int).toNat]!)) else cmpBytes_l0 s1 s2 xs (i + 1) ))
def cmpBytes (s1 : (Sl Int)) (s2 : (Sl Int)) : Int :=
  cmpBytes_l0 s1 s2 s1.D 0
theorem cmpBytes_calls (s1 : (Sl Int)) (s2 : (Sl Int)) (hl1 : s1.D.length ≤ 1000000) : PCalls Try.prog 45 [sS (some s1.nil) (eI .u8) s1.D, sS (some s2.nil) (eI .u8) s2.D] (.pv (.lit (.int .i64 (cmpBytes s1 s2)))) := by
 generalize hR : cmpBytes s1 s2 = R
 refine PCalls.of_body tabOk Try.func45 rfl rfl rfl rfl rfl mixed fun E hP C hI => ?_
 refine Awp.consP C ?_
 refine rvP C (.pv (.lit (.int .i64 0))) ?_
 refine rvc_nil ?_
 refine Awp.seq ?_
 refine Awp.consP C ?_
 refine rvP C (sS (some s1.nil) (eI .u8) s1.D) ?_
 refine rvP C (.pv (.lit (.int .i64 (s1.D.length : Int)))) ?_
 refine rvP C (.pv (.lit (.int .i64 0))) ?_
 refine rvc_nil ?_
 refine Awp.block ?_
 refine Awp.forR (σ := Unit) (s1.D.length) (fun i _v => [(0, sS (some s1.nil) (eI .u8) s1.D), (1, sS (some s2.nil) (eI .u8) s2.D), (9, sS (some s1.nil) (eI .u8) s1.D), (10, .pv (.lit (.int .i64 (s1.D.length : Int)))), (11, .pv (.lit (.int .i64 (i : Int))))]) (fun i _v => []) [] (fun i _v => cmpBytes_l0 s1 s2 (s1.D.drop i) i  = R) () ?_ ?_ (fun i _v h1 hR => ?_)
 · exact hR
 · exact ⟨fun b => b, WeakerR.ofL (Ks := []) hI ⟨⟨rfl, rfl⟩, ⟨rfl, rfl⟩, ⟨rfl, rfl⟩, ⟨rfl, rfl⟩, ⟨rfl, rfl⟩, trivial⟩ (okH_nil) rfl⟩
 refine Awp.consP C ?_
 refine rvP C (.pv (.lit (.bool (decide ((i : Int) < (s1.D.length : Int)))))) ?_
 refine rvc_nil ?_
 refine Awp.seq ?_
 refine Awp.cond (b := (decide ((i : Int) < (s1.D.length : Int)))) rfl (fun h2 => ?_) (fun h2 => ?_)
 ·
  have h3 : i < s1.D.length := by have := of_decide_eq_true h2; omega
  obtain ⟨x, h4⟩ := getX h3
  rw [drop_at h4] at hR
  refine Awp.skip ?_
  refine Awp.seq ?_
  refine Awp.block ?_
  refine Awp.consP C ?_
  refine rvP C (.pv (.lit (.int .i64 (i : Int)))) ?_
  refine rvc_un (rexec_idxS C rfl rfl rfl rfl rfl rfl x (Int.natCast_nonneg _) h4 ?_)
  refine rvP C (.pv (.lit (.int .u8 x))) ?_
  refine rvP C (.pv (.lit (.int .i64 (i : Int)))) ?_
  refine rvP C (.pv (.lit (.int .u8 x))) ?_
  refine rvc_nil ?_
  refine Awp.seq ?_
  refine Awp.consP C ?_
  refine rvP C (.pv (.lit (.int .i64 (i : Int)))) ?_
  refine rvP C (sS (some s2.nil) (eI .u8) s2.D) ?_
  refine rvP C (.pv (.lit (.int .i64 (s2.D.length : Int)))) ?_
  refine rvP C (.pv (.lit (.bool (decide ((i : Int) ≥ (s2.D.length : Int)))))) ?_
  refine rvc_nil ?_
  refine Awp.cond (b := (decide ((i : Int) ≥ (s2.D.length : Int)))) rfl (fun h5 => ?_) (fun h5 => ?_)
  ·
   replace hR := of_true h5 hR
   refine Awp.consP C ?_
   refine rvP C (.pv (.lit (.int .i64 1))) ?_
   refine rvc_nil ?_
   refine Awp.ret ?_
   subst hR
   exact ⟨.inl rfl, rfl⟩
  ·
   replace hR := of_false h5 hR
   refine Awp.skip ?_
   refine Awp.consP C ?_
   refine rvP C (sS (some s2.nil) (eI .u8) s2.D) ?_
   refine rvP C (.pv (.lit (.int .i64 (i : Int)))) ?_
   have h6 : s2.D[(i : Int).toNat]? = some s2.D[(i : Int).toNat]! := getE (by have := of_decide_eq_true h2; have := of_decide_eq_false h5; omega)
   refine rvc_un (rexec_idxS C rfl rfl rfl rfl rfl rfl (s2.D[(i : Int).toNat]!) (Int.natCast_nonneg _) h6 ?_)
   refine rvP C (.pv (.lit (.int .u8 (s2.D[(i : Int).toNat]!)))) ?_
   refine rvP C (.pv (.lit (.int .u8 (s2.D[(i : Int).toNat]!)))) ?_
   refine rvc_nil ?_
   refine Awp.consP C ?_
   refine rvP C (.pv (.lit (.int .u8 x))) ?_
   refine rvP C (.pv (.lit (.int .u8 (s2.D[(i : Int).toNat]!)))) ?_
   refine rvc_un (rexec_call hP C rfl rfl rfl (cmp1_calls x (s2.D[(i : Int).toNat]!)) ?_)
   refine rvP C (.pv (.lit (.int .i64 (cmp1 x (s2.D[(i : Int).toNat]!))))) ?_
   refine rvc_nil ?_
   refine Awp.consP C ?_
   refine rvP C (.pv (.lit (.int .i64 (cmp1 x (s2.D[(i : Int).toNat]!))))) ?_
   refine rvP C (.pv (.lit (.bool ((cmp1 x (s2.D[(i : Int).toNat]!)) != 0)))) ?_
   refine rvc_nil ?_
   refine Awp.cond (b := ((cmp1 x (s2.D[(i : Int).toNat]!)) != 0)) rfl (fun h7 => ?_) (fun h7 => ?_)
   ·
    replace hR := of_true h7 hR
    refine Awp.consP C ?_
    refine rvP C (.pv (.lit (.int .i64 (cmp1 x (s2.D[(i : Int).toNat]!))))) ?_
    refine rvP C (.pv (.lit (.int .i64 (cmp1 x (s2.D[(i : Int).toNat]!))))) ?_
    refine rvc_nil ?_
    refine Awp.ret ?_
    subst hR
    exact ⟨.inl rfl, rfl⟩
   ·
    replace hR := of_false h7 hR
    refine Awp.skip ?_
    refine Awp.regionP C ?_
    refine rvP C (.pv (.lit (.int .i64 (IntKind.i64.wrap ((i : Int) + 1))))) ?_
    refine rvP C (.pv (.lit (.int .i64 (IntKind.i64.wrap ((i : Int) + 1))))) ?_
    refine rvc_nil ?_
    refine ⟨h3, (), ?_, ?_⟩
    · exact hR
    · exact ⟨fun b => b, WeakerR.ofL (Ks := []) hI ⟨⟨rfl, rfl⟩, ⟨rfl, rfl⟩, ⟨rfl, rfl⟩, ⟨rfl, rfl⟩, ⟨lit_cast (wrap_i64 (by omega) (by omega)), rfl⟩, trivial⟩ (okH_nil) rfl⟩
 ·
  have h3 : ¬ i < s1.D.length := by have := of_decide_eq_false h2; omega
  rw [drop_end h3] at hR
  refine Awp.exit ?_
  refine Awp.seq ?_
  refine Awp.consP C ?_
  refine rvP C (sS (some s1.nil) (eI .u8) s1.D) ?_
  refine rvP C (.pv (.lit (.int .i64 (s1.D.length : Int)))) ?_
  refine rvP C (sS (some s2.nil) (eI .u8) s2.D) ?_
  refine rvP C (.pv (.lit (.int .i64 (s2.D.length : Int)))) ?_
  refine rvP C (.pv (.lit (.bool (decide ((s1.D.length : Int) < (s2.D.length : Int)))))) ?_
  refine rvc_nil ?_
  refine Awp.cond (b := (decide ((s1.D.length : Int) < (s2.D.length : Int)))) rfl (fun h8 => ?_) (fun h8 => ?_)
  ·
   replace hR := of_true h8 hR
   refine Awp.consP C ?_
   refine rvP C (.pv (.lit (.int .i64 (-1)))) ?_
   refine rvc_nil ?_
   refine Awp.ret ?_
   subst hR
   exact ⟨.inl rfl, rfl⟩
  ·
   replace hR := of_false h8 hR
   refine Awp.skip ?_
   refine Awp.consP C ?_
   refine rvP C (.pv (.lit (.int .i64 0))) ?_
   refine rvc_nil ?_
   refine Awp.ret ?_
   subst hR
   exact ⟨.inl rfl, rfl⟩
def cmpKeys (a : (Nat → Int)) (b : (Nat → Int)) : Int :=
  (cmpBytes (Sl.mk false (tbF a 8 0)) (Sl.mk false (tbF b 8 0)))
theorem cmpKeys_calls (a : (Nat → Int)) (b : (Nat → Int))  : PCalls Try.prog 44 [.agg [.pv (.lit (.int .u8 (a 0))), .pv (.lit (.int .u8 (a 1))), .pv (.lit (.int .u8 (a 2))), .pv (.lit (.int .u8 (a 3))), .pv (.lit (.int .u8 (a 4))), .pv (.lit (.int .u8 (a 5))), .pv (.lit (.int .u8 (a 6))), .pv (.lit (.int .u8 (a 7)))], .agg [.pv (.lit (.int .u8 (b 0))), .pv (.lit (.int .u8 (b 1))), .pv (.lit (.int .u8 (b 2))), .pv (.lit (.int .u8 (b 3))), .pv (.lit (.int .u8 (b 4))), .pv (.lit (.int .u8 (b 5))), .pv (.lit (.int .u8 (b 6))), .pv (.lit (.int .u8 (b 7)))]] (.pv (.lit (.int .i64 (cmpKeys a b)))) := by
 generalize hR : cmpKeys a b = R
 refine PCalls.of_body tabOk Try.func44 rfl rfl rfl rfl rfl mixed fun E hP C hI => ?_
 refine Awp.consP C ?_
 refine rvc_un (rexec_boxF C [.lit (.int .u8 (a 0)), .lit (.int .u8 (a 1)), .lit (.int .u8 (a 2)), .lit (.int .u8 (a 3)), .lit (.int .u8 (a 4)), .lit (.int .u8 (a 5)), .lit (.int .u8 (a 6)), .lit (.int .u8 (a 7))] rfl rfl rfl rfl ?_)
 refine rvc_un (rexec_boxF C [.lit (.int .u8 (b 0)), .lit (.int .u8 (b 1)), .lit (.int .u8 (b 2)), .lit (.int .u8 (b 3)), .lit (.int .u8 (b 4)), .lit (.int .u8 (b 5)), .lit (.int .u8 (b 6)), .lit (.int .u8 (b 7))] rfl rfl rfl rfl ?_)
 refine rvP C (.pv (.lit (.int .i64 0))) ?_
 refine rvc_nil ?_
 refine Awp.consP C ?_
 refine rvc_un (rexec_prim C (δ := { v := sS (some false) (eI .u8) (tbF a 8 0) }) rfl rfl rfl rfl (by decide) rfl ?_)
 refine rvc_un (rexec_prim C (δ := { v := sS (some false) (eI .u8) (tbF b 8 0) }) rfl rfl rfl rfl (by decide) rfl ?_)
 refine rvc_un (rexec_call hP C rfl rfl rfl (cmpBytes_calls (Sl.mk false (tbF a 8 0)) (Sl.mk false (tbF b 8 0)) (by show 8 ≤ 1000000; decide)) ?_)
 refine rvP C (.pv (.lit (.int .i64 (cmpBytes (Sl.mk false (tbF a 8 0)) (Sl.mk false (tbF b 8 0)))))) ?_
 refine rvc_nil ?_
 refine Awp.ret ?_
 subst hR
 exact ⟨.inl rfl, rfl⟩
end Go.Proofs.Ytoieegmebadfkaa
namespace Go.Proofs.Ytoieegmebadfkaa
open Go.Am
open Go.Shelf (Ren)
def layB_ren : Ren := ⟨fun x => match x with | 125 => 59 | 128 => 72 | 129 => 73 | n => n, fun x => match x with | 46 => 45 | 3 => 3 | 51 => 107 | 53 => 71 | 4 => 4 | 5 => 5 | 9 => 9 | n => n, fun n => n⟩
theorem layB : Lays.n125 Try.prog layB_ren where
  mixed := mixed
  f125 := Try.func59
  f128 := Try.func72
  f129 := Try.func73
  t3 := Try.underlying3
  a3 := Try.isAgg3
  z3 := Try.sizeOf3
  v3 := Try.zeroValue3
  t4 := Try.underlying4
  a4 := Try.isAgg4
  z4 := Try.sizeOf4
  v4 := Try.zeroValue4
  t5 := Try.underlying5
  a5 := Try.isAgg5
  z5 := Try.sizeOf5
  v5 := Try.zeroValue5
  t9 := Try.underlying9
  a9 := Try.isAgg9
  z9 := Try.sizeOf9
  v9 := Try.zeroValue9
  t46 := Try.underlying45
  a46 := Try.isAgg45
  z46 := Try.sizeOf45
  v46 := Try.zeroValue45
  t51 := Try.underlying107
  a51 := Try.isAgg107
  z51 := Try.sizeOf107
  v51 := Try.zeroValue107
  t53 := Try.underlying71
  a53 := Try.isAgg71
  z53 := Try.sizeOf71
  v53 := Try.zeroValue71
def bitsLen (x : Int) : Int := (Lib.bitLen x.toNat : Nat)
theorem bitsLen_calls (x : Int) (h : 0 ≤ x ∧ x ≤ 18446744073709551615) : PCalls Try.prog 59 [.pv (.lit (.int .u64 x))] (.pv (.lit (.int .i64 (bitsLen x)))) where
  fn := ⟨Try.f59, Try.func59, rfl, rfl⟩
  args := rfl
  res := rfl
  calls := by
    intro ι imm w M vs hH hv hi hb
    obtain ⟨v, us, rfl, h1, h2⟩ := hv
    simp only [VHs] at h2
    subst h2
    have h1 : v = .int .u64 x := by simp only [VH, PH] at h1; exact h1.1
    subst h1
    refine (Any.bits_Len layB x w h.1 h.2).mono ?_
    rintro e w' ⟨rfl, rfl⟩
    refine ⟨_, ι, imm, rfl, ⟨rfl, rfl⟩, Grows.refl _ _ _, ⟨rfl, rfl, rfl, Nat.le_refl _, fun _ _ _ => rfl, Nat.le_refl _⟩, ⟨fun b k h => (by cases h), fun b b' k k' r z z' h => (by cases h)⟩, fun k hk => .inl hk, hi⟩
end Go.Proofs.Ytoieegmebadfkaa
namespace Go.Proofs.Ytoieegmebadfkaa
open Go.Am
open Go.Shelf (Ren)
def layK_ren : Ren := ⟨fun x => match x with | 6 => 43 | 15 => 59 | 14 => 58 | 28 => 72 | 29 => 73 | 20 => 64 | 21 => 65 | 22 => 66 | 23 => 67 | 24 => 68 | 25 => 69 | 26 => 70 | 27 => 71 | 46 => 77 | 47 => 78 | 48 => 79 | 49 => 80 | 50 => 81 | 57 => 83 | n => n, fun x => match x with | 22 => 36 | 24 => 31 | 25 => 75 | 3 => 3 | 39 => 45 | 0 => 0 | 53 => 107 | 55 => 71 | 4 => 4 | 46 => 100 | 45 => 99 | 50 => 104 | 5 => 5 | 9 => 9 | 66 => 112 | 70 => 116 | 76 => 118 | 77 => 119 | n => n, fun n => n⟩
theorem layK : SlLaysF0.n6 Try.prog layK_ren where
  mixed := mixed
  f6 := ⟨Try.f43.name, rfl, Try.func43⟩
  f14 := ⟨Try.f58.name, rfl, Try.func58⟩
  f15 := Try.func59
  f20 := ⟨Try.f64.name, rfl, Try.func64⟩
  f21 := ⟨Try.f65.name, rfl, Try.func65⟩
  f22 := ⟨Try.f66.name, rfl, Try.func66⟩
  f23 := ⟨Try.f67.name, rfl, Try.func67⟩
  f24 := ⟨Try.f68.name, rfl, Try.func68⟩
  f25 := ⟨Try.f69.name, rfl, Try.func69⟩
  f26 := ⟨Try.f70.name, rfl, Try.func70⟩
  f27 := ⟨Try.f71.name, rfl, Try.func71⟩
  f28 := Try.func72
  f29 := Try.func73
  f46 := ⟨Try.f77.name, rfl, Try.func77⟩
  f47 := Try.func78
  f48 := Try.func79
  f49 := ⟨Try.f80.name, rfl, Try.func80⟩
  f50 := ⟨Try.f81.name, rfl, Try.func81⟩
  f57 := ⟨Try.f83.name, rfl, Try.func83⟩
  t0 := Try.underlying0
  a0 := Try.isAgg0
  z0 := Try.sizeOf0
  v0 := Try.zeroValue0
  t3 := Try.underlying3
  a3 := Try.isAgg3
  z3 := Try.sizeOf3
  v3 := Try.zeroValue3
  t4 := Try.underlying4
  a4 := Try.isAgg4
  z4 := Try.sizeOf4
  v4 := Try.zeroValue4
  t5 := Try.underlying5
  a5 := Try.isAgg5
  z5 := Try.sizeOf5
  v5 := Try.zeroValue5
  t9 := Try.underlying9
  a9 := Try.isAgg9
  z9 := Try.sizeOf9
  v9 := Try.zeroValue9
  t22 := Try.underlying36
  a22 := Try.isAgg36
  z22 := Try.sizeOf36
  v22 := Try.zeroValue36
  t25 := Try.underlying75
  a25 := Try.isAgg75
  z25 := Try.sizeOf75
  v25 := Try.zeroValue75
  t39 := Try.underlying45
  a39 := Try.isAgg45
  z39 := Try.sizeOf45
  v39 := Try.zeroValue45
  t45 := Try.underlying99
  a45 := Try.isAgg99
  z45 := Try.sizeOf99
  v45 := Try.zeroValue99
  t46 := Try.underlying100
  a46 := Try.isAgg100
  z46 := Try.sizeOf100
  v46 := Try.zeroValue100
  t50 := Try.underlying104
  a50 := Try.isAgg104
  z50 := Try.sizeOf104
  v50 := Try.zeroValue104
  t53 := Try.underlying107
  a53 := Try.isAgg107
  z53 := Try.sizeOf107
  v53 := Try.zeroValue107
  t55 := Try.underlying71
  a55 := Try.isAgg71
  z55 := Try.sizeOf71
  v55 := Try.zeroValue71
  t66 := Try.underlying112
  a66 := Try.isAgg112
  z66 := Try.sizeOf112
  v66 := Try.zeroValue112
  t70 := Try.underlying116
  a70 := Try.isAgg116
  z70 := Try.sizeOf116
  v70 := Try.zeroValue116
  t76 := Try.underlying118
  a76 := Try.isAgg118
  z76 := Try.sizeOf118
  v76 := Try.zeroValue118
  t77 := Try.underlying119
  a77 := Try.isAgg119
  z77 := Try.sizeOf119
  v77 := Try.zeroValue119
def sortKeys (D : List (Nat → Int)) (cmp : (Nat → Int) → (Nat → Int) → Int) : List (Nat → Int) := (Go.Sort.pdq (ltOf cmp) D.toArray 0 D.length (Lib.bitLen D.length) true true).toList
theorem key_lits (x : Nat → Int) : allLits ((eA8 .u8).enc x) := fun p hp => by
  simp only [eA8, List.mem_cons, List.not_mem_nil, or_false] at hp
  rcases hp with rfl | rfl | rfl | rfl | rfl | rfl | rfl | rfl <;> exact ⟨rfl, rfl⟩
theorem sortKeys_calls (D : List (Nat → Int)) (cmp : (Nat → Int) → (Nat → Int) → Int) (g1 : Nat) (caps1 : List AV) (hp1 : ∀ (x0 x1 : Nat → Int), PCalls Try.prog g1 ([.agg (((eA8 .u8).enc x0).map .pv), .agg (((eA8 .u8).enc x1).map .pv)] ++ caps1) (.pv (.lit (.int .i64 (cmp x0 x1))))) (hw1 : AV.withinL (fun _ => false) caps1 = true) (hO : Go.Sort.SWO (ltOf cmp)) (hL : D.length ≤ 1000000) :
    MCalls Try.prog 43 [.sl 0 0 D.length 8 false, .fn g1 [] caps1] (.cells (encC (eA8 .u8) D)) (.tup []) (.cells (encC (eA8 .u8) (sortKeys D cmp))) := by
  have S : SortsK Try.prog 43 (fun x : Nat → Int => ((eA8 .u8).enc x).map litOf) (eA8 .u8).sz cmp (fun d => Go.Sort.pdq (ltOf cmp) d 0 d.size (Lib.bitLen d.size) true true) := fun g cb blk off cap d w eg hcmp hH hblk hsz =>
    AnyQ.slices_SortFunc_eq layK 8 Try.isAgg31 Try.sizeOf31 (fun x : Nat → Int => ((eA8 .u8).enc x).map litOf) (fun _ => rfl) (fun x v hv => by
      simp only [eA8, List.map_cons, List.map_nil, litOf, List.mem_cons, List.not_mem_nil, or_false] at hv
      rcases hv with rfl | rfl | rfl | rfl | rfl | rfl | rfl | rfl <;> rfl) cmp hO g cb blk off cap d w eg hcmp hH hblk hsz
  have := sortK_calls Try.func43 rfl rfl (e := eA8 .u8) key_lits (fun d => (Go.Sort.pdq_sorts (ltOf cmp) hO d 0 d.size (Lib.bitLen d.size) true true (Nat.zero_le _) (Nat.le_refl _) (Or.inl rfl)).1.1) S D false (by omega) g1 caps1 hp1 hw1 (fun _ => 0)
  simp only [List.size_toArray] at this
  exact this
end Go.Proofs.Ytoieegmebadfkaa
namespace Go.Proofs.Ytoieegmebadfkaa
open Go.Am
theorem zeroKey : ∀ v ∈ ((tab.lookup 31).get rfl).zero.cells.toList, single v := by
  intro v hv
  have e : ((tab.lookup 31).get rfl).zero.cells.toList = [.int .u8 0, .int .u8 0, .int .u8 0, .int .u8 0, .int .u8 0, .int .u8 0, .int .u8 0, .int .u8 0] := by kernel_rfl
  rw [e] at hv
  simp only [List.mem_cons, List.not_mem_nil, or_false] at hv
  rcases hv with rfl | rfl | rfl | rfl | rfl | rfl | rfl | rfl <;> exact ⟨fun c h => (by cases h), fun c h => (by cases h)⟩
end Go.Proofs.Ytoieegmebadfkaa
namespace Go.Proofs.Ytoieegmebadfkaa
open Go.Am
def compactKeys_l1 (s : List (Nat → Int)) (k : Int) (kk : Int → Int → (List (Nat → Int)) → List (Nat → Int)) : Nat → Int → Int → (List (Nat → Int)) → List (Nat → Int)
  | 0, _, _, _ => default
  | nn + 1, k1, k2, vc => (bif (decide (k2 < ((s.length - k.toNat : Nat) : Int))) then (bif (!(((vc[(k.toNat + k2.toNat)]! 0) == (vc[(k.toNat + (IntKind.i64.wrap (k2 - 1)).toNat)]! 0)) && (((vc[(k.toNat + k2.toNat)]! 1) == (vc[(k.toNat + (IntKind.i64.wrap (k2 - 1)).toNat)]! 1)) && (((vc[(k.toNat + k2.toNat)]! 2) == (vc[(k.toNat + (IntKind.i64.wrap (k2 - 1)).toNat)]! 2)) && (((vc[(k.toNat + k2.toNat)]! 3) == (vc[(k.toNat + (IntKind.i64.wrap (k2 - 1)).toNat)]! 3)) && (((vc[(k.toNat + k2.toNat)]! 4) == (vc[(k.toNat + (IntKind.i64.wrap (k2 - 1)).toNat)]! 4)) && (((vc[(k.toNat + k2.toNat)]! 5) == (vc[(k.toNat + (IntKind.i64.wrap (k2 - 1)).toNat)]! 5)) && (((vc[(k.toNat + k2.toNat)]! 6) == (vc[(k.toNat + (IntKind.i64.wrap (k2 - 1)).toNat)]! 6)) && (((vc[(k.toNat + k2.toNat)]! 7) == (vc[(k.toNat + (IntKind.i64.wrap (k2 - 1)).toNat)]! 7)) && true))))))))) then compactKeys_l1 s k kk nn (IntKind.i64.wrap (k1 + 1)) (IntKind.i64.wrap (k2 + 1)) (vc.set k1.toNat (vc[(k.toNat + k2.toNat)]!)) else compactKeys_l1 s k kk nn k1 (IntKind.i64.wrap (k2 + 1)) vc) else kk k1 k2 vc)
def compactKeys_l0 (s : List (Nat → Int)) : Nat → Int → List (Nat → Int)
  | 0, _ => default
  | nn + 1, k => (bif (decide (k < (s.length : Int))) then (bif (((s[k.toNat]! 0) == (s[(IntKind.i64.wrap (k - 1)).toNat]! 0)) && (((s[k.toNat]! 1) == (s[(IntKind.i64.wrap (k - 1)).toNat]! 1)) && (((s[k.toNat]! 2) == (s[(IntKind.i64.wrap (k - 1)).toNat]! 2)) && (((s[k.toNat]! 3) == (s[(IntKind.i64.wrap (k - 1)).toNat]! 3)) && (((s[k.toNat]! 4) == (s[(IntKind.i64.wrap (k - 1)).toNat]! 4)) && (((s[k.toNat]! 5) == (s[(IntKind.i64.wrap (k - 1)).toNat]! 5)) && (((s[k.toNat]! 6) == (s[(IntKind.i64.wrap (k - 1)).toNat]! 6)) && (((s[k.toNat]! 7) == (s[(IntKind.i64.wrap (k - 1)).toNat]! 7)) && true)))))))) then compactKeys_l1 s k (fun k1 _ vc => (vc.take k1.toNat)) (((s.length : Int) - k - 1).toNat + 1) k 1 s else compactKeys_l0 s nn (IntKind.i64.wrap (k + 1))) else s)
def compactKeys (s : List (Nat → Int)) : List (Nat → Int) :=
  (bif (decide ((s.length : Int) < 2)) then s else compactKeys_l0 s (((s.length : Int) - 1).toNat + 1) 1)
theorem compactKeys_calls (s : List (Nat → Int)) (hL : s.length ≤ 1000000) : XCalls Try.prog 46 [.sl 0 0 s.length 8 false] (.cells (encC (eA8 .u8) s)) (sS (some false) (eA8 .u8) (compactKeys s)) := by
 generalize hR : compactKeys s = R
 refine XCalls.of_body tabOk Try.func46 rfl rfl rfl rfl rfl (encC_within _ _) mixed fun E hP C hI => ?_
 refine Awp.consP C ?_
 refine rvP C (sS (some true) (eA8 .u8) []) ?_
 refine rvc_nil ?_
 refine Awp.seq ?_
 refine Awp.consP C ?_
 refine rvP C (.sl 0 0 s.length 8 false) ?_
 refine rvP C (.pv (.lit (.int .i64 (s.length : Int)))) ?_
 refine rvP C (.pv (.lit (.bool (decide ((s.length : Int) < 2))))) ?_
 refine rvc_nil ?_
 refine Awp.cond (b := (decide ((s.length : Int) < 2))) rfl (fun h1 => ?_) (fun h1 => ?_)
 ·
  replace hR := of_true h1 hR
  refine Awp.consP C ?_
  refine rvP C (.sl 0 0 s.length 8 false) ?_
  refine rvP C (.sl 0 0 s.length 8 false) ?_
  refine rvc_nil ?_
  refine Awp.freezeW 0 (encL (eA8 .u8) s) ?_ [(2, sS (some false) (eA8 .u8) s)] [] ?_ ?_ ?_
  · rfl
  · exact ⟨⟨_, rfl, .inl (.inr ⟨_, _, _, rfl, rfl⟩)⟩, trivial⟩
  · exact trivial
  refine Awp.ret ?_
  subst hR
  exact ⟨.inl rfl, rfl⟩
 ·
  replace hR := of_false h1 hR
  refine Awp.skip ?_
  refine Awp.seq ?_
  refine Awp.consP C ?_
  refine rvP C (.pv (.lit (.int .i64 1))) ?_
  refine rvc_nil ?_
  refine Awp.block ?_
  refine Awp.forM (σ := Int) (fun v => [(0, .sl 0 0 s.length 8 false), (3, .pv (.lit (.int .i64 v)))]) (fun v => [(0, .cells (encC (eA8 .u8) s))]) [0] (fun n v => n = ((s.length : Int) - v).toNat ∧ compactKeys_l0 s (((s.length : Int) - v).toNat + 1) v = R ∧ (1 ≤ v ∧ v ≤ (s.length : Int))) (((s.length : Int) - 1).toNat) 1 ?_ ?_ (fun _ k h2 => ?_)
  · exact ⟨rfl, hR, (by have hx_ := of_decide_eq_false ‹decide ((s.length : Int) < 2) = false›; omega)⟩
  · exact ⟨fun b => b, WeakerR.ofLI (I := [0]) (Ks := [0]) hI ⟨⟨rfl, rfl⟩, ⟨rfl, rfl⟩, trivial⟩ (okH_list rfl rfl rfl (okH_nil)) rfl rfl⟩
  obtain ⟨rfl, hR, hV⟩ := h2
  replace hV : 1 ≤ k ∧ k ≤ (s.length : Int) := hV
  refine Awp.seq ?_
  refine Awp.consP C ?_
  refine rvP C (.pv (.lit (.int .i64 k))) ?_
  refine rvP C (.sl 0 0 s.length 8 false) ?_
  refine rvP C (.pv (.lit (.int .i64 (s.length : Int)))) ?_
  refine rvP C (.pv (.lit (.bool (decide (k < (s.length : Int)))))) ?_
  refine rvc_nil ?_
  refine Awp.cond (b := (decide (k < (s.length : Int)))) rfl (fun h4 => ?_) (fun h4 => ?_)
  ·
   replace hR := of_true h4 hR
   refine Awp.skip ?_
   refine Awp.seq ?_
   refine Awp.block ?_
   refine Awp.consP C ?_
   refine rvP C (.sl 0 0 s.length 8 false) ?_
   refine rvP C (.pv (.lit (.int .i64 k))) ?_
   have h5 : s[k.toNat]? = some s[k.toNat]! := getE (by have hc_ := of_decide_eq_true ‹decide (k < (s.length : Int)) = true›; have hw_ := wrapI (k - 1) (by omega); have hw1_ := wrapI (k + 1) (by omega); omega)
   refine rvc_un (rexec_prim C (δ := { v := .ptr 0 (0 + k.toNat * 8) }) rfl rfl rfl rfl ⟨(by have hc_ := of_decide_eq_true ‹decide (k < (s.length : Int)) = true›; have hw_ := wrapI (k - 1) (by omega); have hw1_ := wrapI (k + 1) (by omega); omega), (by have hc_ := of_decide_eq_true ‹decide (k < (s.length : Int)) = true›; have hw_ := wrapI (k - 1) (by omega); have hw1_ := wrapI (k + 1) (by omega); omega)⟩ rfl ?_)
   refine rvc_un (rexec_loadE C (e := (eA8 .u8)) k.toNat 0 (s[k.toNat]!) (.agg [.pv (.lit (.int .u8 (s[k.toNat]! 0))), .pv (.lit (.int .u8 (s[k.toNat]! 1))), .pv (.lit (.int .u8 (s[k.toNat]! 2))), .pv (.lit (.int .u8 (s[k.toNat]! 3))), .pv (.lit (.int .u8 (s[k.toNat]! 4))), .pv (.lit (.int .u8 (s[k.toNat]! 5))), .pv (.lit (.int .u8 (s[k.toNat]! 6))), .pv (.lit (.int .u8 (s[k.toNat]! 7)))]) rfl rfl rfl rfl h5 (by simp [eA8]) (by decide) (by decide) rfl ?_)
   refine rvP C (.sl 0 0 s.length 8 false) ?_
   refine rvP C (.pv (.lit (.int .i64 k))) ?_
   refine rvP C (.pv (.lit (.int .i64 (IntKind.i64.wrap (k - 1))))) ?_
   have h6 : s[(IntKind.i64.wrap (k - 1)).toNat]? = some s[(IntKind.i64.wrap (k - 1)).toNat]! := getE (by have hc_ := of_decide_eq_true ‹decide (k < (s.length : Int)) = true›; have hw_ := wrapI (k - 1) (by omega); have hw1_ := wrapI (k + 1) (by omega); omega)
   refine rvc_un (rexec_prim C (δ := { v := .ptr 0 (0 + (IntKind.i64.wrap (k - 1)).toNat * 8) }) rfl rfl rfl rfl ⟨(by have hc_ := of_decide_eq_true ‹decide (k < (s.length : Int)) = true›; have hw_ := wrapI (k - 1) (by omega); have hw1_ := wrapI (k + 1) (by omega); omega), (by have hc_ := of_decide_eq_true ‹decide (k < (s.length : Int)) = true›; have hw_ := wrapI (k - 1) (by omega); have hw1_ := wrapI (k + 1) (by omega); omega)⟩ rfl ?_)
   refine rvc_un (rexec_loadE C (e := (eA8 .u8)) ((IntKind.i64.wrap (k - 1)).toNat) 0 (s[(IntKind.i64.wrap (k - 1)).toNat]!) (.agg [.pv (.lit (.int .u8 (s[(IntKind.i64.wrap (k - 1)).toNat]! 0))), .pv (.lit (.int .u8 (s[(IntKind.i64.wrap (k - 1)).toNat]! 1))), .pv (.lit (.int .u8 (s[(IntKind.i64.wrap (k - 1)).toNat]! 2))), .pv (.lit (.int .u8 (s[(IntKind.i64.wrap (k - 1)).toNat]! 3))), .pv (.lit (.int .u8 (s[(IntKind.i64.wrap (k - 1)).toNat]! 4))), .pv (.lit (.int .u8 (s[(IntKind.i64.wrap (k - 1)).toNat]! 5))), .pv (.lit (.int .u8 (s[(IntKind.i64.wrap (k - 1)).toNat]! 6))), .pv (.lit (.int .u8 (s[(IntKind.i64.wrap (k - 1)).toNat]! 7)))]) rfl rfl rfl rfl h6 (by simp [eA8]) (by decide) (by decide) rfl ?_)
   refine rvP C (.pv (.lit (.bool (((s[k.toNat]! 0) == (s[(IntKind.i64.wrap (k - 1)).toNat]! 0)) && (((s[k.toNat]! 1) == (s[(IntKind.i64.wrap (k - 1)).toNat]! 1)) && (((s[k.toNat]! 2) == (s[(IntKind.i64.wrap (k - 1)).toNat]! 2)) && (((s[k.toNat]! 3) == (s[(IntKind.i64.wrap (k - 1)).toNat]! 3)) && (((s[k.toNat]! 4) == (s[(IntKind.i64.wrap (k - 1)).toNat]! 4)) && (((s[k.toNat]! 5) == (s[(IntKind.i64.wrap (k - 1)).toNat]! 5)) && (((s[k.toNat]! 6) == (s[(IntKind.i64.wrap (k - 1)).toNat]! 6)) && (((s[k.toNat]! 7) == (s[(IntKind.i64.wrap (k - 1)).toNat]! 7)) && true))))))))))) ?_
   refine rvc_nil ?_
   refine Awp.cond (b := (((s[k.toNat]! 0) == (s[(IntKind.i64.wrap (k - 1)).toNat]! 0)) && (((s[k.toNat]! 1) == (s[(IntKind.i64.wrap (k - 1)).toNat]! 1)) && (((s[k.toNat]! 2) == (s[(IntKind.i64.wrap (k - 1)).toNat]! 2)) && (((s[k.toNat]! 3) == (s[(IntKind.i64.wrap (k - 1)).toNat]! 3)) && (((s[k.toNat]! 4) == (s[(IntKind.i64.wrap (k - 1)).toNat]! 4)) && (((s[k.toNat]! 5) == (s[(IntKind.i64.wrap (k - 1)).toNat]! 5)) && (((s[k.toNat]! 6) == (s[(IntKind.i64.wrap (k - 1)).toNat]! 6)) && (((s[k.toNat]! 7) == (s[(IntKind.i64.wrap (k - 1)).toNat]! 7)) && true))))))))) rfl (fun h7 => ?_) (fun h7 => ?_)
   ·
    replace hR := of_true h7 hR
    refine Awp.consP C ?_
    refine rvP C (.sl 0 0 s.length 8 false) ?_
    refine rvP C (.pv (.lit (.int .i64 k))) ?_
    refine rvc_un (rexec_fromOwn C rfl rfl rfl rfl rfl rfl rfl ⟨(by omega), (by have hc_ := of_decide_eq_true ‹decide (k < (s.length : Int)) = true›; have hw_ := wrapI (k - 1) (by omega); have hw1_ := wrapI (k + 1) (by omega); omega)⟩ ?_)
    refine rvP C (.sl 0 (k.toNat * 8) (s.length - k.toNat) 8 false) ?_
    refine rvc_nil ?_
    refine Awp.seq ?_
    refine Awp.consP C ?_
    refine rvP C (.pv (.lit (.int .i64 1))) ?_
    refine rvc_nil ?_
    refine Awp.block ?_
    refine Awp.forM (σ := Int × Int × ((List (Nat → Int)))) (fun v => [(0, .sl 0 0 s.length 8 false), (3, .pv (.lit (.int .i64 v.1))), (4, .sl 0 (k.toNat * 8) (s.length - k.toNat) 8 false), (5, .pv (.lit (.int .i64 v.2.1)))]) (fun v => [(0, .cells (encC (eA8 .u8) v.2.2))]) [0] (fun n v => n = ((s.length : Int) - k - v.2.1).toNat ∧ compactKeys_l1 s k (fun k1 _ vc => (vc.take k1.toNat)) (((s.length : Int) - k - v.2.1).toNat + 1) v.1 v.2.1 v.2.2 = R ∧ ((k ≤ v.1 ∧ v.1 ≤ k + v.2.1 - 1 ∧ 1 ≤ v.2.1 ∧ v.2.1 ≤ (s.length : Int) - k) ∧ v.2.2.length = s.length)) (((s.length : Int) - k - 1).toNat) (k, 1, s) ?_ ?_ (fun _ v h8 => ?_)
    · exact ⟨rfl, hR, ⟨(by dsimp only; have hc_ := of_decide_eq_true ‹decide (k < (s.length : Int)) = true›; have hw_ := wrapI (k - 1) (by omega); have hw1_ := wrapI (k + 1) (by omega); omega), rfl⟩⟩
    · exact ⟨fun b => b, WeakerR.ofLI (I := [0]) (Ks := [0]) hI ⟨⟨rfl, rfl⟩, ⟨rfl, rfl⟩, ⟨rfl, rfl⟩, ⟨rfl, rfl⟩, trivial⟩ (okH_list rfl rfl rfl (okH_nil)) rfl rfl⟩
    obtain ⟨k1, k2, vc⟩ := v
    obtain ⟨rfl, hR, ⟨hW, hWn⟩⟩ := h8
    replace hW : k ≤ k1 ∧ k1 ≤ k + k2 - 1 ∧ 1 ≤ k2 ∧ k2 ≤ (s.length : Int) - k := hW
    replace hWn : vc.length = s.length := hWn
    refine Awp.seq ?_
    refine Awp.consP C ?_
    refine rvP C (.pv (.lit (.int .i64 k2))) ?_
    refine rvP C (.sl 0 (k.toNat * 8) (s.length - k.toNat) 8 false) ?_
    refine rvP C (.pv (.lit (.int .i64 ((s.length - k.toNat : Nat) : Int)))) ?_
    refine rvP C (.pv (.lit (.bool (decide (k2 < ((s.length - k.toNat : Nat) : Int)))))) ?_
    refine rvc_nil ?_
    refine Awp.cond (b := (decide (k2 < ((s.length - k.toNat : Nat) : Int)))) rfl (fun h10 => ?_) (fun h10 => ?_)
    ·
     replace hR := of_true h10 hR
     refine Awp.skip ?_
     refine Awp.seq ?_
     refine Awp.block ?_
     refine Awp.consP C ?_
     refine rvP C (.sl 0 (k.toNat * 8) (s.length - k.toNat) 8 false) ?_
     refine rvP C (.pv (.lit (.int .i64 k2))) ?_
     have h11 : vc[(k.toNat + k2.toNat)]? = some vc[(k.toNat + k2.toNat)]! := getE (by have hc_ := of_decide_eq_true ‹decide (k2 < ((s.length - k.toNat : Nat) : Int)) = true›; have hw_ := wrapI (k2 - 1) (by omega); have hw1_ := wrapI (k2 + 1) (by omega); have hw2_ := wrapI (k1 + 1) (by omega); omega)
     refine rvc_un (rexec_prim C (δ := { v := .ptr 0 (k.toNat * 8 + k2.toNat * 8) }) rfl rfl rfl rfl ⟨(by have hc_ := of_decide_eq_true ‹decide (k2 < ((s.length - k.toNat : Nat) : Int)) = true›; have hw_ := wrapI (k2 - 1) (by omega); have hw1_ := wrapI (k2 + 1) (by omega); have hw2_ := wrapI (k1 + 1) (by omega); omega), (by have hc_ := of_decide_eq_true ‹decide (k2 < ((s.length - k.toNat : Nat) : Int)) = true›; have hw_ := wrapI (k2 - 1) (by omega); have hw1_ := wrapI (k2 + 1) (by omega); have hw2_ := wrapI (k1 + 1) (by omega); omega)⟩ rfl ?_)
     refine rvc_un (rexec_loadE C (e := (eA8 .u8)) (k.toNat + k2.toNat) 0 (vc[(k.toNat + k2.toNat)]!) (.agg [.pv (.lit (.int .u8 (vc[(k.toNat + k2.toNat)]! 0))), .pv (.lit (.int .u8 (vc[(k.toNat + k2.toNat)]! 1))), .pv (.lit (.int .u8 (vc[(k.toNat + k2.toNat)]! 2))), .pv (.lit (.int .u8 (vc[(k.toNat + k2.toNat)]! 3))), .pv (.lit (.int .u8 (vc[(k.toNat + k2.toNat)]! 4))), .pv (.lit (.int .u8 (vc[(k.toNat + k2.toNat)]! 5))), .pv (.lit (.int .u8 (vc[(k.toNat + k2.toNat)]! 6))), .pv (.lit (.int .u8 (vc[(k.toNat + k2.toNat)]! 7)))]) rfl rfl rfl rfl h11 (by show _ = _ * 8 + 0; omega) (by decide) (by decide) rfl ?_)
     refine rvP C (.sl 0 (k.toNat * 8) (s.length - k.toNat) 8 false) ?_
     refine rvP C (.pv (.lit (.int .i64 k2))) ?_
     refine rvP C (.pv (.lit (.int .i64 (IntKind.i64.wrap (k2 - 1))))) ?_
     have h12 : vc[(k.toNat + (IntKind.i64.wrap (k2 - 1)).toNat)]? = some vc[(k.toNat + (IntKind.i64.wrap (k2 - 1)).toNat)]! := getE (by have hc_ := of_decide_eq_true ‹decide (k2 < ((s.length - k.toNat : Nat) : Int)) = true›; have hw_ := wrapI (k2 - 1) (by omega); have hw1_ := wrapI (k2 + 1) (by omega); have hw2_ := wrapI (k1 + 1) (by omega); omega)
     refine rvc_un (rexec_prim C (δ := { v := .ptr 0 (k.toNat * 8 + (IntKind.i64.wrap (k2 - 1)).toNat * 8) }) rfl rfl rfl rfl ⟨(by have hc_ := of_decide_eq_true ‹decide (k2 < ((s.length - k.toNat : Nat) : Int)) = true›; have hw_ := wrapI (k2 - 1) (by omega); have hw1_ := wrapI (k2 + 1) (by omega); have hw2_ := wrapI (k1 + 1) (by omega); omega), (by have hc_ := of_decide_eq_true ‹decide (k2 < ((s.length - k.toNat : Nat) : Int)) = true›; have hw_ := wrapI (k2 - 1) (by omega); have hw1_ := wrapI (k2 + 1) (by omega); have hw2_ := wrapI (k1 + 1) (by omega); omega)⟩ rfl ?_)
     refine rvc_un (rexec_loadE C (e := (eA8 .u8)) (k.toNat + (IntKind.i64.wrap (k2 - 1)).toNat) 0 (vc[(k.toNat + (IntKind.i64.wrap (k2 - 1)).toNat)]!) (.agg [.pv (.lit (.int .u8 (vc[(k.toNat + (IntKind.i64.wrap (k2 - 1)).toNat)]! 0))), .pv (.lit (.int .u8 (vc[(k.toNat + (IntKind.i64.wrap (k2 - 1)).toNat)]! 1))), .pv (.lit (.int .u8 (vc[(k.toNat + (IntKind.i64.wrap (k2 - 1)).toNat)]! 2))), .pv (.lit (.int .u8 (vc[(k.toNat + (IntKind.i64.wrap (k2 - 1)).toNat)]! 3))), .pv (.lit (.int .u8 (vc[(k.toNat + (IntKind.i64.wrap (k2 - 1)).toNat)]! 4))), .pv (.lit (.int .u8 (vc[(k.toNat + (IntKind.i64.wrap (k2 - 1)).toNat)]! 5))), .pv (.lit (.int .u8 (vc[(k.toNat + (IntKind.i64.wrap (k2 - 1)).toNat)]! 6))), .pv (.lit (.int .u8 (vc[(k.toNat + (IntKind.i64.wrap (k2 - 1)).toNat)]! 7)))]) rfl rfl rfl rfl h12 (by show _ = _ * 8 + 0; omega) (by decide) (by decide) rfl ?_)
     refine rvP C (.pv (.lit (.bool (!(((vc[(k.toNat + k2.toNat)]! 0) == (vc[(k.toNat + (IntKind.i64.wrap (k2 - 1)).toNat)]! 0)) && (((vc[(k.toNat + k2.toNat)]! 1) == (vc[(k.toNat + (IntKind.i64.wrap (k2 - 1)).toNat)]! 1)) && (((vc[(k.toNat + k2.toNat)]! 2) == (vc[(k.toNat + (IntKind.i64.wrap (k2 - 1)).toNat)]! 2)) && (((vc[(k.toNat + k2.toNat)]! 3) == (vc[(k.toNat + (IntKind.i64.wrap (k2 - 1)).toNat)]! 3)) && (((vc[(k.toNat + k2.toNat)]! 4) == (vc[(k.toNat + (IntKind.i64.wrap (k2 - 1)).toNat)]! 4)) && (((vc[(k.toNat + k2.toNat)]! 5) == (vc[(k.toNat + (IntKind.i64.wrap (k2 - 1)).toNat)]! 5)) && (((vc[(k.toNat + k2.toNat)]! 6) == (vc[(k.toNat + (IntKind.i64.wrap (k2 - 1)).toNat)]! 6)) && (((vc[(k.toNat + k2.toNat)]! 7) == (vc[(k.toNat + (IntKind.i64.wrap (k2 - 1)).toNat)]! 7)) && true)))))))))))) ?_
     refine rvc_nil ?_
     refine Awp.cond (b := (!(((vc[(k.toNat + k2.toNat)]! 0) == (vc[(k.toNat + (IntKind.i64.wrap (k2 - 1)).toNat)]! 0)) && (((vc[(k.toNat + k2.toNat)]! 1) == (vc[(k.toNat + (IntKind.i64.wrap (k2 - 1)).toNat)]! 1)) && (((vc[(k.toNat + k2.toNat)]! 2) == (vc[(k.toNat + (IntKind.i64.wrap (k2 - 1)).toNat)]! 2)) && (((vc[(k.toNat + k2.toNat)]! 3) == (vc[(k.toNat + (IntKind.i64.wrap (k2 - 1)).toNat)]! 3)) && (((vc[(k.toNat + k2.toNat)]! 4) == (vc[(k.toNat + (IntKind.i64.wrap (k2 - 1)).toNat)]! 4)) && (((vc[(k.toNat + k2.toNat)]! 5) == (vc[(k.toNat + (IntKind.i64.wrap (k2 - 1)).toNat)]! 5)) && (((vc[(k.toNat + k2.toNat)]! 6) == (vc[(k.toNat + (IntKind.i64.wrap (k2 - 1)).toNat)]! 6)) && (((vc[(k.toNat + k2.toNat)]! 7) == (vc[(k.toNat + (IntKind.i64.wrap (k2 - 1)).toNat)]! 7)) && true)))))))))) rfl (fun h13 => ?_) (fun h13 => ?_)
     ·
      replace hR := of_true h13 hR
      refine Awp.consP C ?_
      refine rvP C (.sl 0 0 s.length 8 false) ?_
      refine rvP C (.pv (.lit (.int .i64 k1))) ?_
      refine rvP C (.sl 0 (k.toNat * 8) (s.length - k.toNat) 8 false) ?_
      refine rvP C (.pv (.lit (.int .i64 k2))) ?_
      have h14 : vc[(k.toNat + k2.toNat)]? = some vc[(k.toNat + k2.toNat)]! := getE (by have hc_ := of_decide_eq_true ‹decide (k2 < ((s.length - k.toNat : Nat) : Int)) = true›; have hw_ := wrapI (k2 - 1) (by omega); have hw1_ := wrapI (k2 + 1) (by omega); have hw2_ := wrapI (k1 + 1) (by omega); omega)
      refine rvc_un (rexec_prim C (δ := { v := .ptr 0 (k.toNat * 8 + k2.toNat * 8) }) rfl rfl rfl rfl ⟨(by have hc_ := of_decide_eq_true ‹decide (k2 < ((s.length - k.toNat : Nat) : Int)) = true›; have hw_ := wrapI (k2 - 1) (by omega); have hw1_ := wrapI (k2 + 1) (by omega); have hw2_ := wrapI (k1 + 1) (by omega); omega), (by have hc_ := of_decide_eq_true ‹decide (k2 < ((s.length - k.toNat : Nat) : Int)) = true›; have hw_ := wrapI (k2 - 1) (by omega); have hw1_ := wrapI (k2 + 1) (by omega); have hw2_ := wrapI (k1 + 1) (by omega); omega)⟩ rfl ?_)
      refine rvc_un (rexec_loadE C (e := (eA8 .u8)) (k.toNat + k2.toNat) 0 (vc[(k.toNat + k2.toNat)]!) (.agg [.pv (.lit (.int .u8 (vc[(k.toNat + k2.toNat)]! 0))), .pv (.lit (.int .u8 (vc[(k.toNat + k2.toNat)]! 1))), .pv (.lit (.int .u8 (vc[(k.toNat + k2.toNat)]! 2))), .pv (.lit (.int .u8 (vc[(k.toNat + k2.toNat)]! 3))), .pv (.lit (.int .u8 (vc[(k.toNat + k2.toNat)]! 4))), .pv (.lit (.int .u8 (vc[(k.toNat + k2.toNat)]! 5))), .pv (.lit (.int .u8 (vc[(k.toNat + k2.toNat)]! 6))), .pv (.lit (.int .u8 (vc[(k.toNat + k2.toNat)]! 7)))]) rfl rfl rfl rfl h14 (by show _ = _ * 8 + 0; omega) (by decide) (by decide) rfl ?_)
      have h15 : vc[k1.toNat]? = some vc[k1.toNat]! := getE (by have hc_ := of_decide_eq_true ‹decide (k2 < ((s.length - k.toNat : Nat) : Int)) = true›; have hw_ := wrapI (k2 - 1) (by omega); have hw1_ := wrapI (k2 + 1) (by omega); have hw2_ := wrapI (k1 + 1) (by omega); omega)
      refine rvc_un (rexec_prim C (δ := { v := .ptr 0 (0 + k1.toNat * 8) }) rfl rfl rfl rfl ⟨(by have hc_ := of_decide_eq_true ‹decide (k2 < ((s.length - k.toNat : Nat) : Int)) = true›; have hw_ := wrapI (k2 - 1) (by omega); have hw1_ := wrapI (k2 + 1) (by omega); have hw2_ := wrapI (k1 + 1) (by omega); omega), (by have hc_ := of_decide_eq_true ‹decide (k2 < ((s.length - k.toNat : Nat) : Int)) = true›; have hw_ := wrapI (k2 - 1) (by omega); have hw1_ := wrapI (k2 + 1) (by omega); have hw2_ := wrapI (k1 + 1) (by omega); omega)⟩ rfl ?_)
      refine rvc_un (rexec_storeE C (e := (eA8 .u8)) k1.toNat 0 (vc[k1.toNat]!) (vc[(k.toNat + k2.toNat)]!) rfl rfl rfl rfl h15 (by simp [eA8]) rfl rfl rfl (of_decide_eq_true rfl) rfl ?_)
      refine rvc_nil ?_
      refine Awp.regionP C ?_
      refine rvP C (.pv (.lit (.int .i64 k1))) ?_
      refine rvP C (.pv (.lit (.int .i64 (IntKind.i64.wrap (k1 + 1))))) ?_
      refine rvP C (.pv (.lit (.int .i64 (IntKind.i64.wrap (k1 + 1))))) ?_
      refine rvc_nil ?_
      refine Awp.regionP C ?_
      refine rvP C (.pv (.lit (.int .i64 k2))) ?_
      refine rvP C (.pv (.lit (.int .i64 (IntKind.i64.wrap (k2 + 1))))) ?_
      refine rvP C (.pv (.lit (.int .i64 (IntKind.i64.wrap (k2 + 1))))) ?_
      refine rvc_nil ?_
      refine ⟨_, ((IntKind.i64.wrap (k1 + 1)), (IntKind.i64.wrap (k2 + 1)), (vc.set k1.toNat (vc[(k.toNat + k2.toNat)]!))), ?_, ⟨rfl, (by rw [show (((s.length : Int) - k - (IntKind.i64.wrap (k2 + 1))).toNat) + 1 = (((s.length : Int) - k - k2).toNat) by (have hc_ := of_decide_eq_true ‹decide (k2 < ((s.length - k.toNat : Nat) : Int)) = true›; have hw_ := wrapI (k2 - 1) (by omega); have hw1_ := wrapI (k2 + 1) (by omega); have hw2_ := wrapI (k1 + 1) (by omega); omega)]; exact hR), ⟨(by dsimp only; have hc_ := of_decide_eq_true ‹decide (k2 < ((s.length - k.toNat : Nat) : Int)) = true›; have hw_ := wrapI (k2 - 1) (by omega); have hw1_ := wrapI (k2 + 1) (by omega); have hw2_ := wrapI (k1 + 1) (by omega); omega), (by first | exact hWn | simpa using hWn)⟩⟩, ?_⟩
      · show ((s.length : Int) - k - (IntKind.i64.wrap (k2 + 1))).toNat < ((s.length : Int) - k - k2).toNat; (have hc_ := of_decide_eq_true ‹decide (k2 < ((s.length - k.toNat : Nat) : Int)) = true›; have hw_ := wrapI (k2 - 1) (by omega); have hw1_ := wrapI (k2 + 1) (by omega); have hw2_ := wrapI (k1 + 1) (by omega); omega)
      · exact ⟨fun b => b, WeakerR.ofLI (I := [0]) (Ks := [0]) hI ⟨⟨rfl, rfl⟩, ⟨rfl, rfl⟩, ⟨rfl, rfl⟩, ⟨rfl, rfl⟩, trivial⟩ (okH_list rfl rfl rfl (okH_nil)) rfl rfl⟩
     ·
      replace hR := of_false h13 hR
      refine Awp.skip ?_
      refine Awp.regionP C ?_
      refine rvP C (.pv (.lit (.int .i64 k2))) ?_
      refine rvP C (.pv (.lit (.int .i64 (IntKind.i64.wrap (k2 + 1))))) ?_
      refine rvP C (.pv (.lit (.int .i64 (IntKind.i64.wrap (k2 + 1))))) ?_
      refine rvc_nil ?_
      refine ⟨_, (k1, (IntKind.i64.wrap (k2 + 1)), vc), ?_, ⟨rfl, (by rw [show (((s.length : Int) - k - (IntKind.i64.wrap (k2 + 1))).toNat) + 1 = (((s.length : Int) - k - k2).toNat) by (have hc_ := of_decide_eq_true ‹decide (k2 < ((s.length - k.toNat : Nat) : Int)) = true›; have hw_ := wrapI (k2 - 1) (by omega); have hw1_ := wrapI (k2 + 1) (by omega); have hw2_ := wrapI (k1 + 1) (by omega); omega)]; exact hR), ⟨(by dsimp only; have hc_ := of_decide_eq_true ‹decide (k2 < ((s.length - k.toNat : Nat) : Int)) = true›; have hw_ := wrapI (k2 - 1) (by omega); have hw1_ := wrapI (k2 + 1) (by omega); have hw2_ := wrapI (k1 + 1) (by omega); omega), (by first | exact hWn | simpa using hWn)⟩⟩, ?_⟩
      · show ((s.length : Int) - k - (IntKind.i64.wrap (k2 + 1))).toNat < ((s.length : Int) - k - k2).toNat; (have hc_ := of_decide_eq_true ‹decide (k2 < ((s.length - k.toNat : Nat) : Int)) = true›; have hw_ := wrapI (k2 - 1) (by omega); have hw1_ := wrapI (k2 + 1) (by omega); have hw2_ := wrapI (k1 + 1) (by omega); omega)
      · exact ⟨fun b => b, WeakerR.ofLI (I := [0]) (Ks := [0]) hI ⟨⟨rfl, rfl⟩, ⟨rfl, rfl⟩, ⟨rfl, rfl⟩, ⟨rfl, rfl⟩, trivial⟩ (okH_list rfl rfl rfl (okH_nil)) rfl rfl⟩
    ·
     replace hR := of_false h10 hR
     refine Awp.exit ?_
     refine Awp.cons C (fun o => match o.dst with | none => .writer | _ => .pure) (by kernel_rfl) ?_
     refine rvc_prim C rfl rfl rfl rfl trivial rfl ?_
     refine rvc_prim C rfl rfl rfl rfl trivial rfl ?_
     refine rvc_un (rexec_fromOwn C rfl rfl rfl rfl rfl rfl rfl ⟨(by have hx_ := of_decide_eq_false ‹decide (k2 < ((s.length - k.toNat : Nat) : Int)) = false›; omega), (by have hx_ := of_decide_eq_false ‹decide (k2 < ((s.length - k.toNat : Nat) : Int)) = false›; omega)⟩ ?_)
     refine rvc_un (rexec_clearS C rfl rfl rfl rfl rfl rfl (encC (eA8 .u8) (vc.take k1.toNat)) rfl rfl (by rw [encC_len, hWn]; show k1.toNat * 8 + (s.length - k1.toNat) * 8 = s.length * 8; have hx_ := of_decide_eq_false ‹decide (k2 < ((s.length - k.toNat : Nat) : Int)) = false›; omega) rfl zeroKey (by have hx_ := of_decide_eq_false ‹decide (k2 < ((s.length - k.toNat : Nat) : Int)) = false›; omega) (encC_takeN (e := eA8 .u8) _ _) ?_ rfl)
     refine rvc_nil ?_
     refine Awp.consP C ?_
     refine rvc_prim C rfl rfl rfl rfl trivial rfl ?_
     refine rvc_prim C rfl rfl rfl rfl trivial rfl ?_
     refine rvc_un (rexec_cutOwn C ((vc.take k1.toNat).length) rfl rfl rfl rfl rfl rfl rfl ⟨(by have hx_ := of_decide_eq_false ‹decide (k2 < ((s.length - k.toNat : Nat) : Int)) = false›; omega), (by have hx_ := of_decide_eq_false ‹decide (k2 < ((s.length - k.toNat : Nat) : Int)) = false›; omega)⟩ (by have hx_ := of_decide_eq_false ‹decide (k2 < ((s.length - k.toNat : Nat) : Int)) = false›; rw [List.length_take]; omega) ?_)
     refine rvc_prim C rfl rfl rfl rfl trivial rfl ?_
     refine rvc_nil ?_
     refine Awp.freezeW 0 (encL (eA8 .u8) (vc.take k1.toNat)) ?_ [(2, sS (some false) (eA8 .u8) (vc.take k1.toNat))] [] ?_ ?_ ?_
     · rfl
     · exact ⟨⟨_, rfl, .inl (.inr ⟨_, _, _, rfl, rfl⟩)⟩, trivial⟩
     · exact trivial
     refine Awp.ret ?_
     subst hR
     exact ⟨.inl rfl, rfl⟩
   ·
    replace hR := of_false h7 hR
    refine Awp.skip ?_
    refine Awp.regionP C ?_
    refine rvP C (.pv (.lit (.int .i64 k))) ?_
    refine rvP C (.pv (.lit (.int .i64 (IntKind.i64.wrap (k + 1))))) ?_
    refine rvP C (.pv (.lit (.int .i64 (IntKind.i64.wrap (k + 1))))) ?_
    refine rvc_nil ?_
    refine ⟨_, (IntKind.i64.wrap (k + 1)), ?_, ⟨rfl, (by rw [show (((s.length : Int) - (IntKind.i64.wrap (k + 1))).toNat) + 1 = (((s.length : Int) - k).toNat) by (have hc_ := of_decide_eq_true ‹decide (k < (s.length : Int)) = true›; have hw_ := wrapI (k - 1) (by omega); have hw1_ := wrapI (k + 1) (by omega); omega)]; exact hR), (by have hc_ := of_decide_eq_true ‹decide (k < (s.length : Int)) = true›; have hw_ := wrapI (k - 1) (by omega); have hw1_ := wrapI (k + 1) (by omega); omega)⟩, ?_⟩
    · show ((s.length : Int) - (IntKind.i64.wrap (k + 1))).toNat < ((s.length : Int) - k).toNat; (have hc_ := of_decide_eq_true ‹decide (k < (s.length : Int)) = true›; have hw_ := wrapI (k - 1) (by omega); have hw1_ := wrapI (k + 1) (by omega); omega)
    · exact ⟨fun b => b, WeakerR.ofLI (I := [0]) (Ks := [0]) hI ⟨⟨rfl, rfl⟩, ⟨rfl, rfl⟩, trivial⟩ (okH_list rfl rfl rfl (okH_nil)) rfl rfl⟩
  ·
   replace hR := of_false h4 hR
   refine Awp.exit ?_
   refine Awp.consP C ?_
   refine rvP C (.sl 0 0 s.length 8 false) ?_
   refine rvP C (.sl 0 0 s.length 8 false) ?_
   refine rvc_nil ?_
   refine Awp.freezeW 0 (encL (eA8 .u8) s) ?_ [(2, sS (some false) (eA8 .u8) s)] [] ?_ ?_ ?_
   · rfl
   · exact ⟨⟨_, rfl, .inl (.inr ⟨_, _, _, rfl, rfl⟩)⟩, trivial⟩
   · exact trivial
   refine Awp.ret ?_
   subst hR
   exact ⟨.inl rfl, rfl⟩
end Go.Proofs.Ytoieegmebadfkaa
namespace Go.Proofs.Ytoieegmebadfkaa
open Go.Am
def kL (k : Nat → Int) : List Int := tbF k 8 0
theorem kL_def (k : Nat → Int) : kL k = [k 0, k 1, k 2, k 3, k 4, k 5, k 6, k 7] := rfl
theorem eq8 (j k : Nat → Int) : ((j 0 == k 0) && ((j 1 == k 1) && ((j 2 == k 2) && ((j 3 == k 3) && ((j 4 == k 4) && ((j 5 == k 5) && ((j 6 == k 6) && ((j 7 == k 7) && true)))))))) = decide (kL j = kL k) := by
  rw [Bool.eq_iff_iff, decide_eq_true_eq]
  simp only [kL_def, List.cons.injEq, Bool.and_eq_true, beq_iff_eq]
theorem cmp1_eq (x y : Int) : cmp1 x y = if x < y then -1 else if y < x then 1 else 0 := by
  unfold cmp1 isNaN
  rw [show (x != x) = false by simp, show (y != y) = false by simp, cond_false, cond_false]
  by_cases h : x < y
  · rw [decide_eq_true h, cond_true, if_pos h]
  · rw [decide_eq_false h, cond_false, if_neg h]
    by_cases h' : y < x
    · rw [decide_eq_true (show x > y from h'), cond_true, if_pos h']
    · rw [decide_eq_false (show ¬ x > y from h'), cond_false, if_neg h']
theorem cmpBytes_l0_lt (s1 s2 : Sl Int) (hl : s1.D.length = s2.D.length) : ∀ (xs : List Int) (i : Nat), xs.length + i = s1.D.length → decide (cmpBytes_l0 s1 s2 xs i < 0) = ll xs (s2.D.drop i)
  | [], i, h => by
    simp only [List.length_nil, Nat.zero_add] at h
    unfold cmpBytes_l0
    rw [hl, decide_eq_false (Int.lt_irrefl _), cond_false, List.drop_of_length_le (by omega)]; rfl
  | x :: xs, i, h => by
    simp only [List.length_cons] at h
    have hi : i < s2.D.length := by omega
    unfold cmpBytes_l0
    rw [decide_eq_false (show ¬ (i : Int) ≥ (s2.D.length : Int) by omega), cond_false, Int.toNat_natCast, List.drop_eq_getElem_cons hi, ll_cons, getElem!_pos s2.D i hi, cmp1_eq]
    have ih := cmpBytes_l0_lt s1 s2 hl xs (i + 1) (by omega)
    by_cases h1 : x < s2.D[i]
    · rw [if_pos h1, decide_eq_true h1, Bool.true_or]; rfl
    · rw [if_neg h1, decide_eq_false h1, Bool.false_or]
      by_cases h2 : s2.D[i] < x
      · rw [if_pos h2, show (x == s2.D[i]) = false by simp; omega, Bool.false_and]; rfl
      · rw [if_neg h2, show (x == s2.D[i]) = true by simp; omega, Bool.true_and, show ((0 : Int) != 0) = false from rfl, cond_false, ih]
theorem cmpKeys_lt (a b : Nat → Int) : ltOf cmpKeys a b = ll (kL a) (kL b) := by
  unfold ltOf cmpKeys cmpBytes
  exact cmpBytes_l0_lt (Sl.mk false (tbF a 8 0)) (Sl.mk false (tbF b 8 0)) (by show (tbF a 8 0).length = (tbF b 8 0).length; rw [tbF_len, tbF_len]) _ 0 rfl
theorem cmpKeys_swo : Go.Sort.SWO (ltOf cmpKeys) where
  irrefl x := by rw [cmpKeys_lt, ll_irrefl]
  trans x y z h1 h2 := by rw [cmpKeys_lt] at *; exact ll_trans h1 h2
  ntrans x y z h1 h2 := by
    rw [cmpKeys_lt] at *
    cases h : ll (kL x) (kL z)
    · rfl
    · by_cases e : kL x = kL y
      · rw [e, h2] at h; cases h
      · have := ll_trans (ll_tri h1 e) h
        rw [h2] at this; cases this
theorem sortKeys_spec (D : List (Nat → Int)) : (sortKeys D cmpKeys).Perm D ∧ (sortKeys D cmpKeys).Pairwise fun a b => ll (kL b) (kL a) = false := by
  obtain ⟨⟨h1, _, h2⟩, h3⟩ := Go.Sort.pdq_sorts (ltOf cmpKeys) cmpKeys_swo D.toArray 0 D.length (Lib.bitLen D.length) true true (Nat.zero_le _) (by simp) (Or.inl rfl)
  have hs : D.toArray.size = D.length := by simp
  rw [hs] at h1
  constructor
  · unfold sortKeys
    have e1 : ∀ A : Array (Nat → Int), A.size = D.length → (A.extract 0 D.length).toList = A.toList := fun A hA => by rw [← hA]; simp
    rw [e1 _ h1, e1 _ hs] at h2
    simpa using h2
  · unfold sortKeys
    rw [List.pairwise_iff_getElem]
    intro i j hi hj hij
    rw [Array.length_toList, h1] at hi hj
    have := h3 i j (Nat.zero_le _) hij hj
    rw [cmpKeys_lt, getElem!_pos _ i (by rw [h1]; exact hi), getElem!_pos _ j (by rw [h1]; exact hj)] at this
    simpa only [Array.getElem_toList] using this
theorem sortKeys_len (D : List (Nat → Int)) : (sortKeys D cmpKeys).length = D.length := (sortKeys_spec D).1.length_eq
theorem sortKeys_nil : sortKeys [] cmpKeys = [] := List.eq_nil_of_length_eq_zero (sortKeys_len [])
def dd : List Int → List (Nat → Int) → List (Nat → Int)
  | _, [] => []
  | p, x :: xs => if kL x = p then dd p xs else x :: dd (kL x) xs
theorem dd_cons (p : List Int) (x : Nat → Int) (xs : List (Nat → Int)) : dd p (x :: xs) = if kL x = p then dd p xs else x :: dd (kL x) xs := rfl
def ddK : List (Nat → Int) → List (Nat → Int)
  | [] => []
  | x :: xs => x :: dd (kL x) xs
theorem drop_cons {D : List (Nat → Int)} {i : Nat} (h : i < D.length) : D.drop i = D[i]! :: D.drop (i + 1) := by
  rw [List.drop_eq_getElem_cons h, getElem!_pos D i h]
theorem compact_l1 (s : List (Nat → Int)) (hL : s.length ≤ 1000000) (k : Nat) (W : List (Nat → Int)) : ∀ (nn k1 k2 : Nat) (vc : List (Nat → Int)), nn = s.length - k - k2 + 1 → vc.length = s.length → 1 ≤ k2 → k ≤ k1 → k1 + 1 ≤ k + k2 → k + k2 ≤ s.length →
    vc.drop (k + k2 - 1) = s.drop (k + k2 - 1) → vc.take k1 ++ dd (kL (s[k + k2 - 1]!)) (s.drop (k + k2)) = W →
    compactKeys_l1 s (k : Int) (fun v3 _ vc => vc.take v3.toNat) nn (k1 : Int) (k2 : Int) vc = W
  | 0, _, _, _, h, _, _, _, _, _, _, _ => by omega
  | nn + 1, k1, k2, vc, h, hv, h2, h3, h4, h5, h6, h7 => by
    unfold compactKeys_l1
    rw [Int.toNat_natCast]
    by_cases hc : k + k2 < s.length
    · rw [decide_eq_true (show (k2 : Int) < ((s.length - k : Nat) : Int) by omega), cond_true]
      have e1 : IntKind.i64.wrap ((k2 : Int) - 1) = ((k2 - 1 : Nat) : Int) := by rw [wrap_i64 (by omega) (by omega)]; omega
      have e2 : IntKind.i64.wrap ((k2 : Int) + 1) = ((k2 + 1 : Nat) : Int) := by rw [wrap_i64 (by omega) (by omega)]; omega
      have e3 : IntKind.i64.wrap ((k1 : Int) + 1) = ((k1 + 1 : Nat) : Int) := by rw [wrap_i64 (by omega) (by omega)]; omega
      rw [e1, e2, e3, Int.toNat_natCast, Int.toNat_natCast, Int.toNat_natCast, show k + (k2 - 1) = k + k2 - 1 by omega, eq8]
      have g1 : vc[k + k2 - 1]! = s[k + k2 - 1]! := by
        have := drop_cons (D := vc) (i := k + k2 - 1) (by omega)
        rw [h6, drop_cons (by omega)] at this
        exact (List.cons.inj this).1.symm
      have g2 : vc.drop (k + k2) = s.drop (k + k2) := by
        have := congrArg (List.drop 1) h6
        rwa [List.drop_drop, List.drop_drop, show k + k2 - 1 + 1 = k + k2 by omega] at this
      have g3 : vc[k + k2]! = s[k + k2]! := by
        have := drop_cons (D := vc) (i := k + k2) (by omega)
        rw [g2, drop_cons (by omega)] at this
        exact (List.cons.inj this).1.symm
      rw [g1, g3]
      rw [drop_cons hc] at h7
      by_cases he : kL (s[k + k2]!) = kL (s[k + k2 - 1]!)
      · rw [decide_eq_true he, Bool.not_true, cond_false]
        refine compact_l1 s hL k W nn k1 (k2 + 1) vc (by omega) hv (by omega) h3 (by omega) (by omega) ?_ ?_
        · rw [show k + (k2 + 1) - 1 = k + k2 by omega]; exact g2
        · rw [show k + (k2 + 1) - 1 = k + k2 by omega, show k + (k2 + 1) = k + k2 + 1 by omega, he, ← h7, dd_cons, if_pos he]
      · rw [decide_eq_false he, Bool.not_false, cond_true]
        refine compact_l1 s hL k W nn (k1 + 1) (k2 + 1) _ (by omega) (by simpa using hv) (by omega) (by omega) (by omega) (by omega) ?_ ?_
        · rw [show k + (k2 + 1) - 1 = k + k2 by omega, List.drop_set_of_lt (by omega)]; exact g2
        · rw [show k + (k2 + 1) - 1 = k + k2 by omega, show k + (k2 + 1) = k + k2 + 1 by omega, ← h7]
          have : (vc.set k1 s[k + k2]!).take (k1 + 1) = vc.take k1 ++ [s[k + k2]!] := by
            rw [List.take_succ_eq_append_getElem (by rw [List.length_set]; omega), List.take_set_of_le (Nat.le_refl _), List.getElem_set_self]
          rw [this, List.append_assoc]
          congr 1
          rw [dd_cons, if_neg he]; rfl
    · rw [decide_eq_false (show ¬ (k2 : Int) < ((s.length - k : Nat) : Int) by omega), cond_false, Int.toNat_natCast, ← h7, show k + k2 = s.length by omega, List.drop_length]
      simp [dd]
theorem compact_l0 (s : List (Nat → Int)) (hL : s.length ≤ 1000000) : ∀ (nn k : Nat), nn = s.length - k + 1 → 1 ≤ k → k ≤ s.length → s.take k ++ dd (kL (s[k - 1]!)) (s.drop k) = ddK s → compactKeys_l0 s nn (k : Int) = ddK s
  | 0, _, h, _, _, _ => by omega
  | nn + 1, k, h, h1, h2, h3 => by
    unfold compactKeys_l0
    by_cases hc : k < s.length
    · have e1 : IntKind.i64.wrap ((k : Int) - 1) = ((k - 1 : Nat) : Int) := by rw [wrap_i64 (by omega) (by omega)]; omega
      have e2 : IntKind.i64.wrap ((k : Int) + 1) = ((k + 1 : Nat) : Int) := by rw [wrap_i64 (by omega) (by omega)]; omega
      rw [decide_eq_true (show (k : Int) < (s.length : Int) by omega), cond_true, e1, e2, Int.toNat_natCast, Int.toNat_natCast, eq8]
      by_cases he : kL (s[k]!) = kL (s[k - 1]!)
      · rw [decide_eq_true he, cond_true]
        refine compact_l1 s hL k (ddK s) _ k 1 s (by omega) rfl (Nat.le_refl _) (Nat.le_refl _) (Nat.le_refl _) (by omega) rfl ?_
        rw [← h3, drop_cons hc, show k + 1 - 1 = k by omega]
        congr 1
        rw [dd_cons, if_pos he, he]
      · rw [decide_eq_false he, cond_false]
        refine compact_l0 s hL nn (k + 1) (by omega) (by omega) (by omega) ?_
        rw [← h3, drop_cons hc, show k + 1 - 1 = k by omega]
        rw [dd_cons, if_neg he, List.take_succ_eq_append_getElem hc, getElem!_pos s k hc, List.append_assoc]; rfl
    · rw [decide_eq_false (show ¬ (k : Int) < (s.length : Int) by omega), cond_false]
      have : k = s.length := by omega
      subst this
      rw [List.drop_length, List.take_length] at h3
      rw [← h3]; simp [dd]
theorem compact_eq {s : List (Nat → Int)} (hL : s.length ≤ 1000000) : compactKeys s = ddK s := by
  unfold compactKeys
  by_cases h : s.length < 2
  · rw [decide_eq_true (show (s.length : Int) < 2 by omega), cond_true]
    match s, h with
    | [], _ => rfl
    | [x], _ => rfl
    | _ :: _ :: _, h => simp only [List.length_cons] at h; omega
  · rw [decide_eq_false (show ¬ (s.length : Int) < 2 by omega), cond_false]
    refine compact_l0 s hL _ 1 (by omega) (Nat.le_refl _) (by omega) ?_
    match s, h with
    | x :: y :: r, _ => rfl
    | [], h => simp at h
    | [x], h => simp at h
theorem compact_ne {s : List (Nat → Int)} (hL : s.length ≤ 1000000) (h : s ≠ []) : compactKeys s ≠ [] := by
  rw [compact_eq hL]
  cases s with
  | nil => exact absurd rfl h
  | cons x xs => exact List.cons_ne_nil _ _
theorem compactKeys_callsN (D : List (Nat → Int)) (n : Nat) (hn : n = D.length) (hL : D.length ≤ 1000000) (hne : D ≠ []) : XCalls Try.prog 46 [.sl 0 0 n 8 false] (.cells (encC (eA8 .u8) D)) (sS (some (compactKeys D).isEmpty) (eA8 .u8) (compactKeys D)) := by
  subst hn
  rw [ne_isEmpty (compact_ne hL hne)]
  exact compactKeys_calls D hL
theorem sortKeys_ne {D : List (Nat → Int)} (h : D ≠ []) : sortKeys D cmpKeys ≠ [] := fun e => h (List.eq_nil_of_length_eq_zero (by rw [← sortKeys_len, e]; rfl))
end Go.Proofs.Ytoieegmebadfkaa
namespace Go.Proofs.Ytoieegmebadfkaa
open Go.Am
def insSortK0 (_data : (Sl (Nat → Int))) (_a : Int) (_b : Int) (_cmp : (Nat → Int) → (Nat → Int) → Int) : Unit :=
  ()
theorem insSortK0_calls (data : (Sl (Nat → Int))) (a : Int) (b : Int) (cmp : (Nat → Int) → (Nat → Int) → Int) (g3 : Nat) (caps3 : List AV) (_hp3 : ∀ (x0 : (Nat → Int)) (x1 : (Nat → Int)), PCalls Try.prog g3 ([.agg [.pv (.lit (.int .u8 (x0 0))), .pv (.lit (.int .u8 (x0 1))), .pv (.lit (.int .u8 (x0 2))), .pv (.lit (.int .u8 (x0 3))), .pv (.lit (.int .u8 (x0 4))), .pv (.lit (.int .u8 (x0 5))), .pv (.lit (.int .u8 (x0 6))), .pv (.lit (.int .u8 (x0 7)))], .agg [.pv (.lit (.int .u8 (x1 0))), .pv (.lit (.int .u8 (x1 1))), .pv (.lit (.int .u8 (x1 2))), .pv (.lit (.int .u8 (x1 3))), .pv (.lit (.int .u8 (x1 4))), .pv (.lit (.int .u8 (x1 5))), .pv (.lit (.int .u8 (x1 6))), .pv (.lit (.int .u8 (x1 7)))]] ++ caps3) (.pv (.lit (.int .i64 (cmp x0 x1))))) (hw3 : AV.withinL (fun _ => false) caps3 = true) (hq : (decide ((IntKind.i64.wrap (a + 1)) < b)) = false) : PCalls Try.prog 64 [sS (some data.nil) (eA8 .u8) data.D, .pv (.lit (.int .i64 a)), .pv (.lit (.int .i64 b)), .fn g3 [] caps3] (.tup []) := by
 generalize hR : insSortK0 data a b cmp = R
 refine PCalls.of_body tabOk Try.func64 rfl rfl rfl (by simp [AV.withinL, AV.within, sS, hw3]) rfl mixed fun E hP C hI => ?_
 refine Awp.consP C ?_
 refine rvP C (.pv (.lit (.int .i64 a))) ?_
 refine rvP C (.pv (.lit (.int .i64 (IntKind.i64.wrap (a + 1))))) ?_
 refine rvP C (.pv (.lit (.int .i64 (IntKind.i64.wrap (a + 1))))) ?_
 refine rvc_nil ?_
 refine Awp.block ?_
 refine Awp.once ?_
 refine Awp.seq ?_
 refine Awp.consP C ?_
 refine rvP C (.pv (.lit (.int .i64 (IntKind.i64.wrap (a + 1))))) ?_
 refine rvP C (.pv (.lit (.int .i64 b))) ?_
 refine rvP C (.pv (.lit (.bool (decide ((IntKind.i64.wrap (a + 1)) < b))))) ?_
 refine rvc_nil ?_
 refine Awp.condF (b := (decide ((IntKind.i64.wrap (a + 1)) < b))) rfl hq ?_
 refine Awp.exit ?_
 subst hR
 exact ⟨.inr rfl, rfl⟩
def pdqK0 (_data : (Sl (Nat → Int))) (_a : Int) (_b : Int) (_limit : Int) (_cmp : (Nat → Int) → (Nat → Int) → Int) : Unit :=
  ()
theorem pdqK0_calls (data : (Sl (Nat → Int))) (a : Int) (b : Int) (limit : Int) (cmp : (Nat → Int) → (Nat → Int) → Int) (g4 : Nat) (caps4 : List AV) (hp4 : ∀ (x0 : (Nat → Int)) (x1 : (Nat → Int)), PCalls Try.prog g4 ([.agg [.pv (.lit (.int .u8 (x0 0))), .pv (.lit (.int .u8 (x0 1))), .pv (.lit (.int .u8 (x0 2))), .pv (.lit (.int .u8 (x0 3))), .pv (.lit (.int .u8 (x0 4))), .pv (.lit (.int .u8 (x0 5))), .pv (.lit (.int .u8 (x0 6))), .pv (.lit (.int .u8 (x0 7)))], .agg [.pv (.lit (.int .u8 (x1 0))), .pv (.lit (.int .u8 (x1 1))), .pv (.lit (.int .u8 (x1 2))), .pv (.lit (.int .u8 (x1 3))), .pv (.lit (.int .u8 (x1 4))), .pv (.lit (.int .u8 (x1 5))), .pv (.lit (.int .u8 (x1 6))), .pv (.lit (.int .u8 (x1 7)))]] ++ caps4) (.pv (.lit (.int .i64 (cmp x0 x1))))) (hw4 : AV.withinL (fun _ => false) caps4 = true) (h12 : (decide ((IntKind.i64.wrap (b - a)) ≤ 12)) = true) (hq : (decide ((IntKind.i64.wrap (a + 1)) < b)) = false) : PCalls Try.prog 58 [sS (some data.nil) (eA8 .u8) data.D, .pv (.lit (.int .i64 a)), .pv (.lit (.int .i64 b)), .pv (.lit (.int .i64 limit)), .fn g4 [] caps4] (.tup []) := by
 generalize hR : pdqK0 data a b limit cmp = R
 refine PCalls.of_body tabOk Try.func58 rfl rfl rfl (by simp [AV.withinL, AV.within, sS, hw4]) rfl mixed fun E hP C hI => ?_
 refine Awp.consP C ?_
 refine rvP C (.pv (.lit (.bool true))) ?_
 refine rvc_nil ?_
 refine Awp.consP C ?_
 refine rvP C (.pv (.lit (.bool true))) ?_
 refine rvc_nil ?_
 refine Awp.block ?_
 refine Awp.once ?_
 refine Awp.block ?_
 refine Awp.consP C ?_
 refine rvP C (.pv (.lit (.int .i64 b))) ?_
 refine rvP C (.pv (.lit (.int .i64 a))) ?_
 refine rvP C (.pv (.lit (.int .i64 (IntKind.i64.wrap (b - a))))) ?_
 refine rvP C (.pv (.lit (.int .i64 (IntKind.i64.wrap (b - a))))) ?_
 refine rvc_nil ?_
 refine Awp.seq ?_
 refine Awp.consP C ?_
 refine rvP C (.pv (.lit (.int .i64 (IntKind.i64.wrap (b - a))))) ?_
 refine rvP C (.pv (.lit (.bool (decide ((IntKind.i64.wrap (b - a)) ≤ 12))))) ?_
 refine rvc_nil ?_
 refine Awp.condT (b := (decide ((IntKind.i64.wrap (b - a)) ≤ 12))) rfl h12 ?_
 refine Awp.consP C ?_
 refine rvP C (sS (some data.nil) (eA8 .u8) data.D) ?_
 refine rvP C (.pv (.lit (.int .i64 a))) ?_
 refine rvP C (.pv (.lit (.int .i64 b))) ?_
 refine rvP C (.fn g4 [] caps4) ?_
 refine rvc_un (rexec_call hP C rfl rfl rfl (insSortK0_calls data a b cmp g4 caps4 hp4 hw4 hq) ?_)
 refine rvc_nil ?_
 refine Awp.ret ?_
 subst hR
 exact ⟨.inl rfl, rfl⟩
def sortKeys0 (_x : (Sl (Nat → Int))) (_cmp : (Nat → Int) → (Nat → Int) → Int) : Unit :=
  ()
theorem sortKeys0_calls (x : (Sl (Nat → Int))) (cmp : (Nat → Int) → (Nat → Int) → Int) (g1 : Nat) (caps1 : List AV) (hp1 : ∀ (x0 : (Nat → Int)) (x1 : (Nat → Int)), PCalls Try.prog g1 ([.agg [.pv (.lit (.int .u8 (x0 0))), .pv (.lit (.int .u8 (x0 1))), .pv (.lit (.int .u8 (x0 2))), .pv (.lit (.int .u8 (x0 3))), .pv (.lit (.int .u8 (x0 4))), .pv (.lit (.int .u8 (x0 5))), .pv (.lit (.int .u8 (x0 6))), .pv (.lit (.int .u8 (x0 7)))], .agg [.pv (.lit (.int .u8 (x1 0))), .pv (.lit (.int .u8 (x1 1))), .pv (.lit (.int .u8 (x1 2))), .pv (.lit (.int .u8 (x1 3))), .pv (.lit (.int .u8 (x1 4))), .pv (.lit (.int .u8 (x1 5))), .pv (.lit (.int .u8 (x1 6))), .pv (.lit (.int .u8 (x1 7)))]] ++ caps1) (.pv (.lit (.int .i64 (cmp x0 x1))))) (hw1 : AV.withinL (fun _ => false) caps1 = true) (hx0 : x.D = []) : PCalls Try.prog 43 [sS (some x.nil) (eA8 .u8) x.D, .fn g1 [] caps1] (.tup []) := by
 generalize hR : sortKeys0 x cmp = R
 refine PCalls.of_body tabOk Try.func43 rfl rfl rfl (by simp [AV.withinL, AV.within, sS, hw1]) rfl mixed fun E hP C hI => ?_
 refine Awp.consP C ?_
 refine rvP C (sS (some x.nil) (eA8 .u8) x.D) ?_
 refine rvP C (.pv (.lit (.int .i64 (x.D.length : Int)))) ?_
 refine rvP C (.pv (.lit (.int .i64 (x.D.length : Int)))) ?_
 refine rvc_nil ?_
 refine Awp.regionP C ?_
 refine rvP C (sS (some x.nil) (eA8 .u8) x.D) ?_
 refine rvP C (.pv (.lit (.int .i64 (x.D.length : Int)))) ?_
 refine rvP C (.pv (.lit (.int .i64 (x.D.length : Int)))) ?_
 refine rvP C (.pv (.lit (.int .u64 (IntKind.u64.wrap (x.D.length : Int))))) ?_
 refine rvc_un (rexec_call hP C rfl rfl rfl (bitsLen_calls (IntKind.u64.wrap (x.D.length : Int)) (by rw [hx0]; decide)) ?_)
 refine rvP C (.fn g1 [] caps1) ?_
 refine rvc_un (rexec_call hP C rfl rfl rfl (pdqK0_calls x 0 (x.D.length : Int) (bitsLen (IntKind.u64.wrap (x.D.length : Int))) cmp g1 caps1 hp1 hw1 (by rw [hx0]; rfl) (by rw [hx0]; rfl)) ?_)
 refine rvc_nil ?_
 subst hR
 exact ⟨.inr rfl, rfl⟩
def compactKeys0 (s : (Sl (Nat → Int))) : (Sl (Nat → Int)) :=
  s
theorem compactKeys0_calls (s : (Sl (Nat → Int))) (hc : (decide ((s.D.length : Int) < 2)) = true) : PCalls Try.prog 46 [sS (some s.nil) (eA8 .u8) s.D] (sS (some (compactKeys0 s).nil) (eA8 .u8) ((compactKeys0 s).D)) := by
 generalize hR : compactKeys0 s = R
 refine PCalls.of_body tabOk Try.func46 rfl rfl rfl rfl rfl mixed fun E hP C hI => ?_
 refine Awp.consP C ?_
 refine rvP C (sS (some true) (eA8 .u8) []) ?_
 refine rvc_nil ?_
 refine Awp.seq ?_
 refine Awp.consP C ?_
 refine rvP C (sS (some s.nil) (eA8 .u8) s.D) ?_
 refine rvP C (.pv (.lit (.int .i64 (s.D.length : Int)))) ?_
 refine rvP C (.pv (.lit (.bool (decide ((s.D.length : Int) < 2))))) ?_
 refine rvc_nil ?_
 refine Awp.condT (b := (decide ((s.D.length : Int) < 2))) rfl hc ?_
 refine Awp.consP C ?_
 refine rvP C (sS (some s.nil) (eA8 .u8) s.D) ?_
 refine rvP C (sS (some s.nil) (eA8 .u8) s.D) ?_
 refine rvc_nil ?_
 refine Awp.ret ?_
 subst hR
 exact ⟨.inl rfl, rfl⟩
end Go.Proofs.Ytoieegmebadfkaa
namespace Go.Proofs.Ytoieegmebadfkaa
open Go.Am
def jKeys_l0 : List Call → Nat → (List (Nat → Int)) → (Sl (Nat → Int))
  | [], _, l => (Sl.mk ((compactKeys (sortKeys l (fun x0 x1 => cmpKeys x0 x1))).isEmpty) (compactKeys (sortKeys l (fun x0 x1 => cmpKeys x0 x1))))
  | x :: xs, i, l => jKeys_l0 xs (i + 1) (l ++ [x.key])
def jKeys (calls : (Sl Call)) : (Sl (Nat → Int)) :=
  jKeys_l0 calls.D 0 []
theorem jKeys_calls (calls : (Sl Call)) (hl1 : calls.D.length ≤ 1000000) : PCalls Try.prog 22 [sS (some calls.nil) eCall calls.D] (sS (some (jKeys calls).nil) (eA8 .u8) ((jKeys calls).D)) := by
 generalize hR : jKeys calls = R
 refine PCalls.of_body tabOk Try.func22 rfl rfl rfl rfl rfl mixed fun E hP C hI => ?_
 refine Awp.consP C ?_
 refine rvP C (sS (some true) (eA8 .u8) []) ?_
 refine rvc_nil ?_
 refine Awp.consP C ?_
 refine rvP C (sS (some true) (eA8 .u8) []) ?_
 refine rvc_nil ?_
 refine Awp.seq ?_
 refine Awp.consP C ?_
 refine rvP C (sS (some calls.nil) eCall calls.D) ?_
 refine rvP C (.pv (.lit (.int .i64 (calls.D.length : Int)))) ?_
 refine rvP C (.pv (.lit (.int .i64 0))) ?_
 refine rvc_nil ?_
 refine Awp.block ?_
 refine Awp.forR (σ := ((List (Nat → Int)))) (calls.D.length) (fun i v => [(3, grow 900 (eA8 .u8) v), (6, sS (some calls.nil) eCall calls.D), (7, .pv (.lit (.int .i64 (calls.D.length : Int)))), (8, .pv (.lit (.int .i64 (i : Int))))]) (fun i v => (growH 900 (eA8 .u8) v ++ ([]))) [900] (fun i v => (jKeys_l0 (calls.D.drop i) i v = R) ∧ (v.length ≤ i)) [] ?_ ?_ (fun i l h1 hR => ?_)
 · exact ⟨hR, (by first | omega | (simp <;> omega))⟩
 · exact ⟨fun b => b, WeakerR.ofL (Ks := [900]) hI ⟨⟨rfl, rfl⟩, ⟨rfl, rfl⟩, ⟨rfl, rfl⟩, ⟨rfl, rfl⟩, trivial⟩ (okH_grow (fun hne => absurd rfl hne) rfl rfl (okH_nil)) rfl⟩
 obtain ⟨hR, hi_l⟩ := hR
 replace hi_l : l.length ≤ i := hi_l
 by_cases h2 : l = []
 ·
  refine Awp.wordsR [(3, sS (some l.isEmpty) (eA8 .u8) l), (6, sS (some calls.nil) eCall calls.D), (7, .pv (.lit (.int .i64 (calls.D.length : Int)))), (8, .pv (.lit (.int .i64 (i : Int))))] [] [] (WeakerR.ofL (Ks := []) hI ⟨⟨(by exact grow_at_nil (b := 900) (e := (eA8 .u8)) (l := l) rfl h2), rfl⟩, ⟨rfl, rfl⟩, ⟨rfl, rfl⟩, ⟨rfl, rfl⟩, trivial⟩ (okH_nil) rfl) ?_
  refine Awp.consP C ?_
  refine rvP C (.pv (.lit (.bool (decide ((i : Int) < (calls.D.length : Int)))))) ?_
  refine rvc_nil ?_
  refine Awp.seq ?_
  refine Awp.cond (b := (decide ((i : Int) < (calls.D.length : Int)))) rfl (fun h3 => ?_) (fun h3 => ?_)
  ·
   have h4 : i < calls.D.length := by have := of_decide_eq_true h3; omega
   obtain ⟨x, h5⟩ := getX h4
   rw [drop_at h5] at hR
   refine Awp.skip ?_
   refine Awp.seq ?_
   refine Awp.block ?_
   refine Awp.consP C ?_
   refine rvc_un (rexec_idxS C rfl rfl rfl rfl rfl rfl x (Int.natCast_nonneg _) h5 ?_)
   refine rvP C (.agg [.pv (.lit (.int .i64 x.client)), .pv (.lit (.int .i64 x.seq)), .pv (.lit (.bool x.write)), .pv (.lit (.int .u8 (x.key 0))), .pv (.lit (.int .u8 (x.key 1))), .pv (.lit (.int .u8 (x.key 2))), .pv (.lit (.int .u8 (x.key 3))), .pv (.lit (.int .u8 (x.key 4))), .pv (.lit (.int .u8 (x.key 5))), .pv (.lit (.int .u8 (x.key 6))), .pv (.lit (.int .u8 (x.key 7))), .pv (.lit (.string x.value)), .pv (.lit (.int .i64 x.mode)), .pv (.lit (.int .i64 x.bound)), .pv (.lit (.int .i64 x.began)), .pv (.lit (.int .i64 x.ended)), .pv (.lit (.int .i64 x.ver)), .pv (.lit (.int .i64 x.err)), .pv (.lit (.int .i64 x.floor))]) ?_
   refine rvc_un (rexec_prim C (δ := { v := .ptr 5 0, new := [(5, .cells [.pv (.lit (.int .i64 0)), .pv (.lit (.int .i64 0)), .pv (.lit (.bool false)), .pv (.lit (.int .u8 0)), .pv (.lit (.int .u8 0)), .pv (.lit (.int .u8 0)), .pv (.lit (.int .u8 0)), .pv (.lit (.int .u8 0)), .pv (.lit (.int .u8 0)), .pv (.lit (.int .u8 0)), .pv (.lit (.int .u8 0)), .pv (.lit (.string ⟨#[]⟩)), .pv (.lit (.int .i64 0)), .pv (.lit (.int .i64 0)), .pv (.lit (.int .i64 0)), .pv (.lit (.int .i64 0)), .pv (.lit (.int .i64 0)), .pv (.lit (.int .i64 0)), .pv (.lit (.int .i64 0))])] }) rfl rfl rfl rfl trivial rfl ?_)
   refine rvc_un (rexec_prim C (δ := { v := .undef, wr := [(5, some (.cells [.pv (.lit (.int .i64 x.client)), .pv (.lit (.int .i64 x.seq)), .pv (.lit (.bool x.write)), .pv (.lit (.int .u8 (x.key 0))), .pv (.lit (.int .u8 (x.key 1))), .pv (.lit (.int .u8 (x.key 2))), .pv (.lit (.int .u8 (x.key 3))), .pv (.lit (.int .u8 (x.key 4))), .pv (.lit (.int .u8 (x.key 5))), .pv (.lit (.int .u8 (x.key 6))), .pv (.lit (.int .u8 (x.key 7))), .pv (.lit (.string x.value)), .pv (.lit (.int .i64 x.mode)), .pv (.lit (.int .i64 x.bound)), .pv (.lit (.int .i64 x.began)), .pv (.lit (.int .i64 x.ended)), .pv (.lit (.int .i64 x.ver)), .pv (.lit (.int .i64 x.err)), .pv (.lit (.int .i64 x.floor))]))] }) rfl rfl rfl rfl trivial rfl ?_)
   refine rvc_nil ?_
   refine Awp.regionP C ?_
   refine rvP C (sS (some l.isEmpty) (eA8 .u8) l) ?_
   refine rvP C (.ptr 5 3) ?_
   refine rvP C (.agg [.pv (.lit (.int .u8 (x.key 0))), .pv (.lit (.int .u8 (x.key 1))), .pv (.lit (.int .u8 (x.key 2))), .pv (.lit (.int .u8 (x.key 3))), .pv (.lit (.int .u8 (x.key 4))), .pv (.lit (.int .u8 (x.key 5))), .pv (.lit (.int .u8 (x.key 6))), .pv (.lit (.int .u8 (x.key 7)))]) ?_
   refine rvc_un (rexec_buildSliceF C (eA8 .u8) [x.key] rfl rfl rfl rfl rfl rfl rfl (by decide) rfl ?_)
   refine rvc_un (rexec_appendG C rfl rfl rfl rfl rfl rfl rfl rfl (fun _ h => by cases h) rfl (en := (eA8 .u8)) (l := l) (D := [x.key]) rfl rfl h2 (by rw [h2]; rfl) (by simp) (by have := of_decide_eq_true h3; first | omega | (simp <;> omega)) (by decide) (nn := (l ++ [x.key]).length) (by simp <;> omega) ?_)
   refine rvP C (.sl 16 0 ((l ++ [x.key]).length) 8 false) ?_
   refine rvc_nil ?_
   refine Awp.regionP C ?_
   refine rvP C (.pv (.lit (.int .i64 (IntKind.i64.wrap ((i : Int) + 1))))) ?_
   refine rvP C (.pv (.lit (.int .i64 (IntKind.i64.wrap ((i : Int) + 1))))) ?_
   refine rvc_nil ?_
   refine ⟨h4, (l ++ [x.key]), ?_, ?_⟩
   · exact ⟨hR, (by first | omega | (simp <;> omega))⟩
   · exact ⟨fun b => bif b == 900 then 16 else (fun b => b) b, WeakerR.ofL (Ks := [900]) hI ⟨⟨grow_to rfl rfl app_ne rfl rfl, grow_within rfl⟩, ⟨rfl, rfl⟩, ⟨rfl, rfl⟩, ⟨lit_cast (wrap_i64 (by omega) (by omega)), rfl⟩, trivial⟩ (okH_grow (fun _ => rfl) rfl rfl (okH_nil)) rfl⟩
  ·
   have h4 : ¬ i < calls.D.length := by have := of_decide_eq_false h3; omega
   rw [drop_end h4] at hR
   refine Awp.exit ?_
   refine Awp.cons C (fun _ => .writer) (by kernel_rfl) ?_
   refine rvP C (sS (some l.isEmpty) (eA8 .u8) l) ?_
   refine rvc_un (rexec_call hP C rfl rfl rfl (sortKeys0_calls (Sl.mk l.isEmpty l) (fun x0 x1 => cmpKeys x0 x1) 44 [] cmpKeys_calls rfl (by assumption)) ?_)
   refine rvc_nil ?_
   refine Awp.cons C (fun _ => .writer) (by kernel_rfl) ?_
   refine rvP C (sS (some l.isEmpty) (eA8 .u8) l) ?_
   refine rvc_un (rexec_call hP C rfl rfl rfl (compactKeys0_calls (Sl.mk l.isEmpty l) (by simp [h2])) ?_)
   refine rvP C (sS (some (compactKeys0 (Sl.mk l.isEmpty l)).nil) (eA8 .u8) ((compactKeys0 (Sl.mk l.isEmpty l)).D)) ?_
   refine rvc_nil ?_
   refine Awp.ret ?_
   subst h2
   unfold jKeys_l0 at hR
   rw [show sortKeys [] (fun x0 x1 => cmpKeys x0 x1) = [] from sortKeys_nil] at hR
   subst hR
   exact ⟨.inl rfl, rfl⟩
 ·
  refine Awp.wordsR [(3, .sl 900 0 l.length 8 false), (6, sS (some calls.nil) eCall calls.D), (7, .pv (.lit (.int .i64 (calls.D.length : Int)))), (8, .pv (.lit (.int .i64 (i : Int))))] [(900, .cells (encC (eA8 .u8) l))] [900] (WeakerR.ofL (Ks := [900]) hI ⟨⟨(by exact grow_at_cons (b := 900) (b' := 900) (e := (eA8 .u8)) (l := l) rfl h2 rfl rfl rfl), rfl⟩, ⟨rfl, rfl⟩, ⟨rfl, rfl⟩, ⟨rfl, rfl⟩, trivial⟩ (okH_list (look_cons h2 rfl) rfl rfl (okH_nil)) rfl) ?_
  refine Awp.consP C ?_
  refine rvP C (.pv (.lit (.bool (decide ((i : Int) < (calls.D.length : Int)))))) ?_
  refine rvc_nil ?_
  refine Awp.seq ?_
  refine Awp.cond (b := (decide ((i : Int) < (calls.D.length : Int)))) rfl (fun h6 => ?_) (fun h6 => ?_)
  ·
   have h7 : i < calls.D.length := by have := of_decide_eq_true h6; omega
   obtain ⟨x, h8⟩ := getX h7
   rw [drop_at h8] at hR
   refine Awp.skip ?_
   refine Awp.seq ?_
   refine Awp.block ?_
   refine Awp.consP C ?_
   refine rvc_un (rexec_idxS C rfl rfl rfl rfl rfl rfl x (Int.natCast_nonneg _) h8 ?_)
   refine rvP C (.agg [.pv (.lit (.int .i64 x.client)), .pv (.lit (.int .i64 x.seq)), .pv (.lit (.bool x.write)), .pv (.lit (.int .u8 (x.key 0))), .pv (.lit (.int .u8 (x.key 1))), .pv (.lit (.int .u8 (x.key 2))), .pv (.lit (.int .u8 (x.key 3))), .pv (.lit (.int .u8 (x.key 4))), .pv (.lit (.int .u8 (x.key 5))), .pv (.lit (.int .u8 (x.key 6))), .pv (.lit (.int .u8 (x.key 7))), .pv (.lit (.string x.value)), .pv (.lit (.int .i64 x.mode)), .pv (.lit (.int .i64 x.bound)), .pv (.lit (.int .i64 x.began)), .pv (.lit (.int .i64 x.ended)), .pv (.lit (.int .i64 x.ver)), .pv (.lit (.int .i64 x.err)), .pv (.lit (.int .i64 x.floor))]) ?_
   refine rvc_un (rexec_prim C (δ := { v := .ptr 5 0, new := [(5, .cells [.pv (.lit (.int .i64 0)), .pv (.lit (.int .i64 0)), .pv (.lit (.bool false)), .pv (.lit (.int .u8 0)), .pv (.lit (.int .u8 0)), .pv (.lit (.int .u8 0)), .pv (.lit (.int .u8 0)), .pv (.lit (.int .u8 0)), .pv (.lit (.int .u8 0)), .pv (.lit (.int .u8 0)), .pv (.lit (.int .u8 0)), .pv (.lit (.string ⟨#[]⟩)), .pv (.lit (.int .i64 0)), .pv (.lit (.int .i64 0)), .pv (.lit (.int .i64 0)), .pv (.lit (.int .i64 0)), .pv (.lit (.int .i64 0)), .pv (.lit (.int .i64 0)), .pv (.lit (.int .i64 0))])] }) rfl rfl rfl rfl trivial rfl ?_)
   refine rvc_un (rexec_prim C (δ := { v := .undef, wr := [(5, some (.cells [.pv (.lit (.int .i64 x.client)), .pv (.lit (.int .i64 x.seq)), .pv (.lit (.bool x.write)), .pv (.lit (.int .u8 (x.key 0))), .pv (.lit (.int .u8 (x.key 1))), .pv (.lit (.int .u8 (x.key 2))), .pv (.lit (.int .u8 (x.key 3))), .pv (.lit (.int .u8 (x.key 4))), .pv (.lit (.int .u8 (x.key 5))), .pv (.lit (.int .u8 (x.key 6))), .pv (.lit (.int .u8 (x.key 7))), .pv (.lit (.string x.value)), .pv (.lit (.int .i64 x.mode)), .pv (.lit (.int .i64 x.bound)), .pv (.lit (.int .i64 x.began)), .pv (.lit (.int .i64 x.ended)), .pv (.lit (.int .i64 x.ver)), .pv (.lit (.int .i64 x.err)), .pv (.lit (.int .i64 x.floor))]))] }) rfl rfl rfl rfl trivial rfl ?_)
   refine rvc_nil ?_
   refine Awp.regionP C ?_
   refine rvP C (.sl 900 0 l.length 8 false) ?_
   refine rvP C (.ptr 5 3) ?_
   refine rvP C (.agg [.pv (.lit (.int .u8 (x.key 0))), .pv (.lit (.int .u8 (x.key 1))), .pv (.lit (.int .u8 (x.key 2))), .pv (.lit (.int .u8 (x.key 3))), .pv (.lit (.int .u8 (x.key 4))), .pv (.lit (.int .u8 (x.key 5))), .pv (.lit (.int .u8 (x.key 6))), .pv (.lit (.int .u8 (x.key 7)))]) ?_
   refine rvc_un (rexec_buildSliceF C (eA8 .u8) [x.key] rfl rfl rfl rfl rfl rfl rfl (by decide) rfl ?_)
   refine rvc_un (rexec_append C rfl rfl rfl rfl rfl rfl rfl rfl (fun _ h => by cases h) rfl (en := (eA8 .u8)) (D0 := l) (D := [x.key]) rfl rfl rfl rfl (by have := of_decide_eq_true h6; first | omega | (simp <;> omega)) (by decide) (nn := (l ++ [x.key]).length) (by simp <;> omega) ?_)
   refine rvP C (.sl 16 0 ((l ++ [x.key]).length) 8 false) ?_
   refine rvc_nil ?_
   refine Awp.regionP C ?_
   refine rvP C (.pv (.lit (.int .i64 (IntKind.i64.wrap ((i : Int) + 1))))) ?_
   refine rvP C (.pv (.lit (.int .i64 (IntKind.i64.wrap ((i : Int) + 1))))) ?_
   refine rvc_nil ?_
   refine ⟨h7, (l ++ [x.key]), ?_, ?_⟩
   · exact ⟨hR, (by first | omega | (simp <;> omega))⟩
   · exact ⟨fun b => bif b == 900 then 16 else (fun b => b) b, WeakerR.ofL (Ks := [900]) hI ⟨⟨grow_to rfl rfl app_ne rfl rfl, grow_within rfl⟩, ⟨rfl, rfl⟩, ⟨rfl, rfl⟩, ⟨lit_cast (wrap_i64 (by omega) (by omega)), rfl⟩, trivial⟩ (okH_grow (fun _ => rfl) rfl rfl (okH_nil)) rfl⟩
  ·
   have h7 : ¬ i < calls.D.length := by have := of_decide_eq_false h6; omega
   rw [drop_end h7] at hR
   refine Awp.exit ?_
   refine Awp.cons C (fun _ => .writer) (by kernel_rfl) ?_
   refine rvP C (.sl 900 0 l.length 8 false) ?_
   refine rvc_un (rexec_callM hP C (b := 900) rfl rfl rfl (sortKeys_calls l (fun x0 x1 => cmpKeys x0 x1) 44 [] cmpKeys_calls rfl cmpKeys_swo (by omega)) rfl rfl ?_)
   refine rvc_nil ?_
   refine Awp.cons C (fun _ => .writer) (by kernel_rfl) ?_
   refine rvP C (.sl 900 0 l.length 8 false) ?_
   refine rvc_un (rexec_callX hP C (b := 900) rfl rfl rfl (compactKeys_callsN (sortKeys l (fun x0 x1 => cmpKeys x0 x1)) _ (sortKeys_len _).symm (by rw [sortKeys_len]; omega) (sortKeys_ne (by assumption))) rfl rfl ?_)
   refine rvP C (sS (some (compactKeys (sortKeys l (fun x0 x1 => cmpKeys x0 x1))).isEmpty) (eA8 .u8) (compactKeys (sortKeys l (fun x0 x1 => cmpKeys x0 x1)))) ?_
   refine rvc_nil ?_
   refine Awp.ret ?_
   subst hR
   exact ⟨.inl rfl, rfl⟩
 -- !! two models: ('(compactKeys0 (Sl.mk l.isEmpty l))', 'jKeys_l0 (calls.D.drop (i + 1)) (i + 1) (l ++ [x.key])') ||| ('(Sl.mk ((compactKeys (sortKeys l (fun x0 x1 => cmpKeys x0 x1))).isEmpty) (compactKeys (sortKeys l (fun x0 x1 => cmpKeys x0 x1))))', 'jKeys_l0 (calls.D.drop (i + 1)) (i + 1) (l ++ [x.key])')
end Go.Proofs.Ytoieegmebadfkaa
namespace Go.Proofs.Ytoieegmebadfkaa
open Go.Am
def jRight_l0 (recs : (Sl Record)) : List Record → Nat → Int
  | [], _ => 0
  | x :: xs, i => (bif (decide (x.ver < 1)) then 200 else (bif (decide (x.ver > 1)) then (bif (!((mGet kSlot (Slot.mk x.key (IntKind.i64.wrap (x.ver - 1))) ((openB recs).of_)).isSome)) then 200 else jRight_l0 recs xs (i + 1) ) else jRight_l0 recs xs (i + 1) ))
def jRight (recs : (Sl Record)) : Int :=
  (bif ((((openB recs).of_).length : Int) != (recs.D.length : Int)) then 200 else (bif ((((openB recs).req).length : Int) != (recs.D.length : Int)) then 200 else jRight_l0 recs recs.D 0 ))
theorem jRight_calls (recs : (Sl Record)) (hl1 : recs.D.length ≤ 1000000) : PCalls Try.prog 8 [sS (some recs.nil) eRecord recs.D] (.pv (.lit (.int .i64 (jRight recs)))) := by
 generalize hR : jRight recs = R
 refine PCalls.of_body tabOk Try.func8 rfl rfl rfl rfl rfl mixed fun E hP C hI => ?_
 refine Awp.consP C ?_
 refine rvP C (.pv (.lit (.int .i64 0))) ?_
 refine rvc_nil ?_
 refine Awp.cons C (fun _ => .quiet) (by kernel_rfl) ?_
 refine rvP C (sS (some recs.nil) eRecord recs.D) ?_
 refine rvc_un (rexec_callMaps hP C 509 rfl rfl rfl rfl rfl rfl (openB_calls recs hl1) ?_)
 refine rvc_un (rexec_prim C (δ := { v := .ptr 3 0, new := [(3, .cells [.pv (.lit (.map none)), .pv (.lit (.map none))])] }) rfl rfl rfl rfl trivial rfl ?_)
 refine rvc_un (rexec_prim C (δ := { v := .undef, wr := [(3, some (.cells [.mp 9, .mp 509]))] }) rfl rfl rfl rfl trivial rfl ?_)
 refine rvc_nil ?_
 refine Awp.seq ?_
 refine Awp.cons C (fun o => match o.dst with | some 12 => .reads [9] | some 19 => .reads [509] | _ => .pure) (by kernel_rfl) ?_
 refine rvP C (.ptr 3 0) ?_
 refine rvP C (.mp 9) ?_
 refine rvc_un (rexec_lenMap C rfl rfl rfl rfl rfl rfl rfl ?_)
 refine rvP C (sS (some recs.nil) eRecord recs.D) ?_
 refine rvP C (.pv (.lit (.int .i64 (recs.D.length : Int)))) ?_
 refine rvP C (.pv (.lit (.bool ((((openB recs).of_).length : Int) != (recs.D.length : Int))))) ?_
 refine rvP C (.pv (.lit (.bool ((((openB recs).of_).length : Int) != (recs.D.length : Int))))) ?_
 refine rvc_case 16 ((((openB recs).of_).length : Int) != (recs.D.length : Int)) rfl (fun h1 => ?_) (fun h1 => ?_)
 ·
  replace hR := of_true h1 hR
  refine rvS ?_
  refine rvS ?_
  refine rvS ?_
  refine rvS ?_
  refine rvS ?_
  refine rvS ?_
  refine rvP C (.pv (.lit (.bool true))) ?_
  refine rvc_nil ?_
  refine Awp.condT (b := true) rfl rfl ?_
  refine Awp.consP C ?_
  refine rvP C (.pv (.lit (.int .i64 200))) ?_
  refine rvc_nil ?_
  refine Awp.ret ?_
  subst hR
  exact ⟨.inl rfl, rfl⟩
 ·
  replace hR := of_false h1 hR
  refine rvO C (.ptr 3 1) ?_
  refine rvO C (.mp 509) ?_
  refine rvc_open rfl rfl rfl (rexec_lenMap C rfl rfl rfl rfl rfl rfl rfl ?_)
  refine rvO C (sS (some recs.nil) eRecord recs.D) ?_
  refine rvO C (.pv (.lit (.int .i64 (recs.D.length : Int)))) ?_
  refine rvO C (.pv (.lit (.bool ((((openB recs).req).length : Int) != (recs.D.length : Int))))) ?_
  refine rvP C (.pv (.lit (.bool ((((openB recs).req).length : Int) != (recs.D.length : Int))))) ?_
  refine rvc_nil ?_
  refine Awp.cond (b := ((((openB recs).req).length : Int) != (recs.D.length : Int))) rfl (fun h2 => ?_) (fun h2 => ?_)
  ·
   replace hR := of_true h2 hR
   refine Awp.consP C ?_
   refine rvP C (.pv (.lit (.int .i64 200))) ?_
   refine rvc_nil ?_
   refine Awp.ret ?_
   subst hR
   exact ⟨.inl rfl, rfl⟩
  ·
   replace hR := of_false h2 hR
   refine Awp.skip ?_
   refine Awp.seq ?_
   refine Awp.consP C ?_
   refine rvP C (sS (some recs.nil) eRecord recs.D) ?_
   refine rvP C (.pv (.lit (.int .i64 (recs.D.length : Int)))) ?_
   refine rvP C (.pv (.lit (.int .i64 0))) ?_
   refine rvc_nil ?_
   refine Awp.block ?_
   refine Awp.forR (σ := Unit) (recs.D.length) (fun i _v => [(3, .ptr 3 0), (24, sS (some recs.nil) eRecord recs.D), (25, .pv (.lit (.int .i64 (recs.D.length : Int)))), (26, .pv (.lit (.int .i64 (i : Int))))]) (fun i _v => [(9, mapE kSlot vRecord.enc ((openB recs).of_)), (509, mapE kReq vRecord.enc ((openB recs).req)), (3, .cells [.mp 9, .mp 509])]) [3, 9, 509] (fun i _v => jRight_l0 recs (recs.D.drop i) i  = R) () ?_ ?_ (fun i _v h3 hR => ?_)
   · exact hR
   · exact ⟨fun b => b, WeakerR.ofL (Ks := [3, 9, 509]) hI ⟨⟨rfl, rfl⟩, ⟨rfl, rfl⟩, ⟨rfl, rfl⟩, ⟨rfl, rfl⟩, trivial⟩ (okH_map rfl rfl rfl (okH_map rfl rfl rfl (okH_cons rfl rfl rfl rfl (okH_nil)))) rfl⟩
   refine Awp.consP C ?_
   refine rvP C (.pv (.lit (.bool (decide ((i : Int) < (recs.D.length : Int)))))) ?_
   refine rvc_nil ?_
   refine Awp.seq ?_
   refine Awp.cond (b := (decide ((i : Int) < (recs.D.length : Int)))) rfl (fun h4 => ?_) (fun h4 => ?_)
   ·
    have h5 : i < recs.D.length := by have := of_decide_eq_true h4; omega
    obtain ⟨x, h6⟩ := getX h5
    rw [drop_at h6] at hR
    refine Awp.skip ?_
    refine Awp.seq ?_
    refine Awp.block ?_
    refine Awp.consP C ?_
    refine rvc_un (rexec_idxS C rfl rfl rfl rfl rfl rfl x (Int.natCast_nonneg _) h6 ?_)
    refine rvP C (.agg [.pv (.lit (.int .i64 x.index)), .pv (.lit (.int .i64 x.epoch)), .pv (.lit (.int .u8 (x.key 0))), .pv (.lit (.int .u8 (x.key 1))), .pv (.lit (.int .u8 (x.key 2))), .pv (.lit (.int .u8 (x.key 3))), .pv (.lit (.int .u8 (x.key 4))), .pv (.lit (.int .u8 (x.key 5))), .pv (.lit (.int .u8 (x.key 6))), .pv (.lit (.int .u8 (x.key 7))), .pv (.lit (.int .i64 x.ver)), .pv (.lit (.string x.value)), .pv (.lit (.int .i64 x.req.client)), .pv (.lit (.int .i64 x.req.seq))]) ?_
    refine rvc_un (rexec_prim C (δ := { v := .ptr 5 0, new := [(5, .cells [.pv (.lit (.int .i64 0)), .pv (.lit (.int .i64 0)), .pv (.lit (.int .u8 0)), .pv (.lit (.int .u8 0)), .pv (.lit (.int .u8 0)), .pv (.lit (.int .u8 0)), .pv (.lit (.int .u8 0)), .pv (.lit (.int .u8 0)), .pv (.lit (.int .u8 0)), .pv (.lit (.int .u8 0)), .pv (.lit (.int .i64 0)), .pv (.lit (.string ⟨#[]⟩)), .pv (.lit (.int .i64 0)), .pv (.lit (.int .i64 0))])] }) rfl rfl rfl rfl trivial rfl ?_)
    refine rvc_un (rexec_prim C (δ := { v := .undef, wr := [(5, some (.cells [.pv (.lit (.int .i64 x.index)), .pv (.lit (.int .i64 x.epoch)), .pv (.lit (.int .u8 (x.key 0))), .pv (.lit (.int .u8 (x.key 1))), .pv (.lit (.int .u8 (x.key 2))), .pv (.lit (.int .u8 (x.key 3))), .pv (.lit (.int .u8 (x.key 4))), .pv (.lit (.int .u8 (x.key 5))), .pv (.lit (.int .u8 (x.key 6))), .pv (.lit (.int .u8 (x.key 7))), .pv (.lit (.int .i64 x.ver)), .pv (.lit (.string x.value)), .pv (.lit (.int .i64 x.req.client)), .pv (.lit (.int .i64 x.req.seq))]))] }) rfl rfl rfl rfl trivial rfl ?_)
    refine rvc_nil ?_
    refine Awp.consP C ?_
    refine rvP C (.ptr 3 0) ?_
    refine rvP C (.mp 9) ?_
    refine rvP C (.ptr 5 2) ?_
    refine rvP C (.agg [.pv (.lit (.int .u8 (x.key 0))), .pv (.lit (.int .u8 (x.key 1))), .pv (.lit (.int .u8 (x.key 2))), .pv (.lit (.int .u8 (x.key 3))), .pv (.lit (.int .u8 (x.key 4))), .pv (.lit (.int .u8 (x.key 5))), .pv (.lit (.int .u8 (x.key 6))), .pv (.lit (.int .u8 (x.key 7)))]) ?_
    refine rvP C (.ptr 5 10) ?_
    refine rvP C (.pv (.lit (.int .i64 x.ver))) ?_
    refine rvP C (.pv (.lit (.int .i64 (IntKind.i64.wrap (x.ver - 1))))) ?_
    refine rvP C (.agg [.pv (.lit (.int .u8 (x.key 0))), .pv (.lit (.int .u8 (x.key 1))), .pv (.lit (.int .u8 (x.key 2))), .pv (.lit (.int .u8 (x.key 3))), .pv (.lit (.int .u8 (x.key 4))), .pv (.lit (.int .u8 (x.key 5))), .pv (.lit (.int .u8 (x.key 6))), .pv (.lit (.int .u8 (x.key 7))), .pv (.lit (.int .i64 (IntKind.i64.wrap (x.ver - 1))))]) ?_
    refine rvc_un (rexec_lookup hP C rfl (Slot.mk x.key (IntKind.i64.wrap (x.ver - 1))) zeroR rfl rfl rfl rfl rfl rfl kSlot_ok rfl (.tup [.agg [.pv (.lit (.int .i64 (((mGet kSlot (Slot.mk x.key (IntKind.i64.wrap (x.ver - 1))) ((openB recs).of_)).getD zeroR).index))), .pv (.lit (.int .i64 (((mGet kSlot (Slot.mk x.key (IntKind.i64.wrap (x.ver - 1))) ((openB recs).of_)).getD zeroR).epoch))), .pv (.lit (.int .u8 (((mGet kSlot (Slot.mk x.key (IntKind.i64.wrap (x.ver - 1))) ((openB recs).of_)).getD zeroR).key 0))), .pv (.lit (.int .u8 (((mGet kSlot (Slot.mk x.key (IntKind.i64.wrap (x.ver - 1))) ((openB recs).of_)).getD zeroR).key 1))), .pv (.lit (.int .u8 (((mGet kSlot (Slot.mk x.key (IntKind.i64.wrap (x.ver - 1))) ((openB recs).of_)).getD zeroR).key 2))), .pv (.lit (.int .u8 (((mGet kSlot (Slot.mk x.key (IntKind.i64.wrap (x.ver - 1))) ((openB recs).of_)).getD zeroR).key 3))), .pv (.lit (.int .u8 (((mGet kSlot (Slot.mk x.key (IntKind.i64.wrap (x.ver - 1))) ((openB recs).of_)).getD zeroR).key 4))), .pv (.lit (.int .u8 (((mGet kSlot (Slot.mk x.key (IntKind.i64.wrap (x.ver - 1))) ((openB recs).of_)).getD zeroR).key 5))), .pv (.lit (.int .u8 (((mGet kSlot (Slot.mk x.key (IntKind.i64.wrap (x.ver - 1))) ((openB recs).of_)).getD zeroR).key 6))), .pv (.lit (.int .u8 (((mGet kSlot (Slot.mk x.key (IntKind.i64.wrap (x.ver - 1))) ((openB recs).of_)).getD zeroR).key 7))), .pv (.lit (.int .i64 (((mGet kSlot (Slot.mk x.key (IntKind.i64.wrap (x.ver - 1))) ((openB recs).of_)).getD zeroR).ver))), .pv (.lit (.string (((mGet kSlot (Slot.mk x.key (IntKind.i64.wrap (x.ver - 1))) ((openB recs).of_)).getD zeroR).value))), .pv (.lit (.int .i64 (((mGet kSlot (Slot.mk x.key (IntKind.i64.wrap (x.ver - 1))) ((openB recs).of_)).getD zeroR).req.client))), .pv (.lit (.int .i64 (((mGet kSlot (Slot.mk x.key (IntKind.i64.wrap (x.ver - 1))) ((openB recs).of_)).getD zeroR).req.seq)))], .pv (.lit (.bool ((mGet kSlot (Slot.mk x.key (IntKind.i64.wrap (x.ver - 1))) ((openB recs).of_)).isSome)))]) rfl ?_)
    refine rvP C (.tup [.agg [.pv (.lit (.int .i64 (((mGet kSlot (Slot.mk x.key (IntKind.i64.wrap (x.ver - 1))) ((openB recs).of_)).getD zeroR).index))), .pv (.lit (.int .i64 (((mGet kSlot (Slot.mk x.key (IntKind.i64.wrap (x.ver - 1))) ((openB recs).of_)).getD zeroR).epoch))), .pv (.lit (.int .u8 (((mGet kSlot (Slot.mk x.key (IntKind.i64.wrap (x.ver - 1))) ((openB recs).of_)).getD zeroR).key 0))), .pv (.lit (.int .u8 (((mGet kSlot (Slot.mk x.key (IntKind.i64.wrap (x.ver - 1))) ((openB recs).of_)).getD zeroR).key 1))), .pv (.lit (.int .u8 (((mGet kSlot (Slot.mk x.key (IntKind.i64.wrap (x.ver - 1))) ((openB recs).of_)).getD zeroR).key 2))), .pv (.lit (.int .u8 (((mGet kSlot (Slot.mk x.key (IntKind.i64.wrap (x.ver - 1))) ((openB recs).of_)).getD zeroR).key 3))), .pv (.lit (.int .u8 (((mGet kSlot (Slot.mk x.key (IntKind.i64.wrap (x.ver - 1))) ((openB recs).of_)).getD zeroR).key 4))), .pv (.lit (.int .u8 (((mGet kSlot (Slot.mk x.key (IntKind.i64.wrap (x.ver - 1))) ((openB recs).of_)).getD zeroR).key 5))), .pv (.lit (.int .u8 (((mGet kSlot (Slot.mk x.key (IntKind.i64.wrap (x.ver - 1))) ((openB recs).of_)).getD zeroR).key 6))), .pv (.lit (.int .u8 (((mGet kSlot (Slot.mk x.key (IntKind.i64.wrap (x.ver - 1))) ((openB recs).of_)).getD zeroR).key 7))), .pv (.lit (.int .i64 (((mGet kSlot (Slot.mk x.key (IntKind.i64.wrap (x.ver - 1))) ((openB recs).of_)).getD zeroR).ver))), .pv (.lit (.string (((mGet kSlot (Slot.mk x.key (IntKind.i64.wrap (x.ver - 1))) ((openB recs).of_)).getD zeroR).value))), .pv (.lit (.int .i64 (((mGet kSlot (Slot.mk x.key (IntKind.i64.wrap (x.ver - 1))) ((openB recs).of_)).getD zeroR).req.client))), .pv (.lit (.int .i64 (((mGet kSlot (Slot.mk x.key (IntKind.i64.wrap (x.ver - 1))) ((openB recs).of_)).getD zeroR).req.seq)))], .pv (.lit (.bool ((mGet kSlot (Slot.mk x.key (IntKind.i64.wrap (x.ver - 1))) ((openB recs).of_)).isSome)))]) ?_
    refine rvP C (.agg [.pv (.lit (.int .i64 (((mGet kSlot (Slot.mk x.key (IntKind.i64.wrap (x.ver - 1))) ((openB recs).of_)).getD zeroR).index))), .pv (.lit (.int .i64 (((mGet kSlot (Slot.mk x.key (IntKind.i64.wrap (x.ver - 1))) ((openB recs).of_)).getD zeroR).epoch))), .pv (.lit (.int .u8 (((mGet kSlot (Slot.mk x.key (IntKind.i64.wrap (x.ver - 1))) ((openB recs).of_)).getD zeroR).key 0))), .pv (.lit (.int .u8 (((mGet kSlot (Slot.mk x.key (IntKind.i64.wrap (x.ver - 1))) ((openB recs).of_)).getD zeroR).key 1))), .pv (.lit (.int .u8 (((mGet kSlot (Slot.mk x.key (IntKind.i64.wrap (x.ver - 1))) ((openB recs).of_)).getD zeroR).key 2))), .pv (.lit (.int .u8 (((mGet kSlot (Slot.mk x.key (IntKind.i64.wrap (x.ver - 1))) ((openB recs).of_)).getD zeroR).key 3))), .pv (.lit (.int .u8 (((mGet kSlot (Slot.mk x.key (IntKind.i64.wrap (x.ver - 1))) ((openB recs).of_)).getD zeroR).key 4))), .pv (.lit (.int .u8 (((mGet kSlot (Slot.mk x.key (IntKind.i64.wrap (x.ver - 1))) ((openB recs).of_)).getD zeroR).key 5))), .pv (.lit (.int .u8 (((mGet kSlot (Slot.mk x.key (IntKind.i64.wrap (x.ver - 1))) ((openB recs).of_)).getD zeroR).key 6))), .pv (.lit (.int .u8 (((mGet kSlot (Slot.mk x.key (IntKind.i64.wrap (x.ver - 1))) ((openB recs).of_)).getD zeroR).key 7))), .pv (.lit (.int .i64 (((mGet kSlot (Slot.mk x.key (IntKind.i64.wrap (x.ver - 1))) ((openB recs).of_)).getD zeroR).ver))), .pv (.lit (.string (((mGet kSlot (Slot.mk x.key (IntKind.i64.wrap (x.ver - 1))) ((openB recs).of_)).getD zeroR).value))), .pv (.lit (.int .i64 (((mGet kSlot (Slot.mk x.key (IntKind.i64.wrap (x.ver - 1))) ((openB recs).of_)).getD zeroR).req.client))), .pv (.lit (.int .i64 (((mGet kSlot (Slot.mk x.key (IntKind.i64.wrap (x.ver - 1))) ((openB recs).of_)).getD zeroR).req.seq)))]) ?_
    refine rvP C (.pv (.lit (.bool ((mGet kSlot (Slot.mk x.key (IntKind.i64.wrap (x.ver - 1))) ((openB recs).of_)).isSome)))) ?_
    refine rvc_un (rexec_prim C (δ := { v := .ptr 6 0, new := [(6, .cells [.pv (.lit (.int .i64 0)), .pv (.lit (.int .i64 0)), .pv (.lit (.int .u8 0)), .pv (.lit (.int .u8 0)), .pv (.lit (.int .u8 0)), .pv (.lit (.int .u8 0)), .pv (.lit (.int .u8 0)), .pv (.lit (.int .u8 0)), .pv (.lit (.int .u8 0)), .pv (.lit (.int .u8 0)), .pv (.lit (.int .i64 0)), .pv (.lit (.string ⟨#[]⟩)), .pv (.lit (.int .i64 0)), .pv (.lit (.int .i64 0))])] }) rfl rfl rfl rfl trivial rfl ?_)
    refine rvc_un (rexec_prim C (δ := { v := .undef, wr := [(6, some (.cells [.pv (.lit (.int .i64 (((mGet kSlot (Slot.mk x.key (IntKind.i64.wrap (x.ver - 1))) ((openB recs).of_)).getD zeroR).index))), .pv (.lit (.int .i64 (((mGet kSlot (Slot.mk x.key (IntKind.i64.wrap (x.ver - 1))) ((openB recs).of_)).getD zeroR).epoch))), .pv (.lit (.int .u8 (((mGet kSlot (Slot.mk x.key (IntKind.i64.wrap (x.ver - 1))) ((openB recs).of_)).getD zeroR).key 0))), .pv (.lit (.int .u8 (((mGet kSlot (Slot.mk x.key (IntKind.i64.wrap (x.ver - 1))) ((openB recs).of_)).getD zeroR).key 1))), .pv (.lit (.int .u8 (((mGet kSlot (Slot.mk x.key (IntKind.i64.wrap (x.ver - 1))) ((openB recs).of_)).getD zeroR).key 2))), .pv (.lit (.int .u8 (((mGet kSlot (Slot.mk x.key (IntKind.i64.wrap (x.ver - 1))) ((openB recs).of_)).getD zeroR).key 3))), .pv (.lit (.int .u8 (((mGet kSlot (Slot.mk x.key (IntKind.i64.wrap (x.ver - 1))) ((openB recs).of_)).getD zeroR).key 4))), .pv (.lit (.int .u8 (((mGet kSlot (Slot.mk x.key (IntKind.i64.wrap (x.ver - 1))) ((openB recs).of_)).getD zeroR).key 5))), .pv (.lit (.int .u8 (((mGet kSlot (Slot.mk x.key (IntKind.i64.wrap (x.ver - 1))) ((openB recs).of_)).getD zeroR).key 6))), .pv (.lit (.int .u8 (((mGet kSlot (Slot.mk x.key (IntKind.i64.wrap (x.ver - 1))) ((openB recs).of_)).getD zeroR).key 7))), .pv (.lit (.int .i64 (((mGet kSlot (Slot.mk x.key (IntKind.i64.wrap (x.ver - 1))) ((openB recs).of_)).getD zeroR).ver))), .pv (.lit (.string (((mGet kSlot (Slot.mk x.key (IntKind.i64.wrap (x.ver - 1))) ((openB recs).of_)).getD zeroR).value))), .pv (.lit (.int .i64 (((mGet kSlot (Slot.mk x.key (IntKind.i64.wrap (x.ver - 1))) ((openB recs).of_)).getD zeroR).req.client))), .pv (.lit (.int .i64 (((mGet kSlot (Slot.mk x.key (IntKind.i64.wrap (x.ver - 1))) ((openB recs).of_)).getD zeroR).req.seq)))]))] }) rfl rfl rfl rfl trivial rfl ?_)
    refine rvP C (.pv (.lit (.bool ((mGet kSlot (Slot.mk x.key (IntKind.i64.wrap (x.ver - 1))) ((openB recs).of_)).isSome)))) ?_
    refine rvc_nil ?_
    refine Awp.consP C ?_
    refine rvP C (.ptr 5 10) ?_
    refine rvP C (.pv (.lit (.int .i64 x.ver))) ?_
    refine rvP C (.pv (.lit (.bool (decide (x.ver < 1))))) ?_
    refine rvP C (.pv (.lit (.bool (decide (x.ver < 1))))) ?_
    refine rvc_case 45 (decide (x.ver < 1)) rfl (fun h7 => ?_) (fun h7 => ?_)
    ·
     replace hR := of_true h7 hR
     refine rvS ?_
     refine rvS ?_
     refine rvS ?_
     refine rvS ?_
     refine rvc_shutU rfl rfl rfl ?_
     refine rvc_shutU rfl rfl rfl ?_
     refine rvS ?_
     refine rvP C (.pv (.lit (.bool true))) ?_
     refine rvc_nil ?_
     refine Awp.condT (b := true) rfl rfl ?_
     refine Awp.consP C ?_
     refine rvP C (.pv (.lit (.int .i64 200))) ?_
     refine rvc_nil ?_
     refine Awp.ret ?_
     subst hR
     exact ⟨.inl rfl, rfl⟩
    ·
     replace hR := of_false h7 hR
     refine rvO C (.ptr 5 10) ?_
     refine rvO C (.pv (.lit (.int .i64 x.ver))) ?_
     refine rvO C (.pv (.lit (.bool (decide (x.ver > 1))))) ?_
     refine rvO C (.pv (.lit (.bool (decide (x.ver > 1))))) ?_
     refine rvc_case 49 (decide (x.ver > 1)) rfl (fun h8 => ?_) (fun h8 => ?_)
     ·
      replace hR := of_true h8 hR
      refine rvO C (.pv (.lit (.bool ((mGet kSlot (Slot.mk x.key (IntKind.i64.wrap (x.ver - 1))) ((openB recs).of_)).isSome)))) ?_
      refine rvO C (.pv (.lit (.bool (!((mGet kSlot (Slot.mk x.key (IntKind.i64.wrap (x.ver - 1))) ((openB recs).of_)).isSome))))) ?_
      refine rvO C (.pv (.lit (.bool (!((mGet kSlot (Slot.mk x.key (IntKind.i64.wrap (x.ver - 1))) ((openB recs).of_)).isSome))))) ?_
      refine rvP C (.pv (.lit (.bool (!((mGet kSlot (Slot.mk x.key (IntKind.i64.wrap (x.ver - 1))) ((openB recs).of_)).isSome))))) ?_
      refine rvc_nil ?_
      refine Awp.cond (b := (!((mGet kSlot (Slot.mk x.key (IntKind.i64.wrap (x.ver - 1))) ((openB recs).of_)).isSome))) rfl (fun h9 => ?_) (fun h9 => ?_)
      ·
       replace hR := of_true h9 hR
       refine Awp.consP C ?_
       refine rvP C (.pv (.lit (.int .i64 200))) ?_
       refine rvc_nil ?_
       refine Awp.ret ?_
       subst hR
       exact ⟨.inl rfl, rfl⟩
      ·
       replace hR := of_false h9 hR
       refine Awp.skip ?_
       refine Awp.regionP C ?_
       refine rvP C (.pv (.lit (.int .i64 (IntKind.i64.wrap ((i : Int) + 1))))) ?_
       refine rvP C (.pv (.lit (.int .i64 (IntKind.i64.wrap ((i : Int) + 1))))) ?_
       refine rvc_nil ?_
       refine ⟨h5, (), ?_, ?_⟩
       · exact hR
       · exact ⟨fun b => b, WeakerR.ofL (Ks := [3, 9, 509]) hI ⟨⟨rfl, rfl⟩, ⟨rfl, rfl⟩, ⟨rfl, rfl⟩, ⟨lit_cast (wrap_i64 (by omega) (by omega)), rfl⟩, trivial⟩ (okH_map rfl rfl rfl (okH_map rfl rfl rfl (okH_cons rfl rfl rfl rfl (okH_nil)))) rfl⟩
     ·
      replace hR := of_false h8 hR
      refine rvS ?_
      refine rvS ?_
      refine rvO C (.pv (.lit (.bool false))) ?_
      refine rvP C (.pv (.lit (.bool false))) ?_
      refine rvc_nil ?_
      refine Awp.condF (b := false) rfl rfl ?_
      refine Awp.skip ?_
      refine Awp.regionP C ?_
      refine rvP C (.pv (.lit (.int .i64 (IntKind.i64.wrap ((i : Int) + 1))))) ?_
      refine rvP C (.pv (.lit (.int .i64 (IntKind.i64.wrap ((i : Int) + 1))))) ?_
      refine rvc_nil ?_
      refine ⟨h5, (), ?_, ?_⟩
      · exact hR
      · exact ⟨fun b => b, WeakerR.ofL (Ks := [3, 9, 509]) hI ⟨⟨rfl, rfl⟩, ⟨rfl, rfl⟩, ⟨rfl, rfl⟩, ⟨lit_cast (wrap_i64 (by omega) (by omega)), rfl⟩, trivial⟩ (okH_map rfl rfl rfl (okH_map rfl rfl rfl (okH_cons rfl rfl rfl rfl (okH_nil)))) rfl⟩
   ·
    have h5 : ¬ i < recs.D.length := by have := of_decide_eq_false h4; omega
    rw [drop_end h5] at hR
    refine Awp.exit ?_
    refine Awp.consP C ?_
    refine rvP C (.pv (.lit (.int .i64 0))) ?_
    refine rvc_nil ?_
    refine Awp.ret ?_
    subst hR
    exact ⟨.inl rfl, rfl⟩
end Go.Proofs.Ytoieegmebadfkaa
