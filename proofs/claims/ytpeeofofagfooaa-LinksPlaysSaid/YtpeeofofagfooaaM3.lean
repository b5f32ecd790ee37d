import Derived.Test.YtpeeofofagfooaaM1
import Derived.Test.YtpeeofofagfooaaM2
import Derived.Maps.RangeRun
import Derived.Sort.Row
import Derived.Sort.Grow
import Derived.Deep.Draws
import Derived.Shelf.GgSortFunc.RowK
import Derived.Test.YtpeeofofagfooaaProg
import Derived.KernelRfl
/- An abstract machine over the kit's calls, part 41: maps: kinds of keys; the rules of operations in a region. No conditions. -/
namespace Go.Am
def ckFs (T : Tab) (rec : TyRow → AV → Bool) (xs : List AV) : List Field → Bool
  | [] => true
  | f :: fs => (f.name != "_") && match T.lookup f.type with
    | some r => match partV r xs f.offset with
      | some x => rec r x && ckFs T rec xs fs
      | none => false
    | none => false
def ckIs (rec : TyRow → AV → Bool) (r : TyRow) (xs : List AV) : List Nat → Bool
  | [] => true
  | i :: is => match partV r xs (i * r.size) with
    | some x => rec r x && ckIs rec r xs is
    | none => false
/-- Can a value be a key? -/
def ckAV (T : Tab) : Nat → TyRow → AV → Bool
  | 0, _, _ => false
  | d + 1, r, x => match r.desc with
    | .struct fs => match x with
      | .agg xs => ckFs T (ckAV T d) xs fs.toList
      | _ => false
    | .array n e => match x with
      | .agg xs => match T.lookup e with
        | some re => ckIs (ckAV T d) re xs (List.range n)
        | none => false
      | _ => false
    | .int _ | .bool | .string => true
    | _ => false
theorem run_ckFs {P : Program} {T : Tab} (hT : TabOk P T) {ι : Nat → Option (Nat × Nat)} {imm : Nat → Prop} {w : World} {em : Bool} {n : Nat} {rec : TyRow → AV → Bool}
    (hrec : ∀ {t : TypeId} {r : TyRow} (_ : T.lookup t = some r) {x : AV} (_ : rec r x = true) {v : Value} (_ : VH ι imm w x v), (Instr.checkKey em n t v).run P w = .ok () w) {xs : List AV} {us : List Value} (hx : VHs ι imm w xs us) :
    ∀ (fs : List Field), ckFs T rec xs fs = true → (forIn fs PUnit.unit fun f _ => if f.name ≠ "_" then (do Instr.checkKey em n f.type (← part f.type (List.toArray us) f.offset); pure (ForInStep.yield PUnit.unit)) else pure (ForInStep.yield PUnit.unit) : Sem PUnit).run P w = .ok () w
  | [], _ => rfl
  | f :: fs, h => by
    simp only [ckFs, Bool.and_eq_true, bne_iff_ne, ne_eq] at h
    obtain ⟨h1, h2⟩ := h
    split at h2
    · rename_i r hr
      split at h2
      · rename_i x hp
        simp only [Bool.and_eq_true] at h2
        obtain ⟨u, p1, p2⟩ := run_part hT hr hx hp
        have p3 := hrec hr h2.1 p2
        simp only [List.forIn_cons, ne_eq, h1, not_false_eq_true, if_true, run_bind', p1, p3, run_pure']
        exact run_ckFs hT hrec hx fs h2.2
      · cases h2
    · cases h2
theorem run_ckIs {P : Program} {T : Tab} (hT : TabOk P T) {ι : Nat → Option (Nat × Nat)} {imm : Nat → Prop} {w : World} {em : Bool} {n e : Nat} {re : TyRow} (hre : T.lookup e = some re) {rec : TyRow → AV → Bool}
    (hrec : ∀ {x : AV} (_ : rec re x = true) {v : Value} (_ : VH ι imm w x v), (Instr.checkKey em n e v).run P w = .ok () w) {xs : List AV} {us : List Value} (hx : VHs ι imm w xs us) :
    ∀ (is : List Nat), ckIs rec re xs is = true → (forIn is PUnit.unit fun i _ => (do Instr.checkKey em n e (← part e (List.toArray us) (i * (← Go.sizeOf e))); pure (ForInStep.yield PUnit.unit)) : Sem PUnit).run P w = .ok () w
  | [], _ => rfl
  | i :: is, h => by
    simp only [ckIs] at h
    split at h
    · rename_i x hp
      simp only [Bool.and_eq_true] at h
      obtain ⟨u, p1, p2⟩ := run_part hT hre hx hp
      have p3 := hrec h.1 p2
      simp only [List.forIn_cons, run_bind', run_sizeOf hT hre, p1, p3, run_pure']
      exact run_ckIs hT hre hrec hx is h.2
    · cases h
theorem run_ckAV {P : Program} {T : Tab} (hT : TabOk P T) {ι : Nat → Option (Nat × Nat)} {imm : Nat → Prop} {w : World} (em : Bool) : ∀ (d : Nat) {t : TypeId} {r : TyRow} (_ : T.lookup t = some r) {x : AV} (_ : ckAV T d r x = true) {v : Value} (_ : VH ι imm w x v), (Instr.checkKey em d t v).run P w = .ok () w
  | 0, _, _, _, _, h, _, _ => by simp [ckAV] at h
  | d + 1, t, r, hr, x, h, v, hv => by
    have hu := run_underlying hT hr w
    unfold ckAV at h
    split at h
    · rename_i fs hfs
      split at h
      · rename_i xs
        simp only [VH] at hv
        obtain ⟨us, rfl, hus⟩ := hv
        rw [Instr.checkKey]
        simp only [run_bind', hu, hfs]
        rw [← Array.forIn_toList]
        have := run_ckFs hT (fun hr' _ h' _ q => run_ckAV hT em d hr' h' q) hus fs.toList h
        simp at this ⊢
        rw [this]
      · cases h
    · rename_i n e hne
      split at h
      · rename_i xs
        split at h
        · rename_i re hre
          simp only [VH] at hv
          obtain ⟨us, rfl, hus⟩ := hv
          rw [Instr.checkKey]
          simp only [run_bind', hu, hne]
          simp only [Std.Legacy.Range.forIn_eq_forIn_range', Std.Legacy.Range.size, Nat.sub_zero, Nat.add_one_sub_one, Nat.div_one]
          rw [← List.range_eq_range']
          have := run_ckIs hT hre (fun h' _ q => run_ckAV hT em d hre h' q) hus (List.range n) h
          simp at this ⊢
          rw [this]
        · cases h
      · cases h
    · rename_i k hk
      rw [Instr.checkKey]
      simp only [run_bind', hu, hk, run_pure']
    · rename_i hk
      rw [Instr.checkKey]
      simp only [run_bind', hu, hk, run_pure']
    · rename_i hk
      rw [Instr.checkKey]
      simp only [run_bind', hu, hk, run_pure']
    · cases h
theorem KeyOk.agg {κ : Type} {KE : KEnc κ} {P : Program} {T : Tab} (hT : TabOk P T) {kt : TypeId} {r : TyRow} (hr : T.lookup kt = some r) (hd : isAggD r.desc = true) (hE : ∀ a b, eqAV T 10000 r (KE.enc a) (KE.enc b) = some (KE.eq a b)) (hC : ∀ a, ckAV T 10000 r (KE.enc a) = true) : KeyOk P kt KE where
  check em k v hv := run_ckAV hT em 10000 hr (hC k) hv
  now := .inr ⟨⟨r.desc, (hT kt r hr).1, fun u v => by cases hdd : r.desc <;> rw [hdd] at hd <;> first | (cases hd; done) | (cases u <;> cases v <;> rfl)⟩, fun a b u v h1 h2 => run_eqAV hT 10000 hr (hE a b) h1 h2⟩
structure VEnc (β : Type) where
  enc : β → AV
  pure : ∀ x U, (enc x).within U = true
section steps
variable {E : Env} {T : Tab} {cq : Oper → Cls} {n : Nat} {ops : Array Oper} {κ β : Type} {KE : KEnc κ} {VE : VEnc β} {P : Program}
mutual
theorem rigid_within (U : Nat → Bool) : ∀ (x : AV), rigid x = true → x.within U = true
  | .agg cs, h => by simp only [rigid] at h; simp only [AV.within]; exact rigidL_within U cs h
  | .pv _, _ => rfl
  | .undef, h | .tup _, h | .ptr _ _, h | .sl _ _ _ _ _, h | .slc _ _ _ _ _, h | .tsl _ _, h | .rp _, h | .mp _, h | .fn _ _ _, h => by simp [rigid] at h
theorem rigidL_within (U : Nat → Bool) : ∀ (xs : List AV), rigidL xs = true → AV.withinL U xs = true
  | [], _ => rfl
  | x :: xs, h => by
    simp only [rigidL, Bool.and_eq_true] at h
    simp only [AV.withinL, Bool.and_eq_true]
    exact ⟨rigid_within U x h.1, rigidL_within U xs h.2⟩
end
theorem mapE_within (D : List (κ × β)) (U : Nat → Bool) : (mapE KE VE.enc D).within U = true := by
  simp only [mapE, Blk.within, List.all_map, List.all_eq_true, Function.comp_apply, Bool.and_eq_true]
  exact fun e _ => ⟨rigid_within U _ (KE.rig _), VE.pure _ _⟩
theorem mapE_ren (D : List (κ × β)) (σ : Nat → Nat) : (mapE KE VE.enc D).ren σ = mapE KE VE.enc D := by
  simp only [mapE, Blk.ren, List.map_map]
  congr 1
  exact List.map_congr_left fun e _ => by
    simp only [Function.comp_apply, ren_rigid _ (KE.rig _), AV.ren_none _ (VE.pure _ _)]
theorem refs_mp (b : Nat) (vs : List AV) (hs : List (Nat × Blk)) : refs (.mp b :: vs) hs b = true := by
  simp [refs, AV.withinL, AV.within]
theorem dst_lt (C : Cx E T n) {o : Oper} (h1 : dstB n o = true) : ∀ d, o.dst = some d → d < E.n := fun d e => by
  simp only [dstB, e, decide_eq_true_eq] at h1
  exact C.n ▸ h1
theorem rexec_makeMap (C : Cx E T n) {d : Nat} {t ty : TypeId} {pos : String} {af : Array Edge} {g : Option (Nat × Bool)} {st : St} {K : St → Prop} (h1 : dstB n ⟨some d, .makeMap t none, ty, pos, af, g⟩ = true) (hU : st.U d = false) (KE : KEnc κ) (VE : VEnc β)
    (h7 : K (st.after (some d) { v := .mp d, new := [(d, mapE KE VE.enc [])] })) (hp : clsOf cq ⟨some d, .makeMap t none, ty, pos, af, g⟩ ≠ .pure := by decide) (hft : footB (clsOf cq ⟨some d, .makeMap t none, ty, pos, af, g⟩) [] { v := .mp d, new := [(d, mapE KE VE.enc [])] } = true := by rfl) : rexec E cq n ⟨some d, .makeMap t none, ty, pos, af, g⟩ st K := by
  refine ⟨h1, [], [], _, { vals := rfl, deps := fun _ h => (by cases h), fresh := ?_, does := does_makeMap rfl rfl (dst_lt C h1 d rfl), reach := rfl, inV := ?_, inN := ?_, inW := fun _ h => (by cases h), wr := fun _ h => (by cases h), pure := fun h => absurd h hp, quiet := fun _ => rfl, foot := hft }, h7⟩
  · intro x hx; simp only [List.mem_singleton] at hx; subst hx; exact hU
  · simp [AV.within]
  · intro x hx; simp only [List.mem_singleton] at hx; subst hx; rfl
theorem rexec_lookup (hP : E.P = P) (C : Cx E T n) {d : Option Nat} {t ty : TypeId} {x y : Operand} {ok : Bool} {pos : String} {af : Array Edge} {g : Option (Nat × Bool)} {st : St} {K : St → Prop} (h1 : dstB n ⟨d, .lookup t x y ok, ty, pos, af, g⟩ = true) {b : Nat} {D : List (κ × β)} (k : κ) (z : β)
    (hx : evl st.S x = some (.mp b)) (hy : evl st.S y = some (KE.enc k)) (hb : st.H b = some (mapE KE VE.enc D)) {r re : TyRow} (hr : T.lookup t = some r) {kt et : TypeId} (hdesc : r.desc = .map kt et) (hre : T.lookup et = some re) (KO : KeyOk P kt KE) (hz : VE.enc z = constAV re.zero) (v : AV)
    (hv : v = if ok then .tup [VE.enc ((mGet KE k D).getD z), .pv (.lit (.bool (mGet KE k D).isSome))] else VE.enc ((mGet KE k D).getD z)) (h7 : K (st.after d { v := v }))
    (hp : clsOf cq ⟨d, .lookup t x y ok, ty, pos, af, g⟩ ≠ .pure := by decide) (hft : footB (clsOf cq ⟨d, .lookup t x y ok, ty, pos, af, g⟩) [(b, mapE KE VE.enc D)] { v := v } = true := by rfl) : rexec E cq n ⟨d, .lookup t x y ok, ty, pos, af, g⟩ st K := by
  subst hP
  subst hv
  refine ⟨h1, [.mp b, KE.enc k], [(b, mapE KE VE.enc D)], _, { vals := ?_, deps := ?_, fresh := fun _ h => (by cases h), does := does_lookup C.tab rfl (dst_lt C h1) hr hdesc hre KO hz, reach := ?_, inV := ?_, inN := fun _ h => (by cases h), inW := fun _ h => (by cases h), wr := fun _ h => (by cases h), pure := fun h => absurd h hp, quiet := fun _ => rfl, foot := hft }, h7⟩
  · show evls st.S [x, y] = _
    simp only [evls, hx, hy]
  · intro q hq; simp only [List.mem_singleton] at hq; subst hq; exact hb
  · simp only [reachB, refs_mp, Bool.and_self]
  · cases ok
    · exact VE.pure _ _
    · simp only [if_true, AV.within, AV.withinL, VE.pure, Bool.and_self]
theorem rexec_mapUpdate (hP : E.P = P) (C : Cx E T n) {t ty : TypeId} {x y z : Operand} {pos : String} {af : Array Edge} {g : Option (Nat × Bool)} {st : St} {K : St → Prop} {b : Nat} {D : List (κ × β)} (k : κ) (u : β)
    (hx : evl st.S x = some (.mp b)) (hy : evl st.S y = some (KE.enc k)) (hu : evl st.S z = some (VE.enc u)) (hb : st.H b = some (mapE KE VE.enc D)) {r : TyRow} (hr : T.lookup t = some r) {kt et : TypeId} (hdesc : r.desc = .map kt et) (KO : KeyOk P kt KE)
    (h7 : K (st.after none { v := .undef, wr := [(b, some (mapE KE VE.enc (mSet KE k u D)))] }))
    (hp : clsOf cq ⟨none, .mapUpdate t x y z, ty, pos, af, g⟩ ≠ .pure := by decide) (hq : clsOf cq ⟨none, .mapUpdate t x y z, ty, pos, af, g⟩ ≠ .quiet := by decide) (hft : footB (clsOf cq ⟨none, .mapUpdate t x y z, ty, pos, af, g⟩) [(b, mapE KE VE.enc D)] { v := .undef, wr := [(b, some (mapE KE VE.enc (mSet KE k u D)))] } = true := by rfl) : rexec E cq n ⟨none, .mapUpdate t x y z, ty, pos, af, g⟩ st K := by
  subst hP
  refine ⟨rfl, [.mp b, KE.enc k, VE.enc u], [(b, mapE KE VE.enc D)], _, { vals := ?_, deps := ?_, fresh := fun _ h => (by cases h), does := does_mapUpdate C.tab rfl rfl hr hdesc KO, reach := ?_, inV := rfl, inN := fun _ h => (by cases h), inW := ?_, wr := ?_, pure := fun h => absurd h hp, quiet := fun h => absurd h hq, foot := hft }, h7⟩
  · show evls st.S [x, y, z] = _
    simp only [evls, hx, hy, hu]
  · intro q hq; simp only [List.mem_singleton] at hq; subst hq; exact hb
  · simp only [reachB, refs_mp, Bool.and_self]
  · intro q hq k' hk'
    simp only [List.mem_singleton] at hq
    subst hq
    obtain rfl := Option.some.inj hk'
    exact mapE_within _ _
  · intro q hq
    simp only [List.mem_singleton] at hq
    subst hq
    simp [refs_mp]
theorem rexec_delete (hP : E.P = P) (C : Cx E T n) {d : Option Nat} {c : Call} {t t2 ty : TypeId} {pos : String} {af : Array Edge} {g : Option (Nat × Bool)} {st : St} {K : St → Prop} (h1 : dstB n ⟨d, .call c, ty, pos, af, g⟩ = true) (hc : c.callee = .builtin .delete) (hty : c.argTypes = #[t, t2]) {b : Nat} {D : List (κ × β)} (k : κ)
    (hx : evls st.S c.args.toList = some [.mp b, KE.enc k]) (hb : st.H b = some (mapE KE VE.enc D)) {r : TyRow} (hr : T.lookup t = some r) {kt et : TypeId} (hdesc : r.desc = .map kt et) (KO : KeyOk P kt KE)
    (h7 : K (st.after d { v := .tup [], wr := [(b, some (mapE KE VE.enc (mDel KE k D)))] }))
    (hp : clsOf cq ⟨d, .call c, ty, pos, af, g⟩ ≠ .pure := by decide) (hq : clsOf cq ⟨d, .call c, ty, pos, af, g⟩ ≠ .quiet := by decide) (hft : footB (clsOf cq ⟨d, .call c, ty, pos, af, g⟩) [(b, mapE KE VE.enc D)] { v := .tup [], wr := [(b, some (mapE KE VE.enc (mDel KE k D)))] } = true := by rfl) : rexec E cq n ⟨d, .call c, ty, pos, af, g⟩ st K := by
  subst hP
  refine ⟨h1, [.mp b, KE.enc k], [(b, mapE KE VE.enc D)], _, { vals := ?_, deps := ?_, fresh := fun _ h => (by cases h), does := does_delete C.tab rfl hc hty (dst_lt C h1) hr hdesc KO, reach := ?_, inV := rfl, inN := fun _ h => (by cases h), inW := ?_, wr := ?_, pure := fun h => absurd h hp, quiet := fun h => absurd h hq, foot := hft }, h7⟩
  · show evls st.S (Op.operands (.call c)).toList = _
    have : (Op.operands (.call c)).toList = c.args.toList := by simp [Op.operands, Call.operands, hc]
    rw [this]; exact hx
  · intro q hq; simp only [List.mem_singleton] at hq; subst hq; exact hb
  · simp only [reachB, refs_mp, Bool.and_self]
  · intro q hq k' hk'
    simp only [List.mem_singleton] at hq
    subst hq
    obtain rfl := Option.some.inj hk'
    exact mapE_within _ _
  · intro q hq
    simp only [List.mem_singleton] at hq
    subst hq
    simp [refs_mp]
end steps
end Go.Am
namespace Go.Am
section steps
variable {E : Env} {T : Tab} {cq : Oper → Cls} {n : Nat} {ops : Array Oper}
/-- A call that is handed an object, block 0, and the blocks that it names; what these hold leads nowhere. -/
structure ObjCalls (P : Program) (f : FuncId) (avs : List AV) (cs : List AV) (Bs : List (Nat × Blk)) (av : AV) (cs' : List AV) (Bs' : List (Nat × Blk)) : Prop where
  fn : ∃ fn, P.funcs[f]? = some fn ∧ (fn.name == "runtime.NumGoroutine") = false ∧ fn.body.isNone = false
  args : AV.withinL (inI (0 :: Bs.map (·.1))) avs = true
  c0 : AV.withinL (inI (0 :: Bs.map (·.1))) cs = true
  b0 : ∀ x ∈ Bs, x.2.within (fun _ => false) = true
  nd : (0 :: Bs.map (·.1)).Nodup
  res : av.within (fun _ => false) = true
  c1 : AV.withinL (inI (0 :: Bs'.map (·.1))) cs' = true
  b1 : ∀ x ∈ Bs', x.2.within (fun _ => false) = true
  nd' : (0 :: Bs'.map (·.1)).Nodup
  calls : ACalls P f (0 :: Bs.map (·.1)) avs ((0, .cells cs) :: Bs) av ((0, .cells cs') :: Bs')
theorem ObjCalls.of_body {P : Program} {T : Tab} (hT : TabOk P T) {f : FuncId} {fn : Func} {body : Code} (hf : P.funcs[f]? = some fn) (hb : fn.body = some body) (hn : (fn.name == "runtime.NumGoroutine") = false) {avs cs cs' : List AV} {Bs Bs' : List (Nat × Blk)} {av : AV} (hl : decide (avs.length ≤ fn.ntmps) = true)
    (args : AV.withinL (inI (0 :: Bs.map (·.1))) avs = true) (c0 : AV.withinL (inI (0 :: Bs.map (·.1))) cs = true) (b0 : ∀ x ∈ Bs, x.2.within (fun _ => false) = true) (nd : (0 :: Bs.map (·.1)).Nodup) (res : av.within (fun _ => false) = true)
    (c1 : AV.withinL (inI (0 :: Bs'.map (·.1))) cs' = true) (b1 : ∀ x ∈ Bs', x.2.within (fun _ => false) = true) (nd' : (0 :: Bs'.map (·.1)).Nodup) (hm : P.follows .mixedOrders = true)
    (h : ∀ E : Env, E.P = P → Cx E T fn.ntmps → E.I = 0 :: Bs.map (·.1) → Awp E body (entry avs ((0, .cells cs) :: Bs) (0 :: Bs.map (·.1))) fun e st => (e = .ret ∨ e = .normal) ∧ resAV T st fn.results.toList = some av ∧ st.H 0 = some (.cells cs') ∧ eqsH st.H Bs') : ObjCalls P f avs cs Bs av cs' Bs' where
  fn := ⟨fn, hf, hn, by simp [hb]⟩
  args := args
  c0 := c0
  b0 := b0
  nd := nd
  res := res
  c1 := c1
  b1 := b1
  nd' := nd'
  calls := ACalls.of_body hT hf hb (by simpa using hl) fun E hP hE hI => (h E hP ⟨hP ▸ hT, hE, hP ▸ hm⟩ hI).mono fun e st ⟨h1, h2, h3, h4⟩ => ⟨h1, h2, fun x hx => by
    rcases List.mem_cons.1 hx with rfl | hx
    · exact h3
    · exact eqsH_mem h4 x hx⟩
mutual
theorem AV.within_ren {U V : Nat → Bool} {τ : Nat → Nat} (h : ∀ b, U b = true → V (τ b) = true) : ∀ (x : AV), x.within U = true → (x.ren τ).within V = true
  | .agg cs, hx => by simp only [AV.within] at hx; simp only [AV.ren, AV.within]; exact AV.withinL_ren h cs hx
  | .tup cs, hx => by simp only [AV.within] at hx; simp only [AV.ren, AV.within]; exact AV.withinL_ren h cs hx
  | .undef, _ | .pv _, _ | .tsl _ _, _ | .rp _, _ => rfl
  | .ptr b _, hx => by simp only [AV.within] at hx; simp only [AV.ren, AV.within]; exact h b hx
  | .sl b _ _ _ _, hx => by simp only [AV.within] at hx; simp only [AV.ren, AV.within]; exact h b hx
  | .slc b _ _ _ _, hx => by simp only [AV.within] at hx; simp only [AV.ren, AV.within]; exact h b hx
  | .mp b, hx => by simp only [AV.within] at hx; simp only [AV.ren, AV.within]; exact h b hx
  | .fn _ xs ys, hx => by
    simp only [AV.within, Bool.and_eq_true] at hx
    simp only [AV.ren, AV.within, Bool.and_eq_true]
    exact ⟨AV.withinL_ren h xs hx.1, AV.withinL_ren h ys hx.2⟩
theorem AV.withinL_ren {U V : Nat → Bool} {τ : Nat → Nat} (h : ∀ b, U b = true → V (τ b) = true) : ∀ (xs : List AV), AV.withinL U xs = true → AV.withinL V (AV.renL τ xs) = true
  | [], _ => rfl
  | x :: xs, hx => by
    simp only [AV.withinL, Bool.and_eq_true] at hx
    simp only [AV.renL, AV.withinL, Bool.and_eq_true]
    exact ⟨AV.within_ren h x hx.1, AV.withinL_ren h xs hx.2⟩
end
/-- What such a call does at the caller's: σ names the blocks that are handed in, L those that are new. -/
def objDelta (σ : Nat → Nat) (L : List (Nat × Nat)) (I : List Nat) (Bs : List (Nat × Blk)) (av : AV) (cs' : List AV) (Bs' : List (Nat × Blk)) : Delta where
  v := av
  new := L.map fun x => (x.1, ((heapOf Bs' x.2).getD (.cells [])))
  wr := (σ 0, some (.cells (AV.renL (Names.τ ⟨σ, L⟩ I) cs'))) :: Bs.map fun x => (σ x.1, heapOf Bs' x.1)
theorem inj_of_nodup {α β : Type} {f : α → β} : ∀ {l : List α}, (l.map f).Nodup → ∀ {a b : α}, a ∈ l → b ∈ l → f a = f b → a = b
  | [], _, _, _, ha, _, _ => by cases ha
  | x :: l, h, a, b, ha, hb, e => by
    rw [List.map_cons, List.nodup_cons] at h
    rcases List.mem_cons.1 ha with h1 | h1 <;> rcases List.mem_cons.1 hb with h2 | h2
    · rw [h1, h2]
    · exact (h.1 (List.mem_map.2 ⟨b, h2, by rw [← e, h1]⟩)).elim
    · exact (h.1 (List.mem_map.2 ⟨a, h1, by rw [e, h2]⟩)).elim
    · exact inj_of_nodup h.2 h1 h2 e
theorem heapOf_cons_ne {b : Nat} {k : Blk} {H : List (Nat × Blk)} {c : Nat} (h : c ≠ b) : heapOf ((b, k) :: H) c = heapOf H c := by
  have : (c == b) = false := by simpa using h
  simp only [heapOf, List.lookup, this]
theorem rexec_callObj {P : Program} (hP : E.P = P) (C : Cx E T n) {f : FuncId} {avs args cs cs' : List AV} {Bs Bs' : List (Nat × Blk)} {av : AV} {d : Option Nat} {c : Call} {ty : TypeId} {pos : String} {af : Array Edge} {g : Option (Nat × Bool)} {st : St} {K : St → Prop}
    (σ : Nat → Nat) (L : List (Nat × Nat)) (h1 : dstB n ⟨d, .call c, ty, pos, af, g⟩ = true) (hc : c.callee = .value (.func f)) (hv : evls st.S c.args.toList = some args)
    (F : ObjCalls P f avs cs Bs av cs' Bs') (ha : AV.renL σ avs = args) (hb : st.H (σ 0) = some (.cells (AV.renL σ cs))) (hBs : eqsH st.H (Bs.map fun x => (σ x.1, x.2))) (hinj : ((0 :: Bs.map (·.1)).map σ).Nodup) (hU : (L.all fun x => !st.U x.1) = true)
    (hL1 : (L.map (·.1)).Nodup) (hL2 : (L.map (·.2)).Nodup) (hL3 : ∀ x ∈ L, inI (0 :: Bs.map (·.1)) x.2 = false) (hL4 : ∀ x ∈ L, (heapOf Bs' x.2).isSome = true) (hL5 : ∀ x ∈ Bs', Names.knows ⟨σ, L⟩ (0 :: Bs.map (·.1)) x.1 = true)
    (h7 : K (st.after d (objDelta σ L (0 :: Bs.map (·.1)) Bs av cs' Bs')))
    (hreach : refs (.fn f [] [] :: args) [] (σ 0) = true) (hrb : ∀ x ∈ Bs, AV.withinL (· != σ x.1) (args ++ AV.renL σ cs) = false)
    (hp : clsOf cq ⟨d, .call c, ty, pos, af, g⟩ ≠ .pure := by decide) (hq : clsOf cq ⟨d, .call c, ty, pos, af, g⟩ ≠ .quiet := by decide)
    (hft : footB (clsOf cq ⟨d, .call c, ty, pos, af, g⟩) ((σ 0, .cells (AV.renL σ cs)) :: Bs.map fun x => (σ x.1, x.2)) (objDelta σ L (0 :: Bs.map (·.1)) Bs av cs' Bs') = true := by rfl) : rexec E cq n ⟨d, .call c, ty, pos, af, g⟩ st K := by
  subst hP
  obtain ⟨fn, q1, q2, q3⟩ := F.fn
  have hd : ∀ x, d = some x → x < E.n := dst_lt C h1
  have hnone : ∀ (U : Nat → Bool) (b : Nat), (fun _ : Nat => false) b = true → U b = true := fun _ _ h => by cases h
  have hI0 : inI (0 :: Bs.map (·.1)) 0 = true := by simp [inI]
  have hIB : ∀ x ∈ Bs, inI (0 :: Bs.map (·.1)) x.1 = true := fun x hx => by
    simp only [inI, List.contains_iff_mem]
    exact List.mem_cons_of_mem _ (List.mem_map.2 ⟨x, hx, rfl⟩)
  have h0B : ∀ x ∈ Bs, x.1 ≠ 0 := fun x hx e => by
    have := (List.nodup_cons.1 F.nd).1
    exact this (List.mem_map.2 ⟨x, hx, e⟩)
  have h0B' : ∀ x ∈ Bs', x.1 ≠ 0 := fun x hx e => by
    have := (List.nodup_cons.1 F.nd').1
    exact this (List.mem_map.2 ⟨x, hx, e⟩)
  have hinj' : ∀ b c, inI (0 :: Bs.map (·.1)) b = true → inI (0 :: Bs.map (·.1)) c = true → σ b = σ c → b = c := fun b c hb hc e => by
    simp only [inI, List.contains_iff_mem] at hb hc
    exact inj_of_nodup hinj hb hc e
  have hknow0 : Names.knows ⟨σ, L⟩ (0 :: Bs.map (·.1)) 0 = true := by simp [Names.knows, hI0]
  have ok : CallOk ⟨σ, L⟩ (0 :: Bs.map (·.1)) avs ((0, .cells cs) :: Bs) ((0, .cells cs') :: Bs') av := by
    refine { args := F.args, ids := ?_, blks := ?_, nodup := by simpa using F.nd, inj := hinj', nodupL := hL1, nodupR := hL2, fresh := hL3, res := ?_, res' := ?_, kept := ?_, all := ?_, used := ?_ }
    · intro x hx
      rcases List.mem_cons.1 hx with rfl | hx
      · exact hI0
      · exact hIB x hx
    · intro x hx
      rcases List.mem_cons.1 hx with rfl | hx
      · exact F.c0
      · exact Blk.within_mono (hnone _) _ (F.b0 x hx)
    · exact AV.within_mono (hnone _) av F.res
    · intro x hx
      rcases List.mem_cons.1 hx with rfl | hx
      · refine ⟨hknow0, AV.withinL_mono (fun b hb => ?_) cs' F.c1⟩
        simp only [inI, List.contains_iff_mem, List.mem_cons] at hb
        rcases hb with rfl | hb
        · exact hknow0
        · obtain ⟨y, hy, rfl⟩ := List.mem_map.1 hb
          exact hL5 y hy
      · exact ⟨hL5 x hx, Blk.within_mono (hnone _) _ (F.b1 x hx)⟩
    · intro x hx hI
      simp only [inI, List.contains_iff_mem, List.mem_cons] at hI
      rcases hI with h0 | hI
      · exact ⟨.cells cs, by rw [h0]; exact List.mem_cons_self ..⟩
      · obtain ⟨y, hy, e⟩ := List.mem_map.1 hI
        exact ⟨y.2, List.mem_cons_of_mem _ (by rw [← e]; exact hy)⟩
    · intro x hx
      have hne : x.2 ≠ 0 := fun e => by
        have := hL3 x hx
        rw [e, hI0] at this; cases this
      rw [heapOf_cons_ne hne]; exact hL4 x hx
    · intro b hb
      simp only [inI, List.contains_iff_mem, List.mem_cons] at hb
      rcases hb with rfl | hb
      · exact .inr rfl
      · obtain ⟨y, hy, rfl⟩ := List.mem_map.1 hb
        right
        rw [heapOf_cons_ne (h0B y hy)]
        have := lookup_of_mem (l := Bs) (x := y) (List.nodup_cons.1 F.nd).2 hy
        simp only [heapOf, this]; rfl
  have hdo := does_call (E := E) (o := ⟨d, .call c, ty, pos, af, g⟩) (c := c) rfl hc hd q1 q2 q3 F.calls ok (args := args) (caps := []) (by simpa using ha)
  have pure1 : ∀ x, heapOf Bs' x = none ∨ ∃ k, heapOf Bs' x = some k ∧ k.within (fun _ => false) = true := fun x => by
    cases e : heapOf Bs' x with
    | none => exact .inl rfl
    | some k => exact .inr ⟨k, rfl, F.b1 (x, k) (lookup_mem (l := Bs') e)⟩
  have hren : ∀ (τ : Nat → Nat) x, (heapOf Bs' x).map (·.ren τ) = heapOf Bs' x := fun τ x => by
    rcases pure1 x with h | ⟨k, h, hk⟩
    · rw [h]; rfl
    · rw [h, Option.map_some, Blk.ren_none hk]
  have hH : (((0, Blk.cells cs) :: Bs).map fun x => (σ x.1, x.2.ren σ)) = (σ 0, .cells (AV.renL σ cs)) :: Bs.map fun x => (σ x.1, x.2) := by
    rw [List.map_cons]
    congr 1
    exact List.map_congr_left fun x hx => by rw [Blk.ren_none (F.b0 x hx)]
  have he : Names.delta ⟨σ, L⟩ (0 :: Bs.map (·.1)) ((0, .cells cs) :: Bs) ((0, .cells cs') :: Bs') av = objDelta σ L (0 :: Bs.map (·.1)) Bs av cs' Bs' := by
    unfold Names.delta objDelta
    congr 1
    · exact AV.ren_none av F.res
    · refine List.map_congr_left fun x hx => ?_
      have hne : x.2 ≠ 0 := fun e => by
        have := hL3 x hx
        rw [e, hI0] at this; cases this
      rw [heapOf_cons_ne hne]
      obtain ⟨k, hk⟩ := Option.isSome_iff_exists.1 (hL4 x hx)
      have := hren (Names.τ ⟨σ, L⟩ (0 :: Bs.map (·.1))) x.2
      rw [hk] at this ⊢
      simp only [Option.map_some, Option.some.injEq] at this
      simp only [Option.getD_some, this]
    · rw [List.map_cons]
      congr 1
      refine List.map_congr_left fun x hx => ?_
      rw [heapOf_cons_ne (h0B x hx), hren]
  rw [he] at hdo
  have hdo' : Does E ⟨d, .call c, ty, pos, af, g⟩ (.fn f [] [] :: args) ((σ 0, .cells (AV.renL σ cs)) :: Bs.map fun x => (σ x.1, x.2)) (objDelta σ L (0 :: Bs.map (·.1)) Bs av cs' Bs') := by
    rw [← hH]; exact hdo
  have hops : (Op.operands (.call c)).toList = .func f :: c.args.toList := by simp [Op.operands, Call.operands, hc]
  have hr0 : ∀ hs, refs (.fn f [] [] :: args) hs (σ 0) = true := fun hs => by
    simp only [refs, Bool.or_eq_true] at hreach ⊢
    rcases hreach with h | h
    · exact .inl h
    · simp at h
  have hrB : ∀ x ∈ Bs, ∀ hs, (σ 0, Blk.cells (AV.renL σ cs)) ∈ hs → refs (.fn f [] [] :: args) hs (σ x.1) = true := fun x hx hs hm => by
    have h := hrb x hx
    simp only [refs, Bool.or_eq_true, Bool.not_eq_true', List.any_eq_true]
    have key : AV.withinL (· != σ x.1) args = false ∨ AV.withinL (· != σ x.1) (AV.renL σ cs) = false := by
      cases e1 : AV.withinL (· != σ x.1) args
      · exact .inl rfl
      · cases e2 : AV.withinL (· != σ x.1) (AV.renL σ cs)
        · exact .inr rfl
        · have : AV.withinL (· != σ x.1) (args ++ AV.renL σ cs) = true := AV.withinL_of fun y hy => by
            rcases List.mem_append.1 hy with hy | hy
            · exact AV.withinL_mem e1 y hy
            · exact AV.withinL_mem e2 y hy
          rw [this] at h; cases h
    rcases key with h | h
    · left; simp only [AV.withinL, h, Bool.and_false]
    · right; exact ⟨_, hm, by simpa [Blk.within] using h⟩
  have hrAll : reachB (.fn f [] [] :: args) [] ((σ 0, .cells (AV.renL σ cs)) :: Bs.map fun x => (σ x.1, x.2)) = true := by
    have key : ∀ (bs : List (Nat × Blk)) (seen : List (Nat × Blk)), (∀ x ∈ bs, x ∈ Bs) → (σ 0, Blk.cells (AV.renL σ cs)) ∈ seen → reachB (.fn f [] [] :: args) seen (bs.map fun x => (σ x.1, x.2)) = true := by
      intro bs
      induction bs with
      | nil => intro _ _ _; rfl
      | cons y bs ih =>
        intro seen hb hm
        simp only [List.map_cons, reachB, Bool.and_eq_true]
        exact ⟨hrB y (hb y (List.mem_cons_self ..)) seen hm, ih _ (fun x hx => hb x (List.mem_cons_of_mem _ hx)) (List.mem_cons_of_mem _ hm)⟩
    simp only [reachB, Bool.and_eq_true]
    exact ⟨hr0 [], key Bs _ (fun _ h => h) (List.mem_cons_self ..)⟩
  have hknown : ∀ b, inI (0 :: Bs'.map (·.1)) b = true → ((objDelta σ L (0 :: Bs.map (·.1)) Bs av cs' Bs').new.lookup (Names.τ ⟨σ, L⟩ (0 :: Bs.map (·.1)) b)).isSome = true ∨ refs (.fn f [] [] :: args) ((σ 0, .cells (AV.renL σ cs)) :: Bs.map fun x => (σ x.1, x.2)) (Names.τ ⟨σ, L⟩ (0 :: Bs.map (·.1)) b) = true := fun b hb => by
    have hk : Names.knows ⟨σ, L⟩ (0 :: Bs.map (·.1)) b = true := by
      simp only [inI, List.contains_iff_mem, List.mem_cons] at hb
      rcases hb with rfl | hb
      · exact hknow0
      · obtain ⟨y, hy, rfl⟩ := List.mem_map.1 hb
        exact hL5 y hy
    cases hi : inI (0 :: Bs.map (·.1)) b with
    | true =>
      right
      have e : Names.τ ⟨σ, L⟩ (0 :: Bs.map (·.1)) b = σ b := by simp only [Names.τ, hi, if_true]
      rw [e]
      simp only [inI, List.contains_iff_mem, List.mem_cons] at hi
      rcases hi with rfl | hi
      · exact hr0 _
      · obtain ⟨y, hy, rfl⟩ := List.mem_map.1 hi
        exact hrB y hy _ (List.mem_cons_self ..)
    | false =>
      left
      simp only [Names.knows, hi, Bool.false_or, List.any_eq_true, beq_iff_eq] at hk
      obtain ⟨y, hy, rfl⟩ := hk
      have e : Names.τ ⟨σ, L⟩ (0 :: Bs.map (·.1)) y.2 = y.1 := by
        simp only [Names.τ, hi, Bool.false_eq_true, if_false, find_snd hL2 hy]; rfl
      rw [e]
      have : (L.map fun x => (x.1, (heapOf Bs' x.2).getD (.cells []))).lookup y.1 = some ((heapOf Bs' y.2).getD (.cells [])) :=
        lookup_of_mem (l := L.map fun x => (x.1, (heapOf Bs' x.2).getD (.cells []))) (x := (y.1, (heapOf Bs' y.2).getD (.cells []))) (by rw [List.map_map]; exact hL1) (List.mem_map.2 ⟨y, hy, rfl⟩)
      show ((L.map fun x => (x.1, (heapOf Bs' x.2).getD (.cells []))).lookup y.1).isSome = true
      rw [this]; rfl
  refine ⟨h1, .fn f [] [] :: args, _, _, { vals := ?_, deps := ?_, fresh := ?_, does := hdo', reach := hrAll, inV := ?_, inN := ?_, inW := ?_, wr := ?_, pure := fun h => absurd h hp, quiet := fun h => absurd h hq, foot := hft }, h7⟩
  · show evls st.S (Op.operands (.call c)).toList = _
    rw [hops]; simp only [evls, evl, hv]
  · intro x hx
    rcases List.mem_cons.1 hx with rfl | hx
    · exact hb
    · exact eqsH_mem hBs x hx
  · intro x hx
    obtain ⟨y, hy, rfl⟩ := List.mem_map.1 hx
    have := List.all_eq_true.1 hU y hy
    simpa using this
  · exact AV.within_mono (hnone _) av F.res
  · intro x hx
    obtain ⟨y, hy, rfl⟩ := List.mem_map.1 hx
    rcases pure1 y.2 with h | ⟨k, h, hk⟩
    · rw [h]; rfl
    · show ((heapOf Bs' y.2).getD _).within _ = true
      rw [h]; exact Blk.within_mono (hnone _) _ hk
  · intro x hx k hk
    rcases List.mem_cons.1 hx with rfl | hx
    · obtain rfl := Option.some.inj hk
      refine AV.withinL_ren (fun b hb => ?_) cs' F.c1
      have := hknown b hb
      simpa using this
    · obtain ⟨y, hy, rfl⟩ := List.mem_map.1 hx
      rcases pure1 y.1 with h | ⟨k', h, hk'⟩
      · have hk : heapOf Bs' y.1 = some k := hk
        rw [h] at hk; cases hk
      · have hk : heapOf Bs' y.1 = some k := hk
        rw [h] at hk
        obtain rfl := Option.some.inj hk
        exact Blk.within_mono (hnone _) _ hk'
  · intro x hx
    simp only [Bool.or_eq_true]
    right
    rcases List.mem_cons.1 hx with rfl | hx
    · exact hr0 _
    · obtain ⟨y, hy, rfl⟩ := List.mem_map.1 hx
      exact hrB y hy _ (List.mem_cons_self ..)
end steps
end Go.Am
namespace Go.Am
section heads
variable {κ β : Type} {KE : KEnc κ} {VE : VEnc β} {f : Nat → Option Blk} {τ : Nat → Nat} {U Ks : List Nat} {H : List (Nat × Blk)}
theorem okH_map {c : Nat} {D : List (κ × β)} (h1 : f (τ c) = some (mapE KE VE.enc D)) (h2 : Ks.contains c = true) (h3 : U.contains c = true) (h : okH f τ U Ks H) : okH f τ U Ks ((c, mapE KE VE.enc D) :: H) :=
  okH_cons (by rw [h1, mapE_ren]) h2 h3 (mapE_within _ _) h
end heads
theorem allB_nil {α : Type} {P : α → Prop} : ∀ x ∈ ([] : List α), P x := fun _ h => by cases h
theorem allB_cons {α : Type} {P : α → Prop} {x : α} {l : List α} (h : P x) (hl : ∀ y ∈ l, P y) : ∀ y ∈ x :: l, P y := fun y hy => by
  rcases List.mem_cons.1 hy with e | hy
  · rw [e]; exact h
  · exact hl y hy
section steps
variable {E : Env} {T : Tab} {cq : Oper → Cls} {n : Nat}
end steps
end Go.Am
namespace Go.Am
section worlds
variable {E : Env} {κ β : Type} {KE : KEnc κ} {ve : β → AV} {ι : Nat → Option (Nat × Nat)} {imm : Nat → Prop} {st : St} {a : Act} {w : World}
/-- A map told whole: entries in order, with their stamps. -/
def mapX {κ β : Type} (KE : KEnc κ) (ve : β → AV) (X : List ((κ × β) × Nat)) (q : Nat) : Blk := .mapx (X.map fun e => (KE.enc e.1.1, ve e.1.2, e.2)) q
theorem dropB_mapX (X : List ((κ × β) × Nat)) : dropB (X.map fun e => (KE.enc e.1.1, ve e.1.2, e.2)) = (X.map (·.1)).map fun e => (KE.enc e.1, ve e.2) := by
  simp [dropB]
theorem Delta.H_wr {v : AV} {b : Nat} {k : Option Blk} {H : Nat → Option Blk} : (Delta.mk v [] [(b, k)]).H H = fun b' => if b' = b then k else H b' := by
  funext b'
  simp only [Delta.H, List.lookup]
  by_cases hbb : b' = b
  · subst hbb; simp
  · have : (b' == b) = false := by simpa using hbb
    simp [this, hbb]
/-- A block is told in other words. -/
theorem SR.retell' (h : SR E ι imm st a w) {b : Nat} {k k' : Blk} (hb : st.H b = some k) (hk : ∀ r z, ι b = some (r, z) → BlkH ι imm w r z k') (v : AV) : SR E ι imm ⟨st.S, (Delta.mk v [] [(b, some k')]).H st.H, (Delta.mk v [] [(b, some k')]).U st.U⟩ a w := by
  refine { h with defers := h.defers, size := h.size, slot := h.slot, heap := ⟨fun b' k1 hk1 => ?_, fun b1 b2 k1 k2 r1 z1 z2 hk1 hk2 hi1 hi2 => ?_⟩, used := fun b' x hx => ?_ }
  · rw [Delta.H_wr] at hk1
    dsimp only at hk1
    split at hk1
    · rename_i e
      subst e
      obtain rfl := Option.some.inj hk1
      obtain ⟨r, z, q1, q2, q3, _⟩ := h.heap.blk b' k hb
      exact ⟨r, z, q1, q2, q3, hk r z q1⟩
    · exact h.heap.blk b' k1 hk1
  · have old : ∀ b' k1, (Delta.mk v [] [(b, some k')]).H st.H b' = some k1 → ∃ k2, st.H b' = some k2 := fun b' k1 hk1 => by
      rw [Delta.H_wr] at hk1
      dsimp only at hk1
      split at hk1
      · rename_i e; subst e; exact ⟨_, hb⟩
      · exact ⟨_, hk1⟩
    obtain ⟨_, q1⟩ := old b1 k1 hk1
    obtain ⟨_, q2⟩ := old b2 k2 hk2
    exact h.heap.inj b1 b2 _ _ r1 z1 z2 q1 q2 hi1 hi2
  · simp only [Delta.U, List.lookup, Option.isSome_none, Bool.false_or]; exact h.used b' x hx
/-- A block that is no row is written. -/
theorem SR.writeObj (h : SR E ι imm st a w) {b : Nat} {k k' : Blk} (hb : st.H b = some k) {r z : Nat} (hi : ι b = some (r, z)) {o o' : Obj} (ho : w.heap[r]? = some o) (hc : ∀ c e f, o ≠ Obj.cells c e f)
    (hk : Grows ι ι imm imm w { w with heap := w.heap.setIfInBounds r o' } → BlkH ι imm { w with heap := w.heap.setIfInBounds r o' } r z k') (v : AV) :
    SR E ι imm ⟨st.S, (Delta.mk v [] [(b, some k')]).H st.H, (Delta.mk v [] [(b, some k')]).U st.U⟩ a { w with heap := w.heap.setIfInBounds r o' } := by
  obtain ⟨r', z', q1, h6, h7, _⟩ := h.heap.blk b k hb
  rw [hi] at q1
  simp only [Option.some.injEq, Prod.mk.injEq] at q1
  obtain ⟨rfl, rfl⟩ := q1
  obtain ⟨hs1, hs2⟩ := Go.MapKept.heap_set (o' := o') ho
  have g : Grows ι ι imm imm w { w with heap := w.heap.setIfInBounds r o' } := ⟨fun _ _ h => h, ⟨fun _ h => h, fun k hk => hs2 k (fun e => h6 (e ▸ hk))⟩, fun r' c1 e1 f1 hr' => by
    by_cases hrr : r' = r
    · subst hrr; rw [ho] at hr'; exact absurd (Option.some.inj hr') (hc _ _ _)
    · exact ⟨c1, f1, (hs2 r' hrr).trans hr', rfl⟩⟩
  have hH : ∀ b' k1, (Delta.mk v [] [(b, some k')]).H st.H b' = some k1 → (b' = b ∧ k1 = k') ∨ (b' ≠ b ∧ st.H b' = some k1) := fun b' k1 hk1 => by
    rw [Delta.H_wr] at hk1
    dsimp only at hk1
    split at hk1
    · rename_i e; exact .inl ⟨e, (Option.some.inj hk1).symm⟩
    · rename_i e; exact .inr ⟨e, hk1⟩
  have hold : ∀ b' k1, (Delta.mk v [] [(b, some k')]).H st.H b' = some k1 → ∃ k2, st.H b' = some k2 := fun b' k1 hk1 => by
    rcases hH b' k1 hk1 with ⟨rfl, _⟩ | ⟨_, h⟩
    · exact ⟨_, hb⟩
    · exact ⟨_, h⟩
  have hsz : ({ w with heap := w.heap.setIfInBounds r o' } : World).heap.size = w.heap.size := by simp
  refine h.turn g rfl rfl rfl (Nat.le_refl _) (by rw [hsz]; exact Nat.le_refl _) (fun k _ hM => hs2 k (fun e => hM (e ▸ h7))) ⟨fun b' k1 hk1 => ?_, fun b1 b2 k1 k2 r1 z1 z2 hk1 hk2 hi1 hi2 => ?_⟩ (fun b' x hx => ?_) (fun _ hk => .inl hk) (fun k hk => by rw [hsz]; exact h.immlt k hk)
  · rcases hH b' k1 hk1 with ⟨rfl, rfl⟩ | ⟨hne, hk1⟩
    · exact ⟨r, z, hi, h6, h7, hk g⟩
    · obtain ⟨r', z', q1, q2, q3, q4⟩ := h.heap.blk b' k1 hk1
      have hrr : r' ≠ r := fun e => hne (h.heap.inj b' b k1 _ r z' z hk1 hb (e ▸ q1) hi)
      exact ⟨r', z', q1, q2, q3, q4.grows g (hs2 r' hrr)⟩
  · obtain ⟨k1', q1⟩ := hold b1 k1 hk1
    obtain ⟨k2', q2⟩ := hold b2 k2 hk2
    exact h.heap.inj b1 b2 k1' k2' r1 z1 z2 q1 q2 hi1 hi2
  · simp only [Delta.U, List.lookup, Option.isSome_none, Bool.false_or]; exact h.used b' x hx
/-- One draw more. -/
theorem SR.drew (h : SR E ι imm st a w) : SR E ι imm st a w.drew := by
  have g : Grows ι ι imm imm w w.drew := ⟨fun _ _ h => h, ⟨fun _ h => h, fun _ _ => rfl⟩, fun _ c _ f h => ⟨c, f, h, rfl⟩⟩
  have := h.turn (H := st.H) (U := st.U) g rfl rfl rfl (Nat.le_succ _) (Nat.le_refl _) (fun _ _ _ => rfl) ⟨fun b k hk => by
    obtain ⟨r, z, q1, q2, q3, q4⟩ := h.heap.blk b k hk
    exact ⟨r, z, q1, q2, q3, q4.grows g rfl⟩, h.heap.inj⟩ h.used (fun _ hk => .inl hk) h.immlt
  exact this
theorem SR.iterB (h : SR E ι imm st a w) {i b since : Nat} {seen : List Nat} {c0 : Nat} (hi : st.H i = some (.iter b since seen c0)) {r z : Nat} (hr : ι i = some (r, z)) : z = 0 ∧ ∃ m, ι b = some (m, 0) ∧ w.heap[r]? = some (Obj.mapIter (some m) since (List.toArray seen) c0) := by
  obtain ⟨r', z', q1, _, _, m, q2, q3, q4⟩ := h.heap.blk i _ hi
  rw [hr] at q1
  simp only [Option.some.injEq, Prod.mk.injEq] at q1
  obtain ⟨rfl, rfl⟩ := q1
  exact ⟨q2, m, q3, q4⟩
theorem SR.mapXB (h : SR E ι imm st a w) {b : Nat} {X : List ((κ × β) × Nat)} {q : Nat} (hb : st.H b = some (mapX KE ve X q)) {m z : Nat} (hm : ι b = some (m, z)) : z = 0 ∧ ∃ c, w.heap[m]? = some (Obj.map c q) ∧ EntsH ι imm w ((X.map (·.1)).map fun e => (KE.enc e.1, ve e.2)) c.toList ∧ c.toList.map (·.born) = X.map (·.2) ∧ mOnce KE (X.map (·.1)) ∧ BornOk c.toList q := by
  obtain ⟨r', z', q1, _, _, c, q2, q3, q4, q5, q6, q7⟩ := h.heap.blk b _ hb
  rw [hm] at q1
  simp only [Option.some.injEq, Prod.mk.injEq] at q1
  obtain ⟨rfl, rfl⟩ := q1
  rw [dropB_mapX] at q4 q6
  refine ⟨q2, c, q3, q4, ?_, keysOk_map.1 q6, q7⟩
  rw [q5]; simp
theorem EntsH.length {es : List (AV × AV)} {l : List MapEntry} (h : EntsH ι imm w es l) : l.length = es.length := by
  induction es generalizing l with
  | nil => simp only [EntsH] at h; rw [h]; rfl
  | cons x xs ih => obtain ⟨e, us, rfl, _, _, h⟩ := h; simp [ih h]
/-- An entry of a map told whole. -/
theorem EntsH.at {X : List ((κ × β) × Nat)} {l : List MapEntry} (h : EntsH ι imm w ((X.map (·.1)).map fun e => (KE.enc e.1, ve e.2)) l) (hb : l.map (·.born) = X.map (·.2)) {x : MapEntry} (hx : x ∈ l) : ∃ e ∈ X, x.born = e.2 ∧ VH ι imm w (KE.enc e.1.1) x.key ∧ VH ι imm w (ve e.1.2) x.val := by
  induction X generalizing l with
  | nil => simp only [List.map_nil, EntsH] at h; subst h; cases hx
  | cons y X ih =>
    obtain ⟨e, us, rfl, h1, h2, h3⟩ := h
    simp only [List.map_cons, List.cons.injEq] at hb
    rcases List.mem_cons.1 hx with rfl | hx
    · exact ⟨y, List.mem_cons_self .., hb.1, h1, h2⟩
    · obtain ⟨e', q1, q2⟩ := ih h3 hb.2 hx
      exact ⟨e', List.mem_cons_of_mem _ q1, q2⟩
end worlds
section tell
variable {E : Env} {κ β : Type} {KE : KEnc κ} {VE : VEnc β} {st : St} {Q : Exit → St → Prop}
theorem zip_fst {α γ : Type} : ∀ {l : List α} {m : List γ}, l.length = m.length → (l.zip m).map (·.1) = l
  | [], [], _ => rfl
  | x :: l, y :: m, h => by simp only [List.zip_cons_cons, List.map_cons, List.length_cons, Nat.add_right_cancel_iff] at h ⊢; rw [zip_fst h]
  | [], _ :: _, h => by cases h
  | _ :: _, [], h => by cases h
theorem zip_snd {α γ : Type} : ∀ {l : List α} {m : List γ}, l.length = m.length → (l.zip m).map (·.2) = m
  | [], [], _ => rfl
  | x :: l, y :: m, h => by simp only [List.zip_cons_cons, List.map_cons, List.length_cons, Nat.add_right_cancel_iff] at h ⊢; rw [zip_snd h]
  | [], _ :: _, h => by cases h
  | _ :: _, [], h => by cases h
theorem St.after_none (st : St) (δ : Delta) : st.after none δ = ⟨st.S, δ.H st.H, δ.U st.U⟩ := rfl
theorem Awp.openMap {c : Code} {b : Nat} {D : List (κ × β)} (hb : st.H b = some (mapE KE VE.enc D))
    (h : ∀ (X : List ((κ × β) × Nat)) (q : Nat), D.Perm (X.map (·.1)) → mOnce KE (X.map (·.1)) → (X.map (·.2)).Nodup → (∀ e ∈ X, e.2 < q) → Awp E c (st.after none { v := .undef, wr := [(b, some (mapX KE VE.enc X q))] }) Q) : Awp E c st Q := by
  intro a w hat
  obtain ⟨ι, imm, hs⟩ := hat
  obtain ⟨r, z, hi, _⟩ := hs.heap.blk b _ hb
  obtain ⟨rfl, c1, q, D', h1, h2, h3, h4, h5, _, _⟩ := hs.map hb hi
  have hlen : D'.length = (c1.toList.map (·.born)).length := by
    have := h3.length
    rw [List.length_map] at this
    rw [List.length_map, this]
  have f1 := zip_fst hlen
  have f2 := zip_snd hlen
  refine h (D'.zip (c1.toList.map (·.born))) q (by rw [f1]; exact h2) (by rw [f1]; exact h4) (by rw [f2]; exact h5.nodup) (fun e he => ?_) a w ⟨ι, imm, ?_⟩
  · have : e.2 ∈ (D'.zip (c1.toList.map (·.born))).map (·.2) := List.mem_map.2 ⟨e, he, rfl⟩
    rw [f2] at this
    obtain ⟨x, hx, e2⟩ := List.mem_map.1 this
    rw [← e2]; exact h5.lt x hx
  · rw [St.after_none]
    obtain ⟨r', z', q1, q2, q3, _⟩ := hs.heap.blk b _ hb
    refine hs.retell' hb (fun r1 z1 hι => ?_) .undef
    rw [hi] at hι
    simp only [Option.some.injEq, Prod.mk.injEq] at hι
    obtain ⟨rfl, rfl⟩ := hι
    refine ⟨c1, rfl, h1, ?_, ?_, ?_, h5⟩
    · rw [dropB_mapX, f1]; exact h3
    · rw [show ((D'.zip (c1.toList.map (·.born))).map fun e => (KE.enc e.1.1, VE.enc e.1.2, e.2)).map (·.2.2) = (D'.zip (c1.toList.map (·.born))).map (·.2) by simp, f2]
    · rw [dropB_mapX, f1]; exact keysOk_map.2 h4
theorem Awp.closeMap {c : Code} {b : Nat} {X : List ((κ × β) × Nat)} {q : Nat} (hb : st.H b = some (mapX KE VE.enc X q)) (D : List (κ × β)) (hD : D.Perm (X.map (·.1)))
    (h : Awp E c (st.after none { v := .undef, wr := [(b, some (mapE KE VE.enc D))] }) Q) : Awp E c st Q := by
  intro a w hat
  obtain ⟨ι, imm, hs⟩ := hat
  obtain ⟨r, z, hi, _⟩ := hs.heap.blk b _ hb
  obtain ⟨rfl, c1, h1, h2, h3, h4, h5⟩ := hs.mapXB hb hi
  refine h a w ⟨ι, imm, ?_⟩
  rw [St.after_none]
  refine hs.retell' hb (fun r1 z1 hι => ?_) .undef
  rw [hi] at hι
  simp only [Option.some.injEq, Prod.mk.injEq] at hι
  obtain ⟨rfl, rfl⟩ := hι
  obtain ⟨l', p1, p2⟩ := EntsH.perm' ((hD.map (fun e => (KE.enc e.1, VE.enc e.2))).symm) h2
  exact ⟨c1, q, l', rfl, h1, p1.symm, p2, keysOk_map.2 (h4.perm hD.symm), ⟨(p1.map _).nodup_iff.1 h5.nodup, fun e he => h5.lt e (p1.mem_iff.2 he)⟩⟩
end tell
end Go.Am
namespace Go.Am
section plain
variable {κ β : Type} (KE : KEnc κ)
def xDel (k : κ) : List ((κ × β) × Nat) → List ((κ × β) × Nat)
  | [] => []
  | e :: X => if KE.eq k e.1.1 then X else e :: xDel k X
def xGet (k : κ) : List ((κ × β) × Nat) → Option (β × Nat)
  | [] => none
  | e :: X => if KE.eq k e.1.1 then some (e.1.2, e.2) else xGet k X
theorem xDel_map (k : κ) : ∀ (X : List ((κ × β) × Nat)), (xDel KE k X).map (·.1) = mDel KE k (X.map (·.1))
  | [] => rfl
  | e :: X => by
    simp only [xDel, mDel, List.map_cons]
    split
    · rfl
    · rw [List.map_cons, xDel_map k X]
end plain
theorem map_erase {α γ : Type} (f : α → γ) : ∀ (l : List α) (i : Nat), (l.eraseIdx i).map f = (l.map f).eraseIdx i
  | [], _ => rfl
  | _ :: _, 0 => rfl
  | x :: l, i + 1 => by simp only [List.eraseIdx_cons_succ, List.map_cons, map_erase f l i]
section worlds
variable {E : Env} {κ β : Type} {KE : KEnc κ} {ve : β → AV} {ι : Nat → Option (Nat × Nat)} {imm : Nat → Prop} {st : St} {a : Act} {w : World}
theorem EntsH.of {X : List ((κ × β) × Nat)} {l : List MapEntry} (h : EntsH ι imm w ((X.map (·.1)).map fun e => (KE.enc e.1, ve e.2)) l) (hb : l.map (·.born) = X.map (·.2)) {e : (κ × β) × Nat} (he : e ∈ X) : ∃ x ∈ l, x.born = e.2 ∧ VH ι imm w (KE.enc e.1.1) x.key ∧ VH ι imm w (ve e.1.2) x.val := by
  induction X generalizing l with
  | nil => cases he
  | cons y X ih =>
    obtain ⟨x, us, rfl, h1, h2, h3⟩ := h
    simp only [List.map_cons, List.cons.injEq] at hb
    rcases List.mem_cons.1 he with rfl | he
    · exact ⟨x, List.mem_cons_self .., hb.1, h1, h2⟩
    · obtain ⟨x', q1, q2⟩ := ih h3 hb.2 he
      exact ⟨x', List.mem_cons_of_mem _ q1, q2⟩
/-- What was found in a map told whole. -/
theorem lookL_at {k : κ} : ∀ {X : List ((κ × β) × Nat)} {l : List MapEntry} {i j : Nat} {x : Value}, l.map (·.born) = X.map (·.2) → lookL KE k (X.map (·.1)) l i = some (j, x) →
    ∃ m e y, j = i + m ∧ X[m]? = some e ∧ l[m]? = some y ∧ y.born = e.2 ∧ KE.eq k e.1.1 = true ∧ xDel KE k X = X.eraseIdx m ∧ xGet KE k X = some (e.1.2, e.2)
  | [], _, _, _, _, _, h => by simp [lookL] at h
  | x0 :: X, [], _, _, _, hb, _ => by simp at hb
  | x0 :: X, y :: l, i, j, x, hb, h => by
    simp only [List.map_cons, List.cons.injEq] at hb
    simp only [List.map_cons, lookL] at h
    split at h
    · rename_i hq
      simp only [Option.some.injEq, Prod.mk.injEq] at h
      obtain ⟨rfl, rfl⟩ := h
      exact ⟨0, x0, y, rfl, rfl, rfl, hb.1, hq, by simp only [xDel, hq, if_true]; rfl, by simp only [xGet, hq, if_true]⟩
    · rename_i hq
      obtain ⟨m, e, y', q1, q2, q3, q4, q5, q6, q7⟩ := lookL_at hb.2 h
      exact ⟨m + 1, e, y', by omega, by simpa using q2, by simpa using q3, q4, q5, by simp only [xDel, hq, q6]; rfl, by simp only [xGet, hq]; exact q7⟩
theorem lookL_not {k : κ} : ∀ {X : List ((κ × β) × Nat)} {l : List MapEntry} {i : Nat}, l.map (·.born) = X.map (·.2) → lookL KE k (X.map (·.1)) l i = none → xDel KE k X = X ∧ xGet KE k X = none ∧ ∀ e ∈ X, KE.eq k e.1.1 = false
  | [], _, _, _, _ => ⟨rfl, rfl, fun _ h => by cases h⟩
  | x0 :: X, [], _, hb, _ => by simp at hb
  | x0 :: X, y :: l, i, hb, h => by
    simp only [List.map_cons, List.cons.injEq] at hb
    simp only [List.map_cons, lookL] at h
    split at h
    · cases h
    · rename_i hq
      obtain ⟨a, b, c⟩ := lookL_not hb.2 h
      refine ⟨by simp only [xDel, hq, a]; rfl, by simp only [xGet, hq]; exact b, fun e he => ?_⟩
      rcases List.mem_cons.1 he with rfl | he
      · simpa using hq
      · exact c e he
/-- A map told whole is told by its entries. -/
theorem mapX_blk {X : List ((κ × β) × Nat)} {q r : Nat} {c : Array MapEntry} {w : World} (h1 : w.heap[r]? = some (Obj.map c q)) (h2 : EntsH ι imm w ((X.map (·.1)).map fun e => (KE.enc e.1, ve e.2)) c.toList) (h3 : c.toList.map (·.born) = X.map (·.2)) (h4 : mOnce KE (X.map (·.1))) (h5 : BornOk c.toList q) : BlkH ι imm w r 0 (mapX KE ve X q) :=
  ⟨c, rfl, h1, by rw [dropB_mapX]; exact h2, by rw [h3]; simp, by rw [dropB_mapX]; exact keysOk_map.2 h4, h5⟩
end worlds
section ops
variable {E : Env} {T : Tab} {κ β : Type} {KE : KEnc κ} {ve : β → AV}
theorem does_rangeX (hT : TabOk E.P T) {o : Oper} {t : TypeId} {x : Operand} (ho : o.op = .range t x) {d : Nat} (hdst : o.dst = some d) (hd : d < E.n) {r : TyRow} (hr : T.lookup t = some r) {kt et : TypeId} (hdesc : r.desc = .map kt et) {b : Nat} {X : List ((κ × β) × Nat)} {q : Nat} :
    Does E o [.mp b] [(b, mapX KE ve X q)] { v := .ptr d 0, new := [(d, .iter b q [] q)] } := by
  refine Does.alloc hdst hd fun ι imm st a w hs hv hh => ?_
  rw [ho] at hv
  simp only [Op.operands, List.map_cons, List.map_nil] at hv
  have hv1 := hv.one
  simp only [VH] at hv1
  obtain ⟨m, z, hi, he⟩ := hv1
  obtain ⟨rfl, c, h1, _⟩ := hs.mapXB (hh _ (List.mem_cons_self ..)) hi
  have hu : E.P.underlying t = some (.map kt et) := by rw [(hT t r hr).1, hdesc]
  refine ⟨.mapIter (some m) q #[] q, .pointer (some ⟨w.heap.size, 0, none⟩), ?_, ⟨m, hi, rfl⟩, fun ι' h => ⟨_, _, h, rfl⟩⟩
  simp only [execOp, ho, he, run_bind', Go.run_range_map w t kt et m c q hu h1, run_pure']
  rfl
theorem does_entryX {o : Oper} {x : Operand} (ho : o.op = .entry x) (hd : ∀ d, o.dst = some d → d < E.n) {i b since : Nat} {seen : List Nat} {X : List ((κ × β) × Nat)} {q : Nat} {e : (κ × β) × Nat} (he : e ∈ X) :
    Does E o [.ptr i 0] [(i, .iter b since (seen ++ [e.2]) q), (b, mapX KE ve X q)] { v := .tup [KE.enc e.1.1, ve e.1.2] } := by
  refine Does.value hd fun ι imm st a w hs hv hh => ?_
  rw [ho] at hv
  simp only [Op.operands, List.map_cons, List.map_nil] at hv
  have hv1 := hv.one
  simp only [VH] at hv1
  obtain ⟨r, z, hi, hev⟩ := hv1
  obtain ⟨rfl, m, hm, h1⟩ := hs.iterB (hh _ (List.mem_cons_self ..)) hi
  obtain ⟨_, c, h2, h3, h4, h5, h6⟩ := hs.mapXB (hh _ (List.mem_cons_of_mem _ (List.mem_cons_self ..))) hm
  obtain ⟨y, hy, e1, e2, e3⟩ := h3.of h4 he
  rw [show List.toArray (seen ++ [e.2]) = (List.toArray seen).push y.born by rw [e1]; simp] at h1
  refine ⟨.tuple #[y.key, y.val], ?_, ?_⟩
  · simp only [execOp, ho, hev, Nat.add_zero, run_bind', Go.run_entry_at w r m since (List.toArray seen) c q y h1 h2 hy h6.nodup, run_pure']
  · simp only [VH]
    exact ⟨[y.key, y.val], rfl, _, _, rfl, e2, _, _, rfl, e3, rfl⟩
theorem does_deleteX (hT : TabOk E.P T) {o : Oper} {c : Call} {t t2 : TypeId} (ho : o.op = .call c) (hc : c.callee = .builtin .delete) (hty : c.argTypes = #[t, t2]) (hd : ∀ d, o.dst = some d → d < E.n) {r : TyRow} (hr : T.lookup t = some r) {kt et : TypeId} (hdesc : r.desc = .map kt et)
    (K : KeyOk E.P kt KE) {b : Nat} {X : List ((κ × β) × Nat)} {q : Nat} {k : κ} : Does E o [.mp b, KE.enc k] [(b, mapX KE ve X q)] { v := .tup [], wr := [(b, some (mapX KE ve (xDel KE k X) q))] } := by
  intro ι imm st a w Q hs hv hh _
  have hv := hs.evls hv
  have hops : o.op.operands.toList = c.args.toList := by rw [ho]; simp [Op.operands, Call.operands, hc]
  rw [hops] at hv
  obtain ⟨v1, us, hea, hv1, v2, us2, he2, hv2, hv3⟩ := hv
  subst he2
  simp only [VHs] at hv3
  subst hv3
  have hargs : c.args.map a.eval = #[v1, v2] := by apply Array.ext'; simpa using hea
  simp only [VH] at hv1
  obtain ⟨rr, zz, hi, he⟩ := hv1
  have hb := hh _ (List.mem_cons_self ..)
  obtain ⟨rfl, m, h1, h3, h4, h5, h6⟩ := hs.mapXB hb hi
  have hu : (underlying t).run E.P w = .ok (.map kt et) w := by rw [run_underlying hT hr, hdesc]
  have hf := run_find (ve := ve) K hv2 (X.map (·.1)) m.toList h3
  have hck := K.check m.isEmpty k _ hv2
  have hfin : ∀ c' : Array MapEntry, EntsH ι imm w (((xDel KE k X).map (·.1)).map fun e => (KE.enc e.1, ve e.2)) c'.toList → c'.toList.map (·.born) = (xDel KE k X).map (·.2) → BornOk c'.toList q → (execOp a.eval o).run E.P w = .ok (.value (.tuple #[])) { w with heap := w.heap.setIfInBounds rr (.map c' q) } →
      o.wp E.P a w (fun a' w' => ∃ ι' imm', SR E ι' imm' (st.after o.dst { v := .tup [], wr := [(b, some (mapX KE ve (xDel KE k X) q))] }) a' w') Q := fun c' e1 e2 e3 hrun => by
    unfold Oper.wp
    rw [hrun, Oper.upon_value]
    have := hs.writeObj hb hi h1 (fun _ _ _ e => by cases e) (o' := .map c' q) (k' := mapX KE ve (xDel KE k X) q) (fun g => mapX_blk (Go.MapKept.heap_set h1).1 (e1.grows g) e2 (by rw [xDel_map]; exact mDel_once h5) e3) (.tup [])
    exact ⟨ι, imm, this.put o.dst hd (by simp only [VH]; exact ⟨[], rfl, rfl⟩)⟩
  cases hl : lookL KE k (X.map (·.1)) m.toList 0 with
  | none =>
    rw [hl] at hf
    obtain ⟨q1, _, _⟩ := lookL_not h4 hl
    refine hfin m (by rw [q1]; exact h3) (by rw [q1]; exact h4) h6 ?_
    simp [execOp, ho, resolve, hc, invoke, builtin, hargs, Builtin.delete_, hty, he, hu, Go.MapKept.run_getObj_map h1, hck, hf, Go.MapKept.run_setObj_map _ h1]
  | some p =>
    obtain ⟨j, x⟩ := p
    rw [hl] at hf
    obtain ⟨m', e, y0, hj, q2, q3, _, _, q6, _⟩ := lookL_at h4 hl
    obtain ⟨m2, e', y1, hj2, _, _, _, q5, _, q7⟩ := lookL_some h3 hl
    have hjm : j = m' := by omega
    subst hjm
    have hj2' : m2 = j := by omega
    subst hj2'
    have hjl : m2 < m.size := by
      have := (List.getElem?_eq_some_iff.1 q3).1
      simpa using this
    have hto : (m.eraseIdxIfInBounds m2).toList = m.toList.eraseIdx m2 := by
      unfold Array.eraseIdxIfInBounds
      rw [dif_pos hjl, Array.toList_eraseIdx]
    refine hfin (m.eraseIdxIfInBounds m2) ?_ ?_ ?_ ?_
    · rw [hto, xDel_map]; exact (q7 x y1 q5).2
    · rw [hto, q6, map_erase, map_erase, h4]
    · rw [hto]; exact h6.sub (List.eraseIdx_sublist _ _)
    · simp [execOp, ho, resolve, hc, invoke, builtin, hargs, Builtin.delete_, hty, he, hu, Go.MapKept.run_getObj_map h1, hck, hf, Go.MapKept.run_setObj_map _ h1]
end ops
end Go.Am
namespace Go.Am
section next
variable {E : Env} {T : Tab} {n : Nat} {κ β : Type} {KE : KEnc κ} {ve : β → AV} {st : St} {Q : Exit → St → Prop}
/-- A region that begins with the step to the next entry: nothing is left, or some entry that is left comes out. -/
theorem Awp.next (C : Cx E T n) (cq : Oper → Cls) {id d t : Nat} {ty : TypeId} {pos : String} {af : Array Edge} {rest : List Oper} {i b since : Nat} {seen : List Nat} {c0 : Nat} {X : List ((κ × β) × Nat)} {q : Nat} (hd : decide (d < n) = true)
    (ht : st.S t = some (.ptr i 0)) (hi : st.H i = some (.iter b since seen c0)) (hb : st.H b = some (mapX KE ve X q)) (hold : ∀ e ∈ X, e.2 < since) (hsc : since ≤ c0)
    (h0 : (∀ e ∈ X, e.2 ∈ seen) → rvc E cq n (⟨some d, .next (.tmp t) false, ty, pos, af, none⟩ :: rest).toArray rest (st.after (some d) { v := .tup [.pv (.lit (.bool false))] }) fun st' => Q .normal st')
    (h1 : ∀ e ∈ X, e.2 ∉ seen → rvc E cq n (⟨some d, .next (.tmp t) false, ty, pos, af, none⟩ :: rest).toArray rest (st.after (some d) { v := .tup [.pv (.lit (.bool true)), KE.enc e.1.1, ve e.1.2], wr := [(i, some (.iter b since (seen ++ [e.2]) q))] }) fun st' => Q .normal st') :
    Awp E (.region id (⟨some d, .next (.tmp t) false, ty, pos, af, none⟩ :: rest).toArray false) st Q := by
  intro a w hat
  obtain ⟨ι, imm, hs⟩ := hat
  have hdn : d < E.n := C.n ▸ of_decide_eq_true hd
  have hv := hs.slot t _ ht
  simp only [VH] at hv
  obtain ⟨r, z, hr, hev⟩ := hv
  obtain ⟨rfl, m, hm, g1⟩ := hs.iterB hi hr
  obtain ⟨_, c, g2, g3, g4, g5, g6⟩ := hs.mapXB hb hm
  have hold' : ∀ x ∈ c.toList, x.born < since := fun x hx => by
    obtain ⟨e, he, q1, _⟩ := g3.at g4 hx
    rw [q1]; exact hold e he
  have rest' : ∀ (st' : St) (a' : Act) (w' : World), At E st' a' w' → (rvc E cq n (⟨some d, .next (.tmp t) false, ty, pos, af, none⟩ :: rest).toArray rest st' fun st' => Q .normal st') →
      wpOps E.P (⟨some d, .next (.tmp t) false, ty, pos, af, none⟩ :: rest).toArray (fun e a' w' => ∃ st', Q e st' ∧ At E st' a' w') (List.range' 1 rest.length) a' w' := fun st' a' w' hat' hrv => by
    obtain ⟨sn, h1, h2⟩ := run_of_rvc C.n rest 1 st' _ (fun j => by rw [Nat.add_comm 1 j]; simp) hrv
    exact run_wpOps h1 hat' fun a w h3 => ⟨sn, h2, h3⟩
  refine wp_region ?_
  rw [show (List.range (⟨some d, .next (.tmp t) false, ty, pos, af, none⟩ :: rest : List Oper).toArray.size) = 0 :: List.range' 1 rest.length by rw [List.range_eq_range']; simp [List.range'_succ]]
  rw [wpOps_cons]
  unfold wpOp
  rw [show ((⟨some d, .next (.tmp t) false, ty, pos, af, none⟩ :: rest : List Oper).toArray)[0]? = some ⟨some d, .next (.tmp t) false, ty, pos, af, none⟩ by simp]
  dsimp only
  rw [if_pos (by simp [Region.wanted])]
  left
  unfold Oper.wp
  have hx : (execOp a.eval ⟨some d, .next (.tmp t) false, ty, pos, af, none⟩) = (do let x ← Instr.next (a.eval (.tmp t)) false ty; pure (.value x)) := rfl
  have hev' : a.eval (.tmp t) = .pointer (some ⟨r, 0, none⟩) := hev
  rw [hx, hev']
  rcases Go.run_next_at (P := E.P) w ty r m since c0 (List.toArray seen) c q g1 g2 hold' hsc with ⟨k0, hrun⟩ | ⟨e, he, w1, hal, hrun⟩
  · rw [run_bind', hrun]
    show Oper.upon _ _ _ _ _ (.ok (.value _) w)
    rw [Oper.upon_value]
    refine rest' _ _ _ ⟨ι, imm, ?_⟩ (h0 fun e he => ?_)
    · rw [St.after_skip']
      exact hs.put (some d) (fun x hx => by cases hx; exact hdn) (by simp only [VH]; exact ⟨[.bool false], rfl, _, _, rfl, ⟨rfl, rfl⟩, rfl⟩)
    · obtain ⟨y, hy, q1, _⟩ := g3.of g4 he
      have hall : (c.filter fun e => !(List.toArray seen).contains e.born) = #[] := Array.eq_empty_of_size_eq_zero k0
      rw [Array.filter_eq_empty_iff] at hall
      have := hall y (by simpa using hy)
      rw [← q1]
      simpa using this
  · rw [run_bind', hrun]
    show Oper.upon _ _ _ _ _ (.ok (.value _) _)
    rw [Oper.upon_value]
    have hmem : e ∈ c.toList ∧ e.born ∉ seen := by
      unfold Go.leftOf at he
      simp at he
      exact ⟨by simpa using he.1, he.2⟩
    obtain ⟨x, hxX, q1, q2, q3⟩ := g3.at g4 hmem.1
    have hs1 : SR E ι imm st a w1 := by
      rcases hal with rfl | rfl
      · exact hs
      · exact hs.drew
    have g1' : w1.heap[r]? = some (Obj.mapIter (some m) since (List.toArray seen) c0) := by rcases hal with rfl | rfl <;> exact g1
    have hgr : Grows ι ι imm imm w w1 := by
      rcases hal with rfl | rfl
      · exact .refl _ _ _
      · exact ⟨fun _ _ h => h, ⟨fun _ h => h, fun _ _ => rfl⟩, fun _ c _ f h => ⟨c, f, h, rfl⟩⟩
    have hw := hs1.writeObj hi hr g1' (fun _ _ _ e => by cases e) (o' := .mapIter (some m) since ((List.toArray seen).push e.born) q) (k' := .iter b since (seen ++ [x.2]) q)
      (fun g => ⟨m, rfl, hm, by rw [(Go.MapKept.heap_set g1').1, q1]; simp⟩) (.tup [])
    refine rest' _ _ _ ⟨ι, imm, hw.put (some d) (fun x hx => by cases hx; exact hdn) (v := .tup [.pv (.lit (.bool true)), KE.enc x.1.1, ve x.1.2]) ?_⟩ (h1 x hxX (by rw [← q1]; exact hmem.2))
    have hg2 : Grows ι ι imm imm w1 { w1 with heap := w1.heap.setIfInBounds r (.mapIter (some m) since ((List.toArray seen).push e.born) q) } := by
      obtain ⟨r', z', p1, p2, p3, _⟩ := hs1.heap.blk i _ hi
      rw [hr] at p1
      simp only [Option.some.injEq, Prod.mk.injEq] at p1
      obtain ⟨rfl, rfl⟩ := p1
      have hs2 := (Go.MapKept.heap_set (o' := Obj.mapIter (some m) since ((List.toArray seen).push e.born) q) g1').2
      exact ⟨fun _ _ h => h, ⟨fun _ h => h, fun k hk => hs2 k (fun e => p2 (e ▸ hk))⟩, fun r' c1 e1 f1 hr' => by
        by_cases hrr : r' = r
        · subst hrr; rw [g1'] at hr'; cases hr'
        · exact ⟨c1, f1, (hs2 r' hrr).trans hr', rfl⟩⟩
    simp only [VH]
    exact ⟨[.bool true, e.key, e.val], rfl, _, _, rfl, ⟨rfl, rfl⟩, _, _, rfl, VH.grows (hgr.trans hg2) _ _ q2, _, _, rfl, VH.grows (hgr.trans hg2) _ _ q3, rfl⟩
end next
end Go.Am
namespace Go.Am
section plain
variable {κ β : Type} (KE : KEnc κ)
variable {KE}
end plain
section ops
variable {E : Env} {T : Tab} {κ β : Type} {KE : KEnc κ} {ve : β → AV}
theorem mOnce_iff {X : List ((κ × β) × Nat)} : mOnce KE (X.map (·.1)) ↔ (X.map fun e => KE.enc e.1.1).Nodup := by
  unfold mOnce; rw [List.map_map]; rfl
end ops
end Go.Am
namespace Go.Am
section steps
variable {E : Env} {T : Tab} {cq : Oper → Cls} {n : Nat} {ops : Array Oper} {κ β : Type} {KE : KEnc κ} {VE : VEnc β} {P : Program}
theorem mapX_within (X : List ((κ × β) × Nat)) (q : Nat) (U : Nat → Bool) : (mapX KE VE.enc X q).within U = true := by
  simp only [mapX, Blk.within, dropB_mapX, List.all_map, List.all_eq_true, Function.comp_apply, Bool.and_eq_true]
  exact fun e _ => ⟨rigid_within U _ (KE.rig _), VE.pure _ _⟩
theorem refs_ptr (i o : Nat) (vs : List AV) (hs : List (Nat × Blk)) : refs (.ptr i o :: vs) hs i = true := by
  simp [refs, AV.withinL, AV.within]
theorem refs_iter (vs : List AV) (i b s : Nat) (l : List Nat) (c : Nat) (hs : List (Nat × Blk)) : refs vs ((i, .iter b s l c) :: hs) b = true := by
  simp [refs, Blk.within]
theorem rexec_rangeX (C : Cx E T n) {d : Nat} {t ty : TypeId} {x : Operand} {pos : String} {af : Array Edge} {g : Option (Nat × Bool)} {st : St} {K : St → Prop} (h1 : dstB n ⟨some d, .range t x, ty, pos, af, g⟩ = true) (hU : st.U d = false) {b : Nat} {X : List ((κ × β) × Nat)} {q : Nat}
    (hx : evl st.S x = some (.mp b)) (hb : st.H b = some (mapX KE VE.enc X q)) {r : TyRow} (hr : T.lookup t = some r) {kt et : TypeId} (hdesc : r.desc = .map kt et) (h7 : K (st.after (some d) { v := .ptr d 0, new := [(d, .iter b q [] q)] }))
    (hp : clsOf cq ⟨some d, .range t x, ty, pos, af, g⟩ ≠ .pure := by decide) (hft : footB (clsOf cq ⟨some d, .range t x, ty, pos, af, g⟩) [(b, mapX KE VE.enc X q)] { v := .ptr d 0, new := [(d, .iter b q [] q)] } = true := by rfl) : rexec E cq n ⟨some d, .range t x, ty, pos, af, g⟩ st K := by
  refine ⟨h1, [.mp b], [(b, mapX KE VE.enc X q)], _, { vals := ?_, deps := ?_, fresh := ?_, does := does_rangeX C.tab rfl rfl (dst_lt C h1 d rfl) hr hdesc, reach := ?_, inV := ?_, inN := ?_, inW := fun _ h => (by cases h), wr := fun _ h => (by cases h), pure := fun h => absurd h hp, quiet := fun _ => rfl, foot := hft }, h7⟩
  · show evls st.S [x] = _
    simp only [evls, hx]
  · intro y hy; simp only [List.mem_singleton] at hy; subst hy; exact hb
  · intro y hy; simp only [List.mem_singleton] at hy; subst hy; exact hU
  · simp only [reachB, refs_mp, Bool.and_self]
  · simp [AV.within]
  · intro y hy; simp only [List.mem_singleton] at hy; subst hy
    simp only [Blk.within, refs_mp, Bool.or_true]
theorem rexec_entryX (C : Cx E T n) {d : Option Nat} {ty : TypeId} {x : Operand} {pos : String} {af : Array Edge} {g : Option (Nat × Bool)} {st : St} {K : St → Prop} (h1 : dstB n ⟨d, .entry x, ty, pos, af, g⟩ = true) {i b since : Nat} {seen : List Nat} {X : List ((κ × β) × Nat)} {q : Nat} (e : (κ × β) × Nat) (he : e ∈ X)
    (hx : evl st.S x = some (.ptr i 0)) (hi : st.H i = some (.iter b since (seen ++ [e.2]) q)) (hb : st.H b = some (mapX KE VE.enc X q)) (h7 : K (st.after d { v := .tup [KE.enc e.1.1, VE.enc e.1.2] }))
    (hp : clsOf cq ⟨d, .entry x, ty, pos, af, g⟩ ≠ .pure := by decide) (hft : footB (clsOf cq ⟨d, .entry x, ty, pos, af, g⟩) [(i, .iter b since (seen ++ [e.2]) q), (b, mapX KE VE.enc X q)] { v := .tup [KE.enc e.1.1, VE.enc e.1.2] } = true := by rfl) : rexec E cq n ⟨d, .entry x, ty, pos, af, g⟩ st K := by
  refine ⟨h1, [.ptr i 0], [(i, .iter b since (seen ++ [e.2]) q), (b, mapX KE VE.enc X q)], _, { vals := ?_, deps := ?_, fresh := fun _ h => (by cases h), does := does_entryX rfl (dst_lt C h1) he, reach := ?_, inV := ?_, inN := fun _ h => (by cases h), inW := fun _ h => (by cases h), wr := fun _ h => (by cases h), pure := fun h => absurd h hp, quiet := fun _ => rfl, foot := hft }, h7⟩
  · show evls st.S [x] = _
    simp only [evls, hx]
  · intro y hy
    rcases List.mem_cons.1 hy with rfl | hy
    · exact hi
    · simp only [List.mem_singleton] at hy; subst hy; exact hb
  · simp only [reachB, refs_ptr, refs_iter, Bool.and_self]
  · simp only [AV.within, AV.withinL, rigid_within _ _ (KE.rig _), VE.pure, Bool.and_self]
theorem rexec_deleteX (hP : E.P = P) (C : Cx E T n) {d : Option Nat} {c : Call} {t t2 ty : TypeId} {pos : String} {af : Array Edge} {g : Option (Nat × Bool)} {st : St} {K : St → Prop} (h1 : dstB n ⟨d, .call c, ty, pos, af, g⟩ = true) (hc : c.callee = .builtin .delete) (hty : c.argTypes = #[t, t2]) {b : Nat} {X : List ((κ × β) × Nat)} {q : Nat} (k : κ)
    (hx : evls st.S c.args.toList = some [.mp b, KE.enc k]) (hb : st.H b = some (mapX KE VE.enc X q)) {r : TyRow} (hr : T.lookup t = some r) {kt et : TypeId} (hdesc : r.desc = .map kt et) (KO : KeyOk P kt KE)
    (h7 : K (st.after d { v := .tup [], wr := [(b, some (mapX KE VE.enc (xDel KE k X) q))] }))
    (hp : clsOf cq ⟨d, .call c, ty, pos, af, g⟩ ≠ .pure := by decide) (hq : clsOf cq ⟨d, .call c, ty, pos, af, g⟩ ≠ .quiet := by decide) (hft : footB (clsOf cq ⟨d, .call c, ty, pos, af, g⟩) [(b, mapX KE VE.enc X q)] { v := .tup [], wr := [(b, some (mapX KE VE.enc (xDel KE k X) q))] } = true := by rfl) : rexec E cq n ⟨d, .call c, ty, pos, af, g⟩ st K := by
  subst hP
  refine ⟨h1, [.mp b, KE.enc k], [(b, mapX KE VE.enc X q)], _, { vals := ?_, deps := ?_, fresh := fun _ h => (by cases h), does := does_deleteX C.tab rfl hc hty (dst_lt C h1) hr hdesc KO, reach := ?_, inV := rfl, inN := fun _ h => (by cases h), inW := ?_, wr := ?_, pure := fun h => absurd h hp, quiet := fun h => absurd h hq, foot := hft }, h7⟩
  · show evls st.S (Op.operands (.call c)).toList = _
    have : (Op.operands (.call c)).toList = c.args.toList := by simp [Op.operands, Call.operands, hc]
    rw [this]; exact hx
  · intro q hq; simp only [List.mem_singleton] at hq; subst hq; exact hb
  · simp only [reachB, refs_mp, Bool.and_self]
  · intro q hq k' hk'
    simp only [List.mem_singleton] at hq
    subst hq
    obtain rfl := Option.some.inj hk'
    exact mapX_within _ _ _
  · intro q hq
    simp only [List.mem_singleton] at hq
    subst hq
    simp [refs_mp]
end steps
end Go.Am
namespace Go.Am
section worlds
variable {E : Env} {ι : Nat → Option (Nat × Nat)} {imm : Nat → Prop} {st : St} {a : Act} {w : World}
/-- A row of one's own is one that will not change. -/
theorem SR.freezeB (h : SR E ι imm st a w) {d : Nat} {ps : List PV} (hb : st.H d = some (.cells (ps.map .pv))) : ∃ imm', Grows ι ι imm imm' w w ∧ SR E ι imm' ⟨st.S, fun x => if x = d then none else st.H x, st.U⟩ a w ∧
    ∀ m s tt v, VH ι imm w (.sl d 0 m s tt) v → VH ι imm' w (.pv (.sl (some false) m ps)) v := by
  obtain ⟨r, z, q1, q2, q3, c, e, f, q4, q5, q6, q7⟩ := h.heap.blk d _ hb
  have hlt : r < w.heap.size := by
    rcases Nat.lt_or_ge r w.heap.size with h' | h'
    · exact h'
    · rw [Array.getElem?_eq_none h'] at q4; cases q4
  let imm' : Nat → Prop := fun k => imm k ∨ k = r
  have g : Grows ι ι imm imm' w w := ⟨fun _ _ h => h, ⟨fun _ hk => .inl hk, fun _ _ => rfl⟩, fun r c e f hr => ⟨c, f, hr, rfl⟩⟩
  have hH : ∀ x k, (if x = d then none else st.H x) = some k → x ≠ d ∧ st.H x = some k := fun x k hx => by
    split at hx
    · cases hx
    · rename_i hne; exact ⟨hne, hx⟩
  refine ⟨imm', g, ⟨h.defers, h.size, fun t v hv => VH.grows g v _ (h.slot t v hv), ⟨fun x k hx => ?_, fun x x' k k' r z z' hx hx' => h.heap.inj x x' k k' r z z' (hH x k hx).2 (hH x' k' hx').2⟩, h.used, h.grow.trans g, h.ext, fun k hk => ?_, fun k hk => ?_⟩, fun m s tt v hv => ?_⟩
  · obtain ⟨hne, hx⟩ := hH x k hx
    obtain ⟨r', z', p1, p2, p3, p4⟩ := h.heap.blk x k hx
    refine ⟨r', z', p1, fun hi => hi.elim p2 fun e => ?_, p3, p4.grows g rfl⟩
    subst e
    exact hne (h.heap.inj x d k _ r' z' z hx hb p1 q1)
  · rcases hk with hk | rfl
    · exact h.immM k hk
    · exact .inr q3
  · rcases hk with hk | rfl
    · exact h.immlt k hk
    · exact hlt
  · simp only [VH] at hv
    obtain ⟨r', z', cap, i1, i2, i3, _⟩ := hv
    rw [q1] at i1
    simp only [Option.some.injEq, Prod.mk.injEq] at i1
    obtain ⟨rfl, rfl⟩ := i1
    rw [i2]
    simp only [VH, PH]
    refine ⟨_, cap, rfl, i3, fun h => (by simp at h), fun _ h => (by simp at h), fun h => (by simp at h), fun A hA _ => ?_⟩
    simp only [Option.some.injEq] at hA
    subst hA
    exact ⟨rfl, .inr rfl, PHs.of_cells (i := imm) (ι := ι) (w := w) ⟨fun _ hk => .inl hk, fun _ _ => rfl⟩ (fun o => cell_of_heap q4 o) q7⟩
end worlds
section ops
variable {E : Env} {T : Tab} {κ β : Type} {KE : KEnc κ} {ve : β → AV}
theorem does_mapUpdateO (hT : TabOk E.P T) {o : Oper} {t : TypeId} {x y z : Operand} (ho : o.op = .mapUpdate t x y z) (hdst : o.dst = none) {r : TyRow} (hr : T.lookup t = some r) {kt et : TypeId} (hdesc : r.desc = .map kt et)
    (K : KeyOk E.P kt KE) {b d : Nat} (hne : b ≠ d) {D : List (κ × β)} {k : κ} {u : β} {m s : Nat} {tt : Bool} {ps : List PV} (hu : ve u = .pv (.sl (some false) m ps)) :
    Does E o [.mp b, KE.enc k, .sl d 0 m s tt] [(b, mapE KE ve D), (d, .cells (ps.map .pv))] { v := .undef, wr := [(b, some (mapE KE ve (mSet KE k u D))), (d, none)] } := by
  intro ι imm0 st a w Q hs0 hv hh _
  have hv := hs0.evls hv
  rw [ho] at hv
  simp only [Op.operands, List.map_cons, List.map_nil] at hv
  obtain ⟨hv1, hv2, hv3⟩ := hv.three
  have hbd := hh _ (List.mem_cons_of_mem _ (List.mem_cons_self ..))
  have hb0 := hh _ (List.mem_cons_self ..)
  obtain ⟨imm, g, hs, hf3⟩ := hs0.freezeB hbd
  have hv3 := hf3 _ _ _ _ hv3
  rw [← hu] at hv3
  have hv2 := VH.grows g _ _ hv2
  simp only [VH] at hv1
  obtain ⟨rr, zz, hi, he⟩ := hv1
  have hb : (⟨st.S, fun x => if x = d then none else st.H x, st.U⟩ : St).H b = some (mapE KE ve D) := by
    show (if b = d then none else st.H b) = _
    rw [if_neg hne]; exact hb0
  obtain ⟨rfl, c, q, D', h1, h2, h3, h4, h5, _, _⟩ := hs.map hb hi
  have hun : (underlying t).run E.P w = .ok (.map kt et) w := by rw [run_underlying hT hr, hdesc]
  have hf := run_find (ve := ve) K hv2 D' c.toList h3
  have hck := K.check false k _ hv2
  have hfin : ∀ c' q', EntsH ι imm w ((mSet KE k u D').map fun e => (KE.enc e.1, ve e.2)) c'.toList → BornOk c'.toList q' → (execOp a.eval o).run E.P w = .ok .skip { w with heap := w.heap.setIfInBounds rr (.map c' q') } →
      o.wp E.P a w (fun a' w' => ∃ ι' imm', SR E ι' imm' (st.after o.dst { v := .undef, wr := [(b, some (mapE KE ve (mSet KE k u D))), (d, none)] }) a' w') Q := fun c' q' e1 e2 hrun => by
    unfold Oper.wp
    rw [hrun, Oper.upon_skip]
    have := hs.writeMap hb hi (mSet_perm (k := k) (x := u) h2 (h4.perm h2.symm)) e1 (mSet_once (h4.perm h2.symm)) e2 .undef
    have e : (Delta.mk .undef [] [(b, some (mapE KE ve (mSet KE k u D))), (d, none)]).H st.H = (Delta.mk .undef [] [(b, some (mapE KE ve (mSet KE k u D)))]).H (fun x => if x = d then none else st.H x) := by
      funext x
      simp only [Delta.H, List.lookup]
      by_cases h1 : x = b
      · subst h1; simp
      · have h1' : (x == b) = false := by simpa using h1
        rw [h1']
        by_cases h2 : x = d
        · subst h2; simp
        · have h2' : (x == d) = false := by simpa using h2
          simp [h2', h2]
    refine ⟨ι, imm, ?_⟩
    have e2 : st.after o.dst { v := .undef, wr := [(b, some (mapE KE ve (mSet KE k u D))), (d, none)] } = ⟨st.S, (Delta.mk .undef [] [(b, some (mapE KE ve (mSet KE k u D)))]).H (fun x => if x = d then none else st.H x), (Delta.mk .undef [] [(b, some (mapE KE ve (mSet KE k u D)))]).U st.U⟩ := by
      rw [hdst]
      show (⟨st.S, _, _⟩ : St) = _
      rw [e]; rfl
    rw [e2]
    simpa [Act.put, hdst] using this
  cases hl : lookL KE k D' c.toList 0 with
  | none =>
    rw [hl] at hf
    obtain ⟨_, _, q3⟩ := lookL_none h3 hl
    refine hfin (c.push { key := a.eval y, val := a.eval z, born := q }) (q + 1) ?_ ?_ ?_
    · rw [q3, List.map_append, Array.toList_push]
      exact EntsH.append h3 hv2 hv3
    · rw [Array.toList_push]; exact h5.push rfl
    · simp only [execOp, ho, he, Instr.mapUpdate, run_bind', hun, Go.MapKept.run_getObj_map h1, run_pure', hck, hf, Go.MapKept.run_setObj_map _ h1]
  | some p =>
    obtain ⟨j, x⟩ := p
    rw [hl] at hf
    obtain ⟨m', e, y0, hj, q2, _, _, _, q6, q7⟩ := lookL_some h3 hl
    have hjm : j = m' := by omega
    subst hjm
    have hkey := rigid_eq _ (KE.rig k) _ _ q6 hv2
    have hce : c[j]? = some e := by simpa using q2
    have hst : (Instr.keyThatStays (((c[j]?).map (·.key)).getD (a.eval y)) (a.eval y)).run E.P w = .ok (a.eval y) w := by
      rw [hce]
      simp only [Option.map_some, Option.getD_some, hkey, Instr.keyThatStays, rigid_same _ (KE.rig k) _ hv2 10000 (KE.dep k), if_true, run_pure']
    refine hfin (c.modify j fun e => { e with key := a.eval y, val := a.eval z }) q ?_ ?_ ?_
    · rw [Array.toList_modify, modify_congr (g := fun e => { e with val := a.eval z }) q2 (by rw [← hkey])]
      exact (q7 _ _ hv3).1
    · rw [Array.toList_modify]; exact h5.modify fun _ => rfl
    · simp only [execOp, ho, he, Instr.mapUpdate, run_bind', hun, Go.MapKept.run_getObj_map h1, run_pure', hck, hf, hst, Go.MapKept.run_setObj_map _ h1]
end ops
section steps
variable {E : Env} {T : Tab} {cq : Oper → Cls} {n : Nat} {ops : Array Oper} {κ β : Type} {KE : KEnc κ} {VE : VEnc β} {P : Program}
theorem rexec_mapUpdateO (hP : E.P = P) (C : Cx E T n) {t ty : TypeId} {x y z : Operand} {pos : String} {af : Array Edge} {g : Option (Nat × Bool)} {st : St} {K : St → Prop} {b d : Nat} {D : List (κ × β)} (k : κ) (u : β) {α : Type} {en : Enc α} {L : List α} {nn : Nat} {tt : Bool}
    (hx : evl st.S x = some (.mp b)) (hy : evl st.S y = some (KE.enc k)) (hz : evl st.S z = some (.sl d 0 nn en.sz tt)) (hb : st.H b = some (mapE KE VE.enc D)) (hd : st.H d = some (.cells (encC en L))) (hne : (b == d) = false) (hn : nn = L.length) (hu : VE.enc u = sS (some false) en L) {r : TyRow} (hr : T.lookup t = some r) {kt et : TypeId} (hdesc : r.desc = .map kt et) (KO : KeyOk P kt KE)
    (h7 : K (st.after none { v := .undef, wr := [(b, some (mapE KE VE.enc (mSet KE k u D))), (d, none)] }))
    (hp : clsOf cq ⟨none, .mapUpdate t x y z, ty, pos, af, g⟩ ≠ .pure := by decide) (hq : clsOf cq ⟨none, .mapUpdate t x y z, ty, pos, af, g⟩ ≠ .quiet := by decide) (hft : footB (clsOf cq ⟨none, .mapUpdate t x y z, ty, pos, af, g⟩) [(b, mapE KE VE.enc D), (d, .cells (encC en L))] { v := .undef, wr := [(b, some (mapE KE VE.enc (mSet KE k u D))), (d, none)] } = true := by rfl) : rexec E cq n ⟨none, .mapUpdate t x y z, ty, pos, af, g⟩ st K := by
  subst hP
  subst hn
  refine ⟨rfl, [.mp b, KE.enc k, .sl d 0 L.length en.sz tt], [(b, mapE KE VE.enc D), (d, .cells (encC en L))], _, { vals := ?_, deps := ?_, fresh := fun _ h => (by cases h), does := does_mapUpdateO C.tab rfl rfl hr hdesc KO (by simpa using hne) hu, reach := ?_, inV := rfl, inN := fun _ h => (by cases h), inW := ?_, wr := ?_, pure := fun h => absurd h hp, quiet := fun h => absurd h hq, foot := hft }, h7⟩
  · show evls st.S [x, y, z] = _
    simp only [evls, hx, hy, hz]
  · intro q hq
    rcases List.mem_cons.1 hq with rfl | hq
    · exact hb
    · simp only [List.mem_singleton] at hq; subst hq; exact hd
  · simp only [reachB, refs_mp, Bool.true_and, Bool.and_true]
    simp [refs, AV.withinL, AV.within]
  · intro q hq k' hk'
    rcases List.mem_cons.1 hq with rfl | hq
    · obtain rfl := Option.some.inj hk'
      exact mapE_within _ _
    · simp only [List.mem_singleton] at hq
      subst hq
      cases hk'
  · intro q hq
    rcases List.mem_cons.1 hq with rfl | hq
    · simp [refs_mp]
    · simp only [List.mem_singleton] at hq
      subst hq
      simp [refs, AV.withinL, AV.within]
end steps
end Go.Am
namespace Go.Am
open Go
/-- What a code leaves may be frozen afterwards. -/
theorem Awp.orFreeze {E : Env} {c : Code} {st : St} {Q : Exit → St → Prop} (h : Awp E c st fun e st' => Q e st' ∨ ∃ (b : Nat) (ps : List PV) (S' : List (Nat × AV)) (H' : List (Nat × Blk)), st'.H b = some (.cells (ps.map .pv)) ∧ FrzS st' b ps S' ∧ FrzH st' b ps H' ∧ Q e ⟨fun t => S'.lookup t, fun x => H'.lookup x, st'.U⟩) : Awp E c st Q :=
  fun a w hat => wp_mono (h a w hat) fun _ _ _ ⟨st', hq, hat'⟩ => by
    cases hq with
    | inl hq => exact ⟨st', hq, hat'⟩
    | inr hq =>
      obtain ⟨b, ps, S', H', hb, hS, hH, hq⟩ := hq
      exact ⟨_, hq, hat'.freezeW b ps hb S' H' hS hH⟩
end Go.Am
namespace Go.Am
section ops
variable {E : Env} {T : Tab}
theorem does_slice3C (hT : TabOk E.P T) {o : Oper} {t : TypeId} {x y1 y2 y3 : Operand} (ho : o.op = .slice t x (some y1) (some y2) (some y3)) (hd : ∀ d, o.dst = some d → d < E.n) {r re : TyRow} (hr : T.lookup t = some r) {e : TypeId} (hdesc : r.desc = .slice e) (hre : T.lookup e = some re) {b n c : Nat} {k1 k2 k3 : IntKind} {l h m : Nat} (hl : l ≤ h) (hh : h ≤ m) (hm : m ≤ c) :
    Does E o [.slc b 0 n re.size c, .pv (.lit (.int k1 (l : Int))), .pv (.lit (.int k2 (h : Int))), .pv (.lit (.int k3 (m : Int)))] [] { v := .undef } := by
  refine Does.value hd fun ι imm st a w hsr hv _ => ?_
  rw [ho] at hv
  have hv' : VHs ι imm w [.slc b 0 n re.size c, .pv (.lit (.int k1 (l : Int))), .pv (.lit (.int k2 (h : Int))), .pv (.lit (.int k3 (m : Int)))] [a.eval x, a.eval y1, a.eval y2, a.eval y3] := by simpa [Op.operands] using hv
  obtain ⟨v1, us, he, h1, h2⟩ := hv'
  obtain ⟨v2, us2, he2, h3, h4⟩ := h2
  obtain ⟨v3, us3, he3, h5, h6⟩ := h4
  obtain ⟨v4, us4, he4, h7, h8⟩ := h6
  simp only [VHs] at h8
  subst h8 he4 he3 he2
  simp only [List.cons.injEq, and_true] at he
  obtain ⟨rfl, rfl, rfl, rfl⟩ := he
  simp only [VH] at h1
  obtain ⟨q, z, i1, i2, i3, cc, ee, ff, g1, g2⟩ := h1
  simp only [VH, PH] at h3 h5 h7
  have hrun := run_sliceBounds (P := E.P) (w := w) (isSlice := true) (len := n) (cap := c) (lo := some (.int k1 (l : Int))) (hi := some (.int k2 (h : Int))) (mx := some (.int k3 (m : Int))) (l := l) (h := h) (m := m) (.inr ⟨k1, rfl⟩) (.inr ⟨k2, rfl⟩) (.inr ⟨k3, rfl⟩) (by omega) (by omega) (by omega) (by omega)
  refine ⟨_, by
    simp only [execOp, ho, i2, h3.1, h5.1, h7.1, Option.map_some, Instr.sliceAt, Instr.slice, run_bind', run_pure', run_underlying hT hr, hdesc, hrun, run_sizeOf hT hre]
    rfl, trivial⟩
theorem does_sliceC_from (hT : TabOk E.P T) {o : Oper} {t : TypeId} {x y : Operand} (ho : o.op = .slice t x (some y) none none) (hd : ∀ d, o.dst = some d → d < E.n) {r re : TyRow} (hr : T.lookup t = some r) {e : TypeId} (hdesc : r.desc = .slice e) (hre : T.lookup e = some re) {b n c : Nat} {k : IntKind} {l : Nat} (hl : l < n) :
    Does E o [.slc b 0 n re.size c, .pv (.lit (.int k (l : Int)))] [] { v := .sl b (l * re.size) (n - l) re.size false } := by
  refine Does.value hd fun ι imm st a w hsr hv _ => ?_
  rw [ho] at hv
  have hv' : VHs ι imm w [.slc b 0 n re.size c, .pv (.lit (.int k (l : Int)))] [a.eval x, a.eval y] := by simpa [Op.operands] using hv
  obtain ⟨v1, us, he, h1, h2⟩ := hv'
  obtain ⟨v2, us2, he2, h3, h4⟩ := h2
  simp only [VHs] at h4
  subst h4 he2
  simp only [List.cons.injEq, and_true] at he
  obtain ⟨rfl, rfl⟩ := he
  simp only [VH] at h1
  obtain ⟨q, z, i1, i2, i3, cc, ee, ff, g1, g2⟩ := h1
  simp only [VH, PH] at h3
  have hrun := run_sliceBounds (P := E.P) (w := w) (isSlice := true) (len := n) (cap := c) (lo := some (.int k (l : Int))) (hi := none) (mx := none) (l := l) (h := n) (m := c) (.inr ⟨k, rfl⟩) (.inl ⟨rfl, rfl, rfl⟩) (.inl ⟨rfl, rfl⟩) (by omega) (by omega) (by omega) (Int.le_refl _)
  have hmul : l * re.size + (c - l) * re.size = c * re.size := by rw [← Nat.add_mul]; congr 1; omega
  refine ⟨.slice (some ⟨q, z + l * re.size, none⟩) (n - l) (c - l), ?_, ⟨q, z, c - l, i1, rfl, by omega, fun h => (by cases h), cc, ee, ff, g1, by omega⟩⟩
  simp only [execOp, ho, i2, h3.1, Option.map_none, Option.map_some, Instr.sliceAt, Instr.slice, run_bind', run_pure', run_underlying hT hr, hdesc, hrun, run_sizeOf hT hre]
  simp
  rw [if_neg (by omega), add_none]
theorem does_sliceC_end (hT : TabOk E.P T) {o : Oper} {t : TypeId} {x y : Operand} (ho : o.op = .slice t x (some y) none none) (hd : ∀ d, o.dst = some d → d < E.n) {r re : TyRow} (hr : T.lookup t = some r) {e : TypeId} (hdesc : r.desc = .slice e) (hre : T.lookup e = some re) {b n c : Nat} {k : IntKind} :
    Does E o [.slc b 0 n re.size c, .pv (.lit (.int k (n : Int)))] [] { v := .pv (.sl (some false) 0 []) } := by
  refine Does.value hd fun ι imm st a w hsr hv _ => ?_
  rw [ho] at hv
  have hv' : VHs ι imm w [.slc b 0 n re.size c, .pv (.lit (.int k (n : Int)))] [a.eval x, a.eval y] := by simpa [Op.operands] using hv
  obtain ⟨v1, us, he, h1, h2⟩ := hv'
  obtain ⟨v2, us2, he2, h3, h4⟩ := h2
  simp only [VHs] at h4
  subst h4 he2
  simp only [List.cons.injEq, and_true] at he
  obtain ⟨rfl, rfl⟩ := he
  simp only [VH] at h1
  obtain ⟨q, z, i1, i2, i3, cc, ee, ff, g1, g2⟩ := h1
  simp only [VH, PH] at h3
  have hrun := run_sliceBounds (P := E.P) (w := w) (isSlice := true) (len := n) (cap := c) (lo := some (.int k (n : Int))) (hi := none) (mx := none) (l := n) (h := n) (m := c) (.inr ⟨k, rfl⟩) (.inl ⟨rfl, rfl, rfl⟩) (.inl ⟨rfl, rfl⟩) (by omega) (by omega) (by omega) (Int.le_refl _)
  by_cases hc : c = n
  · refine ⟨.slice (some ⟨q, z, none⟩) 0 (c - n), ?_, ?_⟩
    · simp only [execOp, ho, i2, h3.1, Option.map_none, Option.map_some, Instr.sliceAt, Instr.slice, run_bind', run_pure', run_underlying hT hr, hdesc, hrun, run_sizeOf hT hre]
      simp
      intro h; exact absurd hc h
    · simp only [VH, PH]
      exact ⟨_, _, rfl, by simp, by simp, by simp, by simp, fun _ _ h => absurd rfl h⟩
  · refine ⟨.slice (some ⟨q, z + n * re.size, none⟩) 0 (c - n), ?_, ?_⟩
    · simp only [execOp, ho, i2, h3.1, Option.map_none, Option.map_some, Instr.sliceAt, Instr.slice, run_bind', run_pure', run_underlying hT hr, hdesc, hrun, run_sizeOf hT hre]
      simp
      rw [if_neg hc, add_none]
    · simp only [VH, PH]
      exact ⟨_, _, rfl, by simp, by simp, by simp, by simp, fun _ _ h => absurd rfl h⟩
theorem does_sliceC_mid (hT : TabOk E.P T) {o : Oper} {t : TypeId} {x y y2 : Operand} (ho : o.op = .slice t x (some y) (some y2) none) (hd : ∀ d, o.dst = some d → d < E.n) {r re : TyRow} (hr : T.lookup t = some r) {e : TypeId} (hdesc : r.desc = .slice e) (hre : T.lookup e = some re) {b n c : Nat} {k k2 : IntKind} {l h : Nat} (hl : l < h) (hh : h ≤ c) :
    Does E o [.slc b 0 n re.size c, .pv (.lit (.int k (l : Int))), .pv (.lit (.int k2 (h : Int)))] [] { v := .slc b (l * re.size) (h - l) re.size (c - l) } := by
  refine Does.value hd fun ι imm st a w hsr hv _ => ?_
  rw [ho] at hv
  have hv' : VHs ι imm w [.slc b 0 n re.size c, .pv (.lit (.int k (l : Int))), .pv (.lit (.int k2 (h : Int)))] [a.eval x, a.eval y, a.eval y2] := by simpa [Op.operands] using hv
  obtain ⟨v1, us, he, h1, h2⟩ := hv'
  obtain ⟨v2, us2, he2, h3, h4⟩ := h2
  obtain ⟨v3, us3, he3, h5, h6⟩ := h4
  simp only [VHs] at h6
  subst h6 he3 he2
  simp only [List.cons.injEq, and_true] at he
  obtain ⟨rfl, rfl, rfl⟩ := he
  simp only [VH] at h1
  obtain ⟨q, z, i1, i2, i3, cc, ee, ff, g1, g2⟩ := h1
  simp only [VH, PH] at h3 h5
  have hrun := run_sliceBounds (P := E.P) (w := w) (isSlice := true) (len := n) (cap := c) (lo := some (.int k (l : Int))) (hi := some (.int k2 (h : Int))) (mx := none) (l := l) (h := h) (m := c) (.inr ⟨k, rfl⟩) (.inr ⟨k2, rfl⟩) (.inl ⟨rfl, rfl⟩) (by omega) (by omega) (by omega) (Int.le_refl _)
  have hmul : l * re.size + (c - l) * re.size = c * re.size := by rw [← Nat.add_mul]; congr 1; omega
  refine ⟨.slice (some ⟨q, z + l * re.size, none⟩) (h - l) (c - l), ?_, ⟨q, z, i1, rfl, by omega, cc, ee, ff, g1, by omega⟩⟩
  simp only [execOp, ho, i2, h3.1, h5.1, Option.map_none, Option.map_some, Instr.sliceAt, Instr.slice, run_bind', run_pure', run_underlying hT hr, hdesc, hrun, run_sizeOf hT hre]
  simp
  rw [if_neg (by omega), add_none]
/-- An append to a part of an own row, where there is room for it. -/
theorem does_appendIn (hT : TabOk E.P T) {o : Oper} {c : Call} {t t2 : TypeId} (ho : o.op = .call c) (hc : c.callee = .builtin .append) (hty : c.argTypes = #[t, t2]) (hd : ∀ d, o.dst = some d → d < E.n) {r re r2 : TyRow} (hr : T.lookup t = some r) {e : TypeId} (hdesc : r.desc = .slice e) (hre : T.lookup e = some re) (hr2 : T.lookup t2 = some r2) (hd2 : ∀ k, r2.desc ≠ .int k)
    {b n cap : Nat} {cs : List AV} {y : AV} {H : Nat → Option Blk} {m : Nat} {hd' : List (Nat × Blk)} {ys : List AV} (hsrc : srcAV H re.size y = some (m, hd', ys)) (hlen : ys.length = m * re.size) (hin : n + m ≤ cap) (hfit : (n + m) * re.size ≤ cs.length) (hflat : ys.all flatCell = true) (hnm : n + m ≤ 9223372036854775807) :
    Does E o [.slc b 0 n re.size cap, y] ((b, .cells cs) :: hd') { v := .slc b 0 (n + m) re.size cap, wr := [(b, some (.cells (setRange cs (n * re.size) ys)))] } := by
  intro ι imm st a w Q hs hv hh _
  have hvs := hs.evls hv
  have hops : o.op.operands.toList = c.args.toList := by rw [ho]; simp [Op.operands, Call.operands, hc]
  rw [hops] at hvs
  obtain ⟨v1, us1, he, hv1, hvs⟩ := hvs
  obtain ⟨v2, us2, he2, hv2, hvs⟩ := hvs
  simp only [VHs] at hvs
  subst hvs
  subst he2
  have hargs : c.args.map a.eval = #[v1, v2] := by apply Array.ext'; simpa using he
  simp only [VH] at hv1
  obtain ⟨q, z, hi, rfl, hncap, cS, eS, fS, hS, hSz⟩ := hv1
  have hb := hh _ (List.mem_cons_self ..)
  obtain ⟨cc, ee, f, h1, h2, h3, h4, _⟩ := hs.heap.cells hb hi
  rw [h1] at hS
  simp only [Option.some.injEq, Obj.cells.injEq] at hS
  obtain ⟨rfl, rfl, rfl⟩ := hS
  rw [Nat.add_mul] at hfit
  obtain ⟨vs, g1, g2, g3⟩ := run_src hs hsrc (fun x hx => hh x (List.mem_cons_of_mem _ hx)) hlen hv2
  have hl := g2.length
  have hO : CellsH ι imm w cc (cs.take (n * re.size)) z := h4.take
  have hOl : (cs.take (n * re.size)).length = n * re.size := by rw [List.length_take]; omega
  obtain ⟨vsO, o1, o2⟩ := hO.vals
  have hlO := o1.length
  have hold : ∀ w' : World, (∀ x, w'.cell? x = w.cell? x) → (Builtin.firstCells re.size n (.slice (some ⟨q, z + 0, none⟩) n cap)).run E.P w' = .ok (List.toArray vsO) w' := fun w' hw' => by
    have := run_loadCells (P := E.P) (w := w') (r := q) (o := z) vsO (fun i hi => by rw [hw', cell_of_heap h1, o2 i hi])
    rw [hlO, hOl] at this
    simpa [Builtin.firstCells] using this
  have hnew : ∀ w' : World, (∀ x, w'.cell? x = w.cell? x) → (Builtin.firstCells re.size m v2).run E.P w' = .ok (List.toArray vs) w' := fun w' hw' => by
    have := g3 m (Nat.le_refl _) w' hw'
    rwa [List.take_of_length_le (by rw [hl, hlen]; exact Nat.le_refl _)] at this
  have hsing : ∀ v ∈ vs, single v := VHs.singles _ _ g2 (flatCell_spec hflat)
  obtain ⟨inplace, _⟩ := run_append' hT hr hdesc hre hr2 hd2 (ty := o.type) (t := t) g1 hnew hold (fun h => absurd h (by omega)) hnm
  obtain ⟨s, hrun, rfl⟩ := inplace hin
  obtain ⟨w', h5, h6⟩ := run_storeCells (P := E.P) vs (z + n * re.size) 0 h1 (by rw [hl, hlen]; omega) (fun o _ => h3 o) hsing
  have hput := CellsH.put (k := n * re.size) (c' := putCells cc (z + n * re.size + 0) vs) h4 g2 (by rw [hlen]; omega) (by rw [Nat.add_zero]) h2
  have hsr := hs.write hb hi h1 h6 (putCells_size _ _ _) (by rw [setRange_length (by rw [hlen]; omega)]; exact h2) hput (.slc b 0 (n + m) re.size cap)
  simp only [add_none, Nat.add_zero, run_bind', h5, run_pure'] at hrun
  have hexec : (execOp a.eval o).run E.P w = .ok (.value (.slice (some ⟨q, z + 0, none⟩) (n + m) cap)) w' := by
    simp only [execOp, ho, resolve, hc, run_bind', run_pure', invoke, builtin, hargs, hty, Nat.add_zero, hrun]
  unfold Oper.wp
  rw [hexec, Oper.upon_value]
  refine ⟨ι, imm, hsr.put o.dst hd (show VH ι imm w' (.slc b 0 (n + m) re.size cap) (.slice (some ⟨q, z + 0, none⟩) (n + m) cap) from ⟨q, z, hi, rfl, hin, _, _, _, h6.row, ?_⟩)⟩
  rw [putCells_size]; exact hSz
/-- clear of what lies behind a place of an own row: what lies ahead of it stays. -/
theorem does_clearEnd (hT : TabOk E.P T) {o : Oper} {c : Call} {t : TypeId} (ho : o.op = .call c) (hc : c.callee = .builtin .clear) (hty : c.argTypes = #[t]) (hd : ∀ d, o.dst = some d → d < E.n) {r re : TyRow} (hr : T.lookup t = some r) {e : TypeId} (hdesc : r.desc = .slice e) (hre : T.lookup e = some re)
    {b k n cap : Nat} {cs : List AV} (hfit : k + n * re.size = cs.length) (hzs : re.zero.cells.size = re.size) (hzf : ∀ v ∈ re.zero.cells.toList, single v) (hn : 0 < n) :
    Does E o [.slc b k n re.size cap] [(b, .cells cs)] { v := .tup [], wr := [(b, some (.cells (cs.take k)))] } := by
  intro ι imm st a w Q hs hv hh _
  have hvs := hs.evls hv
  have hops : o.op.operands.toList = c.args.toList := by rw [ho]; simp [Op.operands, Call.operands, hc]
  rw [hops] at hvs
  obtain ⟨v1, us1, he, hv1, hvs⟩ := hvs
  simp only [VHs] at hvs
  subst hvs
  have hargs : c.args.map a.eval = #[v1] := by apply Array.ext'; simpa using he
  simp only [VH] at hv1
  obtain ⟨q, z, hi, rfl, hncap, cS, eS, fS, hS, hSz⟩ := hv1
  have hb := hh _ (List.mem_cons_self ..)
  obtain ⟨cc, ee, f, h1, h2, h3, h4, _⟩ := hs.heap.cells hb hi
  have hzl : (Builtin.zeroCells re.zero.cells n).toList.length = n * re.size := by simp [Builtin.zeroCells, hzs]
  have hsing : ∀ v ∈ (Builtin.zeroCells re.zero.cells n).toList, single v := fun v hv => by
    simp only [Builtin.zeroCells, Array.toList_map, List.mem_map] at hv
    obtain ⟨j, hj, rfl⟩ := hv
    have hlt : j < n * re.zero.cells.size := by simpa using hj
    have hpos : 0 < re.zero.cells.size := Nat.pos_of_ne_zero fun h0 => by rw [h0] at hlt; simp at hlt
    have hm : j % re.zero.cells.size < re.zero.cells.size := Nat.mod_lt _ hpos
    rw [getElem!_pos re.zero.cells _ hm]
    exact hzf _ (Array.mem_toList_iff.2 (Array.getElem_mem hm))
  obtain ⟨w', h5, h6⟩ := run_storeCells (P := E.P) (Builtin.zeroCells re.zero.cells n).toList (z + k) 0 h1 (by rw [hzl]; omega) (fun o _ => h3 o) hsing
  have hexec : (execOp a.eval o).run E.P w = .ok (.value (.tuple #[])) w' := by
    have h7 : (Builtin.clear_ #[t] o.type #[.slice (some ⟨q, z + k, none⟩) n cap]).run E.P w = .ok (.tuple #[]) w' := by
      simp only [Builtin.clear_, List.getElem?_toArray, List.getElem?_cons_zero]
      rw [run_bind', run_underlying hT hr]
      simp only [hdesc]
      obtain ⟨n', rfl⟩ : ∃ n', n = n' + 1 := ⟨n - 1, by omega⟩
      simp only [run_bind', run_zeroValue hT hre, h5, run_pure']
    simp only [execOp, ho, resolve, hc, run_bind', run_pure', invoke, builtin, hargs, hty, h7]
  unfold Oper.wp
  rw [hexec, Oper.upon_value]
  have hund : ∀ us : List Value, VHs ι imm w (List.replicate us.length AV.undef) us := fun us => by
    induction us with
    | nil => rfl
    | cons u us ih => exact ⟨u, us, rfl, trivial, ih⟩
  have hput := CellsH.put (k := k) (c' := putCells cc (z + k + 0) (Builtin.zeroCells re.zero.cells n).toList) h4 (hund _) (by rw [List.length_replicate, hzl]; omega) (by rw [Nat.add_zero]) h2
  have hput2 : CellsH ι imm w (putCells cc (z + k + 0) (Builtin.zeroCells re.zero.cells n).toList) (cs.take k) z := by
    unfold setRange at hput
    rw [List.append_assoc] at hput
    exact hput.left
  have hsr := hs.write hb hi h1 h6 (putCells_size _ _ _) (by rw [List.length_take]; omega) hput2 (.tup [])
  exact ⟨ι, imm, hsr.put o.dst hd (show VH ι imm w' (.tup []) (.tuple #[]) from ⟨[], rfl, rfl⟩)⟩
end ops
section steps
variable {E : Env} {T : Tab} {cq : Oper → Cls} {n : Nat}
theorem rexec_slice3C (C : Cx E T n) {d : Option Nat} {t : TypeId} {x y1 y2 y3 : Operand} {ty : TypeId} {pos : String} {af : Array Edge} {g : Option (Nat × Bool)} {st : St} {K : St → Prop} {b m s c l h q : Nat} {k1 k2 k3 : IntKind} {r re : TyRow} {te : TypeId} (h1 : dstB n ⟨d, .slice t x (some y1) (some y2) (some y3), ty, pos, af, g⟩ = true)
    (h2 : evls st.S [x, y1, y2, y3] = some [.slc b 0 m s c, .pv (.lit (.int k1 (l : Int))), .pv (.lit (.int k2 (h : Int))), .pv (.lit (.int k3 (q : Int)))]) (hr : T.lookup t = some r) (hdesc : r.desc = .slice te) (hre : T.lookup te = some re) (hs : re.size = s) (hl : l ≤ h) (hh : h ≤ q) (hq : q ≤ c) (h7 : K (st.after d { v := .undef })) : rexec E cq n ⟨d, .slice t x (some y1) (some y2) (some y3), ty, pos, af, g⟩ st K := by
  subst hs
  exact rexec_value C h1 rfl h2 (fun hd => does_slice3C C.tab rfl hd hr hdesc hre hl hh hq) (fun _ _ => rfl) h7
theorem rexec_sliceC_from (C : Cx E T n) {d : Option Nat} {t : TypeId} {x y : Operand} {ty : TypeId} {pos : String} {af : Array Edge} {g : Option (Nat × Bool)} {st : St} {K : St → Prop} {b m s c l : Nat} {kk : IntKind} {r re : TyRow} {te : TypeId} (h1 : dstB n ⟨d, .slice t x (some y) none none, ty, pos, af, g⟩ = true)
    (h2 : evls st.S [x, y] = some [.slc b 0 m s c, .pv (.lit (.int kk (l : Int)))]) (hr : T.lookup t = some r) (hdesc : r.desc = .slice te) (hre : T.lookup te = some re) (hs : re.size = s) (hl : l < m) (h7 : K (st.after d { v := .sl b (l * s) (m - l) s false })) : rexec E cq n ⟨d, .slice t x (some y) none none, ty, pos, af, g⟩ st K := by
  subst hs
  exact rexec_value C h1 rfl h2 (fun hd => does_sliceC_from C.tab rfl hd hr hdesc hre hl) (fun U hU => by simp only [AV.withinL, AV.within, Bool.and_eq_true] at hU ⊢; exact hU.1) h7
theorem rexec_sliceC_end (C : Cx E T n) {d : Option Nat} {t : TypeId} {x y : Operand} {ty : TypeId} {pos : String} {af : Array Edge} {g : Option (Nat × Bool)} {st : St} {K : St → Prop} {b m s c l : Nat} {kk : IntKind} {r re : TyRow} {te : TypeId} (h1 : dstB n ⟨d, .slice t x (some y) none none, ty, pos, af, g⟩ = true)
    (h2 : evls st.S [x, y] = some [.slc b 0 m s c, .pv (.lit (.int kk (l : Int)))]) (hr : T.lookup t = some r) (hdesc : r.desc = .slice te) (hre : T.lookup te = some re) (hs : re.size = s) (hl : l = m) (h7 : K (st.after d { v := .pv (.sl (some false) 0 []) })) : rexec E cq n ⟨d, .slice t x (some y) none none, ty, pos, af, g⟩ st K := by
  subst hs hl
  exact rexec_value C h1 rfl h2 (fun hd => does_sliceC_end C.tab rfl hd hr hdesc hre) (fun _ _ => rfl) h7
theorem rexec_sliceC_mid (C : Cx E T n) {d : Option Nat} {t : TypeId} {x y y2 : Operand} {ty : TypeId} {pos : String} {af : Array Edge} {g : Option (Nat × Bool)} {st : St} {K : St → Prop} {b m s c l h : Nat} {k k2 : IntKind} {r re : TyRow} {te : TypeId} (h1 : dstB n ⟨d, .slice t x (some y) (some y2) none, ty, pos, af, g⟩ = true)
    (h2 : evls st.S [x, y, y2] = some [.slc b 0 m s c, .pv (.lit (.int k (l : Int))), .pv (.lit (.int k2 (h : Int)))]) (hr : T.lookup t = some r) (hdesc : r.desc = .slice te) (hre : T.lookup te = some re) (hs : re.size = s) (hl : l < h) (hh : h ≤ c) (h7 : K (st.after d { v := .slc b (l * s) (h - l) s (c - l) })) : rexec E cq n ⟨d, .slice t x (some y) (some y2) none, ty, pos, af, g⟩ st K := by
  subst hs
  exact rexec_value C h1 rfl h2 (fun hd => does_sliceC_mid C.tab rfl hd hr hdesc hre hl hh) (fun U hU => by simp only [AV.withinL, AV.within, Bool.and_eq_true] at hU ⊢; exact hU.1) h7
theorem rexec_appendIn (C : Cx E T n) {d : Option Nat} {c : Call} {t t2 : TypeId} {ty : TypeId} {pos : String} {af : Array Edge} {g : Option (Nat × Bool)} {st : St} {K : St → Prop} (hc : c.callee = .builtin .append) (hty : c.argTypes = #[t, t2]) (h1 : dstB n ⟨d, .call c, ty, pos, af, g⟩ = true) {r re r2 : TyRow} (hr : T.lookup t = some r) {e : TypeId} (hdesc : r.desc = .slice e) (hre : T.lookup e = some re) (hr2 : T.lookup t2 = some r2) (hd2 : ∀ k, r2.desc ≠ .int k)
    {b m cap : Nat} {cs : List AV} {y : AV} {m' : Nat} {hs' : List (Nat × Blk)} {ys : List AV} (cs' : List AV) (hv : evls st.S c.args.toList = some [.slc b 0 m re.size cap, y]) (hb : st.H b = some (.cells cs)) (hsrc : srcAV st.H re.size y = some (m', hs', ys)) (hdeps : ∀ x ∈ hs', st.H x.1 = some x.2) (hlen : ys.length = m' * re.size) (hin : m + m' ≤ cap) (hfit : (m + m') * re.size ≤ cs.length) (hnm : m + m' ≤ 9223372036854775807) (hflat : ys.all flatCell = true) (hyw : ∀ U, (∀ x ∈ hs', Blk.within U x.2 = true) → AV.withinL U ys = true)
    (hcs' : setRange cs (m * re.size) ys = cs')
    (h7 : K (st.after d { v := .slc b 0 (m + m') re.size cap, wr := [(b, some (.cells cs'))] })) (hre' : reachB [.slc b 0 m re.size cap, y] [] ((b, .cells cs) :: hs') = true) (hcl : clsOf cq ⟨d, .call c, ty, pos, af, g⟩ = .writer := by rfl) : rexec E cq n ⟨d, .call c, ty, pos, af, g⟩ st K := by
  subst hcs'
  have hd : ∀ x, d = some x → x < E.n := fun x e => by
    simp only [dstB, e, decide_eq_true_eq] at h1
    exact C.n ▸ h1
  have hdo := does_appendIn C.tab (o := ⟨d, .call c, ty, pos, af, g⟩) rfl hc hty hd hr hdesc hre hr2 hd2 (b := b) (n := m) (cap := cap) (cs := cs) (y := y) (H := st.H) (m := m') (hd' := hs') (ys := ys) hsrc hlen hin hfit hflat hnm
  have hops : (Op.operands (.call c)).toList = c.args.toList := by simp [Op.operands, Call.operands, hc]
  have hself : ∀ x ∈ ((b, Blk.cells cs) :: hs'), x.2.within (fun b' => refs [.slc b 0 m re.size cap, y] ((b, .cells cs) :: hs') b') = true := fun x hx => within_self_blk _ _ x hx
  refine ⟨h1, _, _, _, { vals := ?_, deps := ?_, fresh := ?_, does := hdo, reach := hre', inV := ?_, inN := ?_, inW := ?_, wr := ?_, pure := fun h => ?_, quiet := fun h => ?_, foot := by rw [hcl]; rfl }, h7⟩
  · show evls st.S (Op.operands (.call c)).toList = _
    rw [hops]; exact hv
  · intro x hx
    cases hx with
    | head => exact hb
    | tail _ hm => exact hdeps x hm
  · intro x hx; cases hx
  · simp [refs, AV.withinL, AV.within]
  · intro x hx; cases hx
  · intro x hx k' hk
    simp only [List.mem_singleton] at hx
    subst hx
    simp only [Option.some.injEq] at hk
    subst hk
    simp only [Blk.within]
    refine within_setRange ?_ ?_
    · refine AV.withinL_mono (U := fun b' => refs [.slc b 0 m re.size cap, y] ((b, .cells cs) :: hs') b') (fun b hb => by simp [hb]) cs ?_
      exact hself (b, .cells cs) (List.mem_cons_self ..)
    · refine AV.withinL_mono (U := fun b' => refs [.slc b 0 m re.size cap, y] ((b, .cells cs) :: hs') b') (fun b hb => by simp [hb]) ys ?_
      exact hyw _ fun x hx => hself x (List.mem_cons_of_mem _ hx)
  · intro x hx
    simp only [List.mem_singleton] at hx
    subst hx
    simp [refs, AV.withinL, AV.within]
  · rw [hcl] at h; cases h
  · rw [hcl] at h; cases h
theorem rexec_clearEnd (C : Cx E T n) {d : Option Nat} {c : Call} {t : TypeId} {ty : TypeId} {pos : String} {af : Array Edge} {g : Option (Nat × Bool)} {st : St} {K : St → Prop} (hc : c.callee = .builtin .clear) (hty : c.argTypes = #[t]) (h1 : dstB n ⟨d, .call c, ty, pos, af, g⟩ = true) {r re : TyRow} (hr : T.lookup t = some r) {e : TypeId} (hdesc : r.desc = .slice e) (hre : T.lookup e = some re)
    {b k m cap : Nat} {cs : List AV} (cs' : List AV) (hv : evls st.S c.args.toList = some [.slc b k m re.size cap]) (hb : st.H b = some (.cells cs)) (hfit : k + m * re.size = cs.length) (hzs : re.zero.cells.size = re.size) (hzf : ∀ v ∈ re.zero.cells.toList, single v) (hn : 0 < m)
    (hcs' : cs.take k = cs')
    (h7 : K (st.after d { v := .tup [], wr := [(b, some (.cells cs'))] })) (hre' : reachB [.slc b k m re.size cap] [] [(b, .cells cs)] = true) (hcl : clsOf cq ⟨d, .call c, ty, pos, af, g⟩ = .writer := by rfl) : rexec E cq n ⟨d, .call c, ty, pos, af, g⟩ st K := by
  subst hcs'
  have hd : ∀ x, d = some x → x < E.n := fun x e => by
    simp only [dstB, e, decide_eq_true_eq] at h1
    exact C.n ▸ h1
  have hdo := does_clearEnd C.tab (o := ⟨d, .call c, ty, pos, af, g⟩) rfl hc hty hd hr hdesc hre (b := b) (k := k) (n := m) (cap := cap) (cs := cs) hfit hzs hzf hn
  have hops : (Op.operands (.call c)).toList = c.args.toList := by simp [Op.operands, Call.operands, hc]
  have hself : ∀ x ∈ [(b, Blk.cells cs)], x.2.within (fun b' => refs [.slc b k m re.size cap] [(b, .cells cs)] b') = true := fun x hx => within_self_blk _ _ x hx
  refine ⟨h1, _, _, _, { vals := ?_, deps := ?_, fresh := ?_, does := hdo, reach := hre', inV := rfl, inN := ?_, inW := ?_, wr := ?_, pure := fun h => ?_, quiet := fun h => ?_, foot := by rw [hcl]; rfl }, h7⟩
  · show evls st.S (Op.operands (.call c)).toList = _
    rw [hops]; exact hv
  · intro x hx
    simp only [List.mem_singleton] at hx
    subst hx; exact hb
  · intro x hx; cases hx
  · intro x hx; cases hx
  · intro x hx k' hk
    simp only [List.mem_singleton] at hx
    subst hx
    simp only [Option.some.injEq] at hk
    subst hk
    simp only [Blk.within]
    refine within_sub ?_ fun x hx => List.mem_of_mem_take hx
    refine AV.withinL_mono (U := fun b' => refs [.slc b k m re.size cap] [(b, .cells cs)] b') (fun b hb => by simp [hb]) cs ?_
    exact hself (b, .cells cs) (List.mem_cons_self ..)
  · intro x hx
    simp only [List.mem_singleton] at hx
    subst hx
    simp [refs, AV.withinL, AV.within]
  · rw [hcl] at h; cases h
  · rw [hcl] at h; cases h
end steps
end Go.Am
namespace Go.Am
section
variable {f : Nat → Option Blk} {τ : Nat → Nat} {U Ks : List Nat} {H : List (Nat × Blk)} {κ β : Type} {KE : KEnc κ} {VE : VEnc β}
theorem mapX_ren (X : List ((κ × β) × Nat)) (q : Nat) (σ : Nat → Nat) : (mapX KE VE.enc X q).ren σ = mapX KE VE.enc X q := by
  simp only [mapX, Blk.ren, List.map_map]
  congr 1
  exact List.map_congr_left fun e _ => by simp only [Function.comp_apply, ren_rigid _ (KE.rig _), AV.ren_none _ (VE.pure _ _)]
theorem okH_mapx {c : Nat} {X X' : List ((κ × β) × Nat)} {q : Nat} (he : X' = X) (h1 : f (τ c) = some (mapX KE VE.enc X' q)) (h2 : Ks.contains c = true) (h3 : U.contains c = true) (h : okH f τ U Ks H) : okH f τ U Ks ((c, mapX KE VE.enc X q) :: H) :=
  okH_cons (by rw [h1, mapX_ren, he]) h2 h3 (mapX_within _ _ _) h
theorem okH_iter {c b s : Nat} {l : List Nat} {q : Nat} (h1 : f (τ c) = some (.iter (τ b) s l q)) (h2 : Ks.contains c = true) (h3 : U.contains c = true) (h4 : U.contains b = true) (h : okH f τ U Ks H) : okH f τ U Ks ((c, .iter b s l q) :: H) :=
  okH_cons (by rw [h1]; rfl) h2 h3 (by simp only [Blk.within]; exact h4) h
end
section
variable {κ β : Type} {KE : KEnc κ}
theorem nodup_inj {α γ : Type} {f : α → γ} : ∀ {l : List α}, (l.map f).Nodup → ∀ {a b : α}, a ∈ l → b ∈ l → f a = f b → a = b
  | [], _, _, _, ha, _, _ => by cases ha
  | x :: l, h, a, b, ha, hb, e => by
    rw [List.map_cons, List.nodup_cons] at h
    rcases List.mem_cons.1 ha with h1 | h1 <;> rcases List.mem_cons.1 hb with h2 | h2
    · rw [h1, h2]
    · exact (h.1 (List.mem_map.2 ⟨b, h2, by rw [← e, h1]⟩)).elim
    · exact (h.1 (List.mem_map.2 ⟨a, h1, by rw [e, h2]⟩)).elim
    · exact nodup_inj h.2 h1 h2 e
/-- Taking out a key that is there takes out its entry. -/
theorem xDel_filter : ∀ {X : List ((κ × β) × Nat)} {e : (κ × β) × Nat}, mOnce KE (X.map (·.1)) → (X.map (·.2)).Nodup → e ∈ X → xDel KE e.1.1 X = X.filter fun x => !(x.2 == e.2)
  | [], _, _, _, he => by cases he
  | x :: X, e, ho, hn, he => by
    have ho' := mOnce_iff.1 ho
    rw [List.map_cons, List.nodup_cons] at hn
    rw [List.map_cons, List.nodup_cons] at ho'
    unfold xDel
    by_cases hx : x = e
    · subst hx
      rw [if_pos ((KE.spec _ _).2 rfl), List.filter_cons_of_neg (by simp)]
      refine (List.filter_eq_self.2 fun y hy => ?_).symm
      have : y.2 ≠ x.2 := fun h => hn.1 (List.mem_map.2 ⟨y, hy, h⟩)
      simpa using this
    · have hm : e ∈ X := by
        rcases List.mem_cons.1 he with h | h
        · exact absurd h.symm hx
        · exact h
      have hk : ¬ KE.eq e.1.1 x.1.1 = true := fun h => ho'.1 (List.mem_map.2 ⟨e, hm, (KE.spec _ _).1 h⟩)
      have hb : x.2 ≠ e.2 := fun h => hn.1 (List.mem_map.2 ⟨e, hm, h.symm⟩)
      rw [if_neg hk, List.filter_cons_of_pos (by simpa using hb), xDel_filter (mOnce_iff.2 ho'.2) hn.2 hm]
/-- What a map holds when of those that were met only those stay that are to be kept. -/
def leftX (keep : κ → Bool) (s : List Nat) (X : List ((κ × β) × Nat)) : List ((κ × β) × Nat) := X.filter fun e => !s.contains e.2 || keep e.1.1
theorem leftX_sub {keep : κ → Bool} {s : List Nat} {X : List ((κ × β) × Nat)} : (leftX keep s X).Sublist X := List.filter_sublist
theorem leftX_nil {keep : κ → Bool} {X : List ((κ × β) × Nat)} : leftX keep [] X = X := List.filter_eq_self.2 fun _ _ => rfl
theorem leftX_all {keep : κ → Bool} {s : List Nat} {X : List ((κ × β) × Nat)} (h : ∀ e ∈ leftX keep s X, e.2 ∈ s) : leftX keep s X = X.filter fun e => keep e.1.1 := by
  unfold leftX at h ⊢
  refine List.filter_congr fun e he => ?_
  cases hs : s.contains e.2
  · have := h e (List.mem_filter.2 ⟨he, by rw [hs]; rfl⟩)
    rw [List.contains_eq_mem, decide_eq_false_iff_not] at hs
    exact absurd this hs
  · rfl
theorem leftX_keep {keep : κ → Bool} {s : List Nat} {X : List ((κ × β) × Nat)} {e : (κ × β) × Nat} (hn : (X.map (·.2)).Nodup) (he : e ∈ X) (hk : keep e.1.1 = true) : leftX keep (s ++ [e.2]) X = leftX keep s X := by
  unfold leftX
  refine List.filter_congr fun x hx => ?_
  by_cases h : x.2 = e.2
  · have := nodup_inj hn hx he h
    subst this
    rw [hk, Bool.or_true, Bool.or_true]
  · simp [h]
theorem leftX_drop {keep : κ → Bool} {s : List Nat} {X : List ((κ × β) × Nat)} {e : (κ × β) × Nat} (ho : mOnce KE (X.map (·.1))) (hn : (X.map (·.2)).Nodup) (he : e ∈ X) (hs : e.2 ∉ s) (hk : keep e.1.1 = false) : xDel KE e.1.1 (leftX keep s X) = leftX keep (s ++ [e.2]) X := by
  have hm : e ∈ leftX keep s X := List.mem_filter.2 ⟨he, by simp [hs]⟩
  have ho' : mOnce KE ((leftX keep s X).map (·.1)) := by
    have h1 := mOnce_iff.1 ho
    exact mOnce_iff.2 (((leftX_sub).map _).nodup h1)
  rw [xDel_filter ho' ((leftX_sub.map _).nodup hn) hm]
  unfold leftX
  rw [List.filter_filter]
  refine List.filter_congr fun x hx => ?_
  by_cases h : x.2 = e.2
  · have := nodup_inj hn hx he h
    subst this
    simp [hk]
  · simp [h]
/-- How many are still to come. -/
def restX (s : List Nat) (X : List ((κ × β) × Nat)) : Nat := (X.filter fun e => !s.contains e.2).length
theorem restX_lt {s : List Nat} {X : List ((κ × β) × Nat)} {e : (κ × β) × Nat} (he : e ∈ X) (hs : e.2 ∉ s) : restX (s ++ [e.2]) X < restX s X := by
  unfold restX
  have e1 : (X.filter fun y => !(s ++ [e.2]).contains y.2) = (X.filter fun y => !s.contains y.2).filter fun y => !(y.2 == e.2) := by
    rw [List.filter_filter]
    refine List.filter_congr fun y _ => ?_
    by_cases h1 : y.2 = e.2 <;> by_cases h2 : y.2 ∈ s <;> simp [h1, h2]
  rw [e1, List.length_filter_lt_length_iff_exists]
  exact ⟨e, List.mem_filter.2 ⟨he, by simp [hs]⟩, by simp⟩
end
end Go.Am
namespace Go.Am
section
variable {E : Env} {T : Tab} {n : Nat} {cq : Oper → Cls}
/-- A call, handed no block of one's own, that makes an object (block 0) and a block of no names (block 1) that the object names. -/
structure NewCalls (P : Program) (f : FuncId) (avs : List AV) (av : AV) (cs : List AV) (k : Blk) : Prop where
  fn : ∃ fn, P.funcs[f]? = some fn ∧ (fn.name == "runtime.NumGoroutine") = false ∧ fn.body.isNone = false
  args : AV.withinL (fun _ => false) avs = true
  res : av.within (fun b => b == 0) = true
  obj : AV.withinL (fun b => b == 1) cs = true
  blk : k.within (fun _ => false) = true
  calls : ACalls P f [] avs [] av [(0, .cells cs), (1, k)]
theorem NewCalls.of_body {P : Program} {T : Tab} (hT : TabOk P T) {f : FuncId} {fn : Func} {body : Code} (hf : P.funcs[f]? = some fn) (hb : fn.body = some body) (hn : (fn.name == "runtime.NumGoroutine") = false) {avs cs : List AV} {av : AV} {k : Blk} (hl : decide (avs.length ≤ fn.ntmps) = true) (ha : AV.withinL (fun _ => false) avs = true) (hr : av.within (fun b => b == 0) = true) (ho : AV.withinL (fun b => b == 1) cs = true) (hk : k.within (fun _ => false) = true) (hm : P.follows .mixedOrders = true)
    (h : ∀ E : Env, E.P = P → Cx E T fn.ntmps → E.I = [] → Awp E body (entry avs [] []) fun e st => (e = .ret ∨ e = .normal) ∧ resAV T st fn.results.toList = some av ∧ st.H 0 = some (.cells cs) ∧ st.H 1 = some k) : NewCalls P f avs av cs k where
  fn := ⟨fn, hf, hn, by simp [hb]⟩
  args := ha
  res := hr
  obj := ho
  blk := hk
  calls := ACalls.of_body hT hf hb (by simpa using hl) fun E hP hE hI => (h E hP ⟨hP ▸ hT, hE, hP ▸ hm⟩ hI).mono fun e st ⟨h1, h2, h3, h4⟩ => ⟨h1, h2, fun x hx => by
    rcases List.mem_cons.1 hx with rfl | hx
    · exact h3
    · rw [List.mem_singleton.1 hx]; exact h4⟩
def two (d d2 : Nat) : Nat → Nat := fun b => bif b == 0 then d else d2
theorem rexec_callNew {P : Program} (hP : E.P = P) (C : Cx E T n) {f : FuncId} {avs cs : List AV} {av : AV} {k : Blk} {d : Nat} (d2 : Nat) {c : Call} {ty : TypeId} {pos : String} {af : Array Edge} {g : Option (Nat × Bool)} {st : St} {K : St → Prop} (h1 : dstB n ⟨some d, .call c, ty, pos, af, g⟩ = true) (hU : st.U d = false) (hU2 : st.U d2 = false) (hne : (d == d2) = false) (hc : c.callee = .value (.func f)) (hv : evls st.S c.args.toList = some avs)
    (F : NewCalls P f avs av cs k) (h7 : K (st.after (some d) { v := av.ren (two d d2), new := [(d, .cells (AV.renL (two d d2) cs)), (d2, k)] })) (hcl : clsOf cq ⟨some d, .call c, ty, pos, af, g⟩ ≠ .pure := by decide) (hft : footB (clsOf cq ⟨some d, .call c, ty, pos, af, g⟩) [] { v := av.ren (two d d2), new := [(d, .cells (AV.renL (two d d2) cs)), (d2, k)] } = true := by rfl) : rexec E cq n ⟨some d, .call c, ty, pos, af, g⟩ st K := by
  subst hP
  obtain ⟨fn, q1, q2, q3⟩ := F.fn
  have hd : ∀ x, some d = some x → x < E.n := dst_lt C h1
  have hnd : d ≠ d2 := by simpa using hne
  let N : Names := ⟨fun b => b, [(d, 0), (d2, 1)]⟩
  have kn : ∀ b, Names.knows N [] b = (b == 0 || b == 1) := fun b => by
    simp [N, Names.knows, inI, BEq.comm]
  have kn' : Names.knows N [] = fun b => (b == 0 || b == 1) := funext kn
  have m0 : ∀ b, (fun b : Nat => b == 0) b = true → (b == 0 || b == 1) = true := fun b h => by dsimp only at h; rw [h]; rfl
  have m1 : ∀ b, (fun b : Nat => b == 1) b = true → (b == 0 || b == 1) = true := fun b h => by dsimp only at h; rw [h, Bool.or_true]
  have ok : CallOk N [] avs [] [(0, .cells cs), (1, k)] av := by
    refine { args := F.args, ids := fun x hx => (by cases hx), blks := fun x hx => (by cases hx), nodup := by simp, inj := fun b c hb => (by cases hb), nodupL := by simp [N, hnd], nodupR := by simp [N], fresh := fun x _ => rfl, res := ?_, res' := ?_, kept := fun x _ hx => (by cases hx), all := ?_, used := fun b hb => (by cases hb) }
    · rw [kn']; exact AV.within_mono m0 av F.res
    · intro x hx
      rw [kn']
      rcases List.mem_cons.1 hx with rfl | hx
      · exact ⟨rfl, AV.withinL_mono m1 cs F.obj⟩
      · rw [List.mem_singleton.1 hx]
        exact ⟨rfl, Blk.within_mono (fun b hb => by cases hb) k F.blk⟩
    · intro x hx
      simp only [N, List.mem_cons, List.not_mem_nil, or_false] at hx
      rcases hx with rfl | rfl <;> rfl
  have hdo := does_call (E := E) (o := ⟨some d, .call c, ty, pos, af, g⟩) (c := c) rfl hc hd q1 q2 q3 F.calls ok (args := avs) (caps := []) (by rw [AV.renL_none avs F.args]; simp)
  have hτ0 : Names.τ N [] 0 = d := by simp [N, Names.τ, inI]
  have hτ1 : Names.τ N [] 1 = d2 := by simp [N, Names.τ, inI]
  have hav : av.ren (Names.τ N []) = av.ren (two d d2) := by
    refine AV.ren_congr (U := fun b => b == 0) (fun b hb => ?_) av F.res
    have : b = 0 := by simpa using hb
    subst this; exact hτ0
  have hcs : AV.renL (Names.τ N []) cs = AV.renL (two d d2) cs := by
    refine AV.renL_congr (U := fun b => b == 1) (fun b hb => ?_) cs F.obj
    have : b = 1 := by simpa using hb
    subst this; exact hτ1
  have he : Names.delta N [] [] [(0, .cells cs), (1, k)] av = { v := av.ren (two d d2), new := [(d, .cells (AV.renL (two d d2) cs)), (d2, k)] } := by
    simp only [Names.delta, List.map_nil, hav, N, List.map_cons]
    have e0 : (heapOf [(0, Blk.cells cs), (1, k)] 0).getD (.cells []) = .cells cs := rfl
    have e1 : (heapOf [(0, Blk.cells cs), (1, k)] 1).getD (.cells []) = k := rfl
    rw [e0, e1, Blk.ren_none F.blk]
    simp only [Blk.ren]
    rw [show AV.renL (Names.τ ⟨fun b => b, [(d, 0), (d2, 1)]⟩ []) cs = AV.renL (two d d2) cs from hcs]
  rw [he] at hdo
  have hops : (Op.operands (.call c)).toList = .func f :: c.args.toList := by simp [Op.operands, Call.operands, hc]
  refine ⟨h1, .fn f [] [] :: avs, [], _, { vals := ?_, deps := fun x hx => (by cases hx), fresh := ?_, does := hdo, reach := rfl, inV := ?_, inN := ?_, inW := fun x hx => (by cases hx), wr := fun x hx => (by cases hx), pure := fun h => absurd h hcl, quiet := fun _ => rfl, foot := hft }, h7⟩
  · show evls st.S (Op.operands (.call c)).toList = _
    rw [hops]; simp only [evls, evl, hv]
  · intro x hx
    rcases List.mem_cons.1 hx with rfl | hx
    · exact hU
    · rw [List.mem_singleton.1 hx]; exact hU2
  · refine AV.within_ren (U := fun b => b == 0) (fun b hb => ?_) av F.res
    have : b = 0 := by simpa using hb
    subst this
    simp [two]
  · intro x hx
    rcases List.mem_cons.1 hx with rfl | hx
    · refine AV.withinL_ren (U := fun b => b == 1) (fun b hb => ?_) cs F.obj
      have : b = 1 := by simpa using hb
      subst this
      have h2 : (d2 == d) = false := by simpa using Ne.symm hnd
      simp [two, List.lookup, h2]
    · rw [List.mem_singleton.1 hx]
      exact Blk.within_mono (fun b hb => by cases hb) k F.blk
end
end Go.Am
namespace Go.Am
open Go.Sort
/-- A world in which a row holds other values, later, with more behind all. -/
def sw {α : Type} [Inhabited α] (enc : α → Value) (w : World) (blk off m : Nat) (d : Array α) (os : Array Obj) : World := Go.Sort.grow (putRow enc (Go.Sort.ahead w m) blk off d) os
section
variable {α : Type} [Inhabited α] {enc : α → Value} {w : World} {blk off m : Nat} {d : Array α} {os : Array Obj}
theorem sw_other {k : Nat} (hk : k < w.heap.size) (hne : k ≠ blk) : (sw enc w blk off m d os).heap[k]? = w.heap[k]? := by
  show ((w.heap.modify blk _) ++ os)[k]? = _
  rw [Array.getElem?_append_left (by simpa using hk), Array.getElem?_modify, if_neg (Ne.symm hne)]
theorem sw_row {c : Array Value} {e : TypeId} {f : Nat × Nat} (hb : w.heap[blk]? = some (.cells c e f)) : (sw enc w blk off m d os).heap[blk]? = some (.cells (Go.Sort.putCells enc off d c) e f) := by
  have hk : blk < w.heap.size := by
    rcases Nat.lt_or_ge blk w.heap.size with h | h
    · exact h
    · rw [Array.getElem?_eq_none h] at hb; cases hb
  show ((w.heap.modify blk _) ++ os)[blk]? = _
  rw [Array.getElem?_append_left (by simpa using hk), Array.getElem?_modify, if_pos rfl, hb]
  rfl
theorem putCells_size' (c : Array Value) : (Go.Sort.putCells enc off d c).size = c.size := by simp [Go.Sort.putCells]
theorem putCells_get {c : Array Value} {j : Nat} (hj : j < d.size) (hc : off + j < c.size) : (Go.Sort.putCells enc off d c)[off + j]? = some (enc d[j]!) := by
  unfold Go.Sort.putCells
  rw [Array.getElem?_mapIdx, Array.getElem?_eq_getElem hc, Option.map_some, if_pos ⟨by omega, by omega⟩, show off + j - off = j by omega]
theorem sw_size : w.heap.size ≤ (sw enc w blk off m d os).heap.size := by
  show _ ≤ ((w.heap.modify blk _) ++ os).size
  simp
theorem sw_grows {ι : Nat → Option (Nat × Nat)} {imm : Nat → Prop} (hi : ∀ k, imm k → k < w.heap.size) (hb : ¬ imm blk) : Grows ι ι imm imm w (sw enc w blk off m d os) := by
  refine ⟨fun _ _ h => h, ⟨fun _ h => h, fun k hk => sw_other (hi k hk) (fun e => hb (e ▸ hk))⟩, fun r c e f hr => ?_⟩
  by_cases h : r = blk
  · subst h
    exact ⟨_, f, sw_row hr, putCells_size' c⟩
  · have hlt : r < w.heap.size := by
      rcases Nat.lt_or_ge r w.heap.size with h | h
      · exact h
      · rw [Array.getElem?_eq_none h] at hr; cases hr
    exact ⟨c, f, by rw [sw_other hlt h]; exact hr, rfl⟩
end
/-- A world in which nothing has changed but draws, and what lies behind all. -/
theorem ext_grow {w w' : World} (h : Ext (fun _ => False) w w') : ∃ q os, w' = Go.Sort.grow (w.drewN q) os := by
  refine ⟨w'.drawn - w.drawn, w'.heap.extract w.heap.size w'.heap.size, ?_⟩
  have hh : w'.heap = w.heap ++ w'.heap.extract w.heap.size w'.heap.size := by
    apply Array.ext_getElem?
    intro k
    rcases Nat.lt_or_ge k w.heap.size with hk | hk
    · rw [Array.getElem?_append_left hk, h.block k hk (fun h => h)]
    · rw [Array.getElem?_append_right hk, Array.getElem?_extract]
      split
      · congr 1; omega
      · rename_i hlt
        rw [Array.getElem?_eq_none (by omega)]
  have hd : w'.drawn = w.drawn + (w'.drawn - w.drawn) := by have := h.drawn; omega
  have h1 := h.os
  have h2 := h.tape
  have h3 := h.output
  cases w'
  cases w
  simp only [Go.Sort.grow, World.drewN] at *
  subst h1 h2 h3
  simp only [World.mk.injEq, true_and, and_true]
  exact ⟨hh, hd⟩
end Go.Am
namespace Go.Am
/-- What Go's library's sort of elements of k cells does, in a program P, as function f: the kit's own words. -/
def SortsK (P : Program) (f : FuncId) {α : Type} [Inhabited α] (enc : α → List Value) (k : Nat) (cf : α → α → Int) (srt : Array α → Array α) : Prop :=
  ∀ (g : Nat) (cb : Array Value) (blk off cap : Nat) (d : Array α) (w : World), (∀ args w, (callFunc g args).run P w = .ok (.enter g args) w) →
    (∀ (m : Nat) (os : Array Obj) (dk : Array α), dk.size = d.size → ∀ x y : α, Calls P g (#[.agg (enc x).toArray, .agg (enc y).toArray] ++ cb) (sw id w blk off m (Go.Sort.flatK enc k dk) os) fun e w' => e = .returned (.int .i64 (cf x y)) ∧ ∃ q os', w' = Go.Sort.grow ((sw id w blk off m (Go.Sort.flatK enc k dk) os).drewN q) os') →
    Go.Sort.Holds id w blk off (Go.Sort.flatK enc k d) → blk < w.heap.size → d.size < 4611686018427387904 →
    Calls P f #[.slice (some ⟨blk, off, none⟩) d.size cap, .func (.func g) #[] cb] w fun e w' => e = .returned (.tuple #[]) ∧ ∃ n os, w' = sw id w blk off n (Go.Sort.flatK enc k (srt d)) os
/-- A literal's value. -/
def litOf : PV → Value
  | .lit v => v
  | _ => .int .i64 0
/-- Cells that hold literals alone. -/
def allLits (ps : List PV) : Prop := ∀ p ∈ ps, p = .lit (litOf p) ∧ flatB (litOf p) = true
theorem cells_of_lits {ι : Nat → Option (Nat × Nat)} {imm : Nat → Prop} {w : World} {c : Array Value} : ∀ (ps : List PV) (z : Nat), allLits ps → (∀ j, j < ps.length → c[z + j]? = some (ps.map litOf)[j]!) → CellsH ι imm w c (ps.map .pv) z
  | [], _, _, _ => trivial
  | p :: ps, z, hl, h => by
    have hp := hl p List.mem_cons_self
    refine ⟨⟨litOf p, by simpa using h 0 (by simp), ?_⟩, cells_of_lits ps (z + 1) (fun q hq => hl q (List.mem_cons_of_mem _ hq)) fun j hj => ?_⟩
    · rw [hp.1]; simp only [VH, PH]; exact ⟨rfl, hp.2⟩
    · have := h (j + 1) (by simpa using hj)
      rw [show z + 1 + j = z + (j + 1) by omega, this]
      simp
theorem lits_of_cells {ι : Nat → Option (Nat × Nat)} {imm : Nat → Prop} {w : World} {c : Array Value} : ∀ (ps : List PV) (z : Nat), allLits ps → CellsH ι imm w c (ps.map .pv) z → ∀ j, j < ps.length → c[z + j]? = some (ps.map litOf)[j]!
  | [], _, _, _, j, hj => by simp at hj
  | p :: ps, z, hl, h, j, hj => by
    have hp := hl p List.mem_cons_self
    obtain ⟨⟨v, h1, h2⟩, h3⟩ := h
    rw [hp.1] at h2
    cases j with
    | zero =>
      simp only [VH, PH] at h2
      rw [Nat.add_zero, h1, h2.1]; simp
    | succ j =>
      rw [show z + (j + 1) = z + 1 + j by omega, lits_of_cells ps (z + 1) (fun q hq => hl q (List.mem_cons_of_mem _ hq)) h3 j (by simpa using hj)]
      simp
theorem encL_get {α : Type} {e : Enc α} : ∀ (D : List α) (j t : Nat) (x : α), D[j]? = some x → t < e.sz → (encL e D)[j * e.sz + t]? = (e.enc x)[t]?
  | [], _, _, _, h, _ => by simp at h
  | y :: ys, 0, t, x, h, ht => by
    simp only [List.getElem?_cons_zero, Option.some.injEq] at h
    subst h
    have e1 : encL e (y :: ys) = e.enc y ++ encL e ys := by simp [encL]
    rw [e1, Nat.zero_mul, Nat.zero_add, List.getElem?_append_left (by rw [e.len]; exact ht)]
  | y :: ys, j + 1, t, x, h, ht => by
    have e1 : encL e (y :: ys) = e.enc y ++ encL e ys := by simp [encL]
    rw [List.getElem?_cons_succ] at h
    rw [e1, List.getElem?_append_right (by rw [e.len, Nat.add_mul]; omega), e.len, show (j + 1) * e.sz + t - e.sz = j * e.sz + t by rw [Nat.add_mul]; omega]
    exact encL_get ys j t x h ht
theorem encL_length {α : Type} {e : Enc α} : ∀ (D : List α), (encL e D).length = D.length * e.sz
  | [] => by simp [encL]
  | y :: ys => by
    have e1 : encL e (y :: ys) = e.enc y ++ encL e ys := by simp [encL]
    rw [e1, List.length_append, e.len, encL_length ys, List.length_cons, Nat.add_mul]; omega
theorem flat_eq {α : Type} [Inhabited α] {e : Enc α} (D : List α) : (Go.Sort.flatK (fun x => (e.enc x).map litOf) e.sz D.toArray).toList = (encL e D).map litOf := by
  apply List.ext_getElem?
  intro i
  by_cases hi : i < D.length * e.sz
  · have hpos : 0 < e.sz := Nat.pos_of_ne_zero fun h => by rw [h] at hi; simp at hi
    have hj : i / e.sz < D.length := Nat.div_lt_of_lt_mul (by rw [Nat.mul_comm]; exact hi)
    have ht : i % e.sz < e.sz := Nat.mod_lt _ hpos
    have hx : D[i / e.sz]? = some (D[i / e.sz]'hj) := List.getElem?_eq_getElem hj
    have h1 := encL_get (e := e) D (i / e.sz) (i % e.sz) _ hx ht
    rw [show i / e.sz * e.sz + i % e.sz = i from by rw [Nat.mul_comm]; exact Nat.div_add_mod i e.sz] at h1
    rw [List.getElem?_map, h1]
    have hl : i % e.sz < (e.enc (D[i / e.sz]'hj)).length := by rw [e.len]; exact ht
    rw [List.getElem?_eq_getElem hl]
    have hsz : i < (Go.Sort.flatK (fun x => (e.enc x).map litOf) e.sz D.toArray).size := by rw [Go.Sort.size_flatK]; simpa using hi
    rw [Array.getElem?_toList, Array.getElem?_eq_getElem hsz]
    have h2 := Go.Sort.get_flatK (fun x => (e.enc x).map litOf) e.sz D.toArray i (by simpa using hi)
    rw [getElem!_pos (Go.Sort.flatK (fun x => (e.enc x).map litOf) e.sz D.toArray) i hsz] at h2
    rw [h2]
    have h3 : D.toArray[i / e.sz]! = D[i / e.sz]'hj := by rw [getElem!_pos D.toArray (i / e.sz) (by simpa using hj)]; simp
    rw [h3]
    show some (((e.enc (D[i / e.sz]'hj)).map litOf)[i % e.sz]!) = _
    rw [getElem!_pos ((e.enc (D[i / e.sz]'hj)).map litOf) (i % e.sz) (by rw [List.length_map]; exact hl)]
    simp
  · rw [List.getElem?_eq_none (by rw [Array.length_toList, Go.Sort.size_flatK]; simpa using hi), List.getElem?_eq_none (by rw [List.length_map, encL_length]; omega)]
theorem flat_get {α : Type} [Inhabited α] {e : Enc α} (D : List α) (j : Nat) (hj : j < D.length * e.sz) : (Go.Sort.flatK (fun x => (e.enc x).map litOf) e.sz D.toArray)[j]! = ((encL e D).map litOf)[j]! := by
  rw [← flat_eq D, getElem!_pos (Go.Sort.flatK (fun x => (e.enc x).map litOf) e.sz D.toArray) j (by rw [Go.Sort.size_flatK]; simpa using hj), getElem!_pos (Go.Sort.flatK (fun x => (e.enc x).map litOf) e.sz D.toArray).toList j (by rw [Array.length_toList, Go.Sort.size_flatK]; simpa using hj)]
  simp
theorem allLits_encL {α : Type} {e : Enc α} (h : ∀ x, allLits (e.enc x)) : ∀ (D : List α), allLits (encL e D)
  | [] => fun p hp => by simp [encL] at hp
  | y :: ys => fun p hp => by
    have e1 : encL e (y :: ys) = e.enc y ++ encL e ys := by simp [encL]
    rw [e1] at hp
    rcases List.mem_append.1 hp with hp | hp
    · exact h y p hp
    · exact allLits_encL h ys p hp
theorem vhs_lits {ι : Nat → Option (Nat × Nat)} {imm : Nat → Prop} {w : World} : ∀ (ps : List PV), allLits ps → VHs ι imm w (ps.map .pv) (ps.map litOf)
  | [], _ => rfl
  | p :: ps, h => by
    have hp := h p List.mem_cons_self
    refine ⟨litOf p, ps.map litOf, rfl, ?_, vhs_lits ps fun q hq => h q (List.mem_cons_of_mem _ hq)⟩
    rw [hp.1]; simp only [VH, PH]; exact ⟨rfl, hp.2⟩
theorem sortK_calls {P : Program} {f : FuncId} {fn0 : Func} (hfn : P.funcs[f]? = some fn0) (hn0 : (fn0.name == "runtime.NumGoroutine") = false) (hb0 : fn0.body.isNone = false) {α : Type} [Inhabited α] {e : Enc α} (hlit : ∀ x, allLits (e.enc x)) {cf : α → α → Int} {srt : Array α → Array α} (hs : ∀ d, (srt d).size = d.size) (S : SortsK P f (fun x => (e.enc x).map litOf) e.sz cf srt)
    (D : List α) (tt : Bool) (hD : D.length < 4611686018427387904) (g : Nat) (caps : List AV) (hp : ∀ x y : α, PCalls P g ([.agg ((e.enc x).map .pv), .agg ((e.enc y).map .pv)] ++ caps) (.pv (.lit (.int .i64 (cf x y))))) (hw : AV.withinL (fun _ => false) caps = true) (x0 : α) :
    MCalls P f [.sl 0 0 D.length e.sz tt, .fn g [] caps] (.cells (encC e D)) (.tup []) (.cells (encC e (srt D.toArray).toList)) where
  fn := ⟨fn0, hfn, hn0, hb0⟩
  args := by simp [AV.withinL, AV.within, withinL0 hw]
  res := rfl
  blk := encC_within _ _
  blk' := encC_within _ _
  calls := by
    intro ι imm w M vs hH hv hi hb
    obtain ⟨v1, us1, rfl, hv1, hv⟩ := hv
    obtain ⟨v2, us2, rfl, hv2, hv⟩ := hv
    simp only [VHs] at hv
    subst hv
    simp only [VH] at hv1 hv2
    obtain ⟨r, z, cap, i0, rfl, hncap, _, _⟩ := hv1
    obtain ⟨vs0, us, rfl, h0, hcaps⟩ := hv2
    simp only [VHs] at h0
    subst h0
    obtain ⟨r', z', i0', him, hM, c, et, fr, hc, hle, hfz, hcells⟩ := hH.blk 0 (.cells (encC e D)) rfl
    rw [i0] at i0'
    injection i0' with i0'
    injection i0' with e1 e2
    subst e1 e2
    have hrlt : r < w.heap.size := by
      rcases Nat.lt_or_ge r w.heap.size with h | h
      · exact h
      · rw [Array.getElem?_eq_none h] at hc; cases hc
    rw [encC_len] at hle
    have hsz : D.toArray.size = D.length := by simp
    have hfs : ∀ d : Array α, (Go.Sort.flatK (fun x => (e.enc x).map litOf) e.sz d).size = d.size * e.sz := fun d => Go.Sort.size_flatK _ _ _
    have hholds : Go.Sort.Holds id w r (z + 0) (Go.Sort.flatK (fun x => (e.enc x).map litOf) e.sz D.toArray) := fun j hj => by
      rw [hfs, hsz] at hj
      have := lits_of_cells (encL e D) z (allLits_encL hlit D) hcells j (by rw [encL_length]; exact hj)
      refine ⟨?_, ?_⟩
      · rw [Nat.add_zero, cell_of_heap hc, this, flat_get D j hj]; rfl
      · simp only [World.frozen?, hc]
        have := hfz (z + 0 + j)
        simp only [Bool.and_eq_false_iff, decide_eq_false_iff_not]
        by_cases h1 : fr.1 ≤ z + 0 + j
        · exact .inr fun h2 => this ⟨h1, h2⟩
        · exact .inl h1
    obtain ⟨gfn, g1, g2, g3⟩ := (hp x0 x0).fn
    have eg : ∀ args w, (callFunc g args).run P w = .ok (.enter g args) w := by
      intro args w
      have h1 : gfn.name ≠ "runtime.NumGoroutine" := by simpa using g2
      cases hbd : gfn.body with
      | none => rw [hbd] at g3; cases g3
      | some b => simp [callFunc, g1, h1, hbd, mark]
    have hcmp : ∀ (m : Nat) (os : Array Obj) (dk : Array α), dk.size = D.toArray.size → ∀ x y : α, Calls P g (#[.agg ((e.enc x).map litOf).toArray, .agg ((e.enc y).map litOf).toArray] ++ List.toArray us) (sw id w r (z + 0) m (Go.Sort.flatK (fun x => (e.enc x).map litOf) e.sz dk) os) fun e' w' => e' = .returned (.int .i64 (cf x y)) ∧ ∃ q os', w' = Go.Sort.grow ((sw id w r (z + 0) m (Go.Sort.flatK (fun x => (e.enc x).map litOf) e.sz dk) os).drewN q) os' := by
      intro m os dk _ x y
      have hgr := sw_grows (enc := id) (off := z + 0) (m := m) (d := Go.Sort.flatK (fun x => (e.enc x).map litOf) e.sz dk) (os := os) (ι := ι) hi him
      generalize sw id w r (z + 0) m (Go.Sort.flatK (fun x => (e.enc x).map litOf) e.sz dk) os = W at hgr ⊢
      have hc2 : VHs (fun _ => none) imm W caps us := VHs.lone hw (VHs.grows hgr _ _ hcaps)
      have hlt : ∀ k, imm k → k < W.heap.size := fun k hk => by
        have h1 := hgr.stays.same k hk
        rcases Nat.lt_or_ge k W.heap.size with h | h
        · exact h
        · rw [Array.getElem?_eq_none h, Array.getElem?_eq_getElem (hi k hk)] at h1; cases h1
      have harg : (#[Value.agg ((e.enc x).map litOf).toArray, Value.agg ((e.enc y).map litOf).toArray] ++ List.toArray us) = List.toArray (Value.agg ((e.enc x).map litOf).toArray :: Value.agg ((e.enc y).map litOf).toArray :: us) := by simp
      rw [harg]
      refine ((hp x y).calls (fun _ => none) imm W (fun _ => False) _ ⟨fun b k h => (by cases h), fun b b' k k' r z z' h => (by cases h)⟩ ⟨_, _, rfl, ⟨_, rfl, vhs_lits _ (hlit x)⟩, _, _, rfl, ⟨_, rfl, vhs_lits _ (hlit y)⟩, hc2⟩ hlt (fun b x h => by cases h)).mono ?_
      rintro e' w' ⟨v, ι', imm', rfl, hv, _, hext, _⟩
      simp only [VH, PH] at hv
      refine ⟨by rw [hv.1], ext_grow ⟨hext.os, hext.tape, hext.output, hext.size, fun k hk _ => hext.block k hk (fun hR => ?_), hext.drawn⟩⟩
      obtain ⟨b, kk, zz, h1, _⟩ := hR
      cases h1
    have main := S g (List.toArray us) r (z + 0) cap D.toArray w eg hcmp hholds hrlt (by rw [hsz]; exact hD)
    rw [hsz] at main
    refine main.mono ?_
    rintro e' w' ⟨rfl, n, os, rfl⟩
    have hgr := sw_grows (enc := id) (off := z + 0) (m := n) (d := Go.Sort.flatK (fun x => (e.enc x).map litOf) e.sz (srt D.toArray)) (os := os) (ι := ι) hi him
    refine ⟨_, ι, imm, rfl, ⟨[], rfl, rfl⟩, hgr, ⟨rfl, rfl, rfl, sw_size, fun k hk hR => sw_other hk fun e => hR ⟨0, _, z, rfl, e ▸ i0⟩, Nat.le_add_right _ _⟩, ⟨fun b k hk => ?_, fun b b' k k' r1 z1 z2 hk hk' _ _ => ?_⟩, fun k hk => .inl hk, fun k hk => Nat.lt_of_lt_of_le (hi k hk) sw_size⟩
    · have hb0 : b = 0 ∧ k = .cells (encC e (srt D.toArray).toList) := by
        by_cases h : b = 0
        · subst h; exact ⟨rfl, (Option.some.inj hk).symm⟩
        · have : (b == 0) = false := by simpa using h
          simp only [heapOf, List.lookup, this] at hk; cases hk
      obtain ⟨rfl, rfl⟩ := hb0
      have hl2 : (srt D.toArray).toList.length = D.length := by rw [Array.length_toList, hs, hsz]
      refine ⟨r, z, i0, him, .inl ⟨0, _, z, rfl, i0⟩, Go.Sort.putCells id (z + 0) (Go.Sort.flatK (fun x => (e.enc x).map litOf) e.sz (srt D.toArray)) c, et, fr, sw_row hc, by rw [encC_len, hl2, putCells_size']; exact hle, hfz, cells_of_lits _ _ (allLits_encL hlit _) fun j hj => ?_⟩
      rw [encL_length, hl2] at hj
      have := putCells_get (enc := id) (off := z + 0) (d := Go.Sort.flatK (fun x => (e.enc x).map litOf) e.sz (srt D.toArray)) (c := c) (j := j) (by rw [hfs, hs, hsz]; exact hj) (by omega)
      rw [show z + j = z + 0 + j by omega, this]
      have e1 := flat_get (e := e) (srt D.toArray).toList j (by rw [hl2]; exact hj)
      rw [Array.toArray_toList] at e1
      rw [e1]; rfl
    · have h1 : ∀ b k, heapOf [(0, Blk.cells (encC e (srt D.toArray).toList))] b = some k → b = 0 := fun b k hk => by
        by_cases h : b = 0
        · exact h
        · have : (b == 0) = false := by simpa using h
          simp only [heapOf, List.lookup, this] at hk; cases hk
      rw [h1 _ _ hk, h1 _ _ hk']
end Go.Am
namespace Go.Am
section
variable {E : Env} {T : Tab}
theorem freeze_other (w : World) (r n : Nat) {k : Nat} (h : k ≠ r) : (w.freeze ⟨r, n, none⟩ 1).heap[k]? = w.heap[k]? := by
  unfold World.freeze
  rw [if_neg (by decide)]
  simp only [Array.getElem?_modify]
  rw [if_neg (Ne.symm h)]
theorem freeze_this (w : World) (r n : Nat) {c : Array Value} {e : TypeId} {f : Nat × Nat} (h : w.heap[r]? = some (.cells c e f)) : ∃ f', (w.freeze ⟨r, n, none⟩ 1).heap[r]? = some (.cells c e f') := by
  unfold World.freeze
  rw [if_neg (by decide)]
  simp only [Array.getElem?_modify, if_true, h, Option.map_some]
  exact ⟨_, rfl⟩
theorem freeze_rest (w : World) (r n : Nat) : (w.freeze ⟨r, n, none⟩ 1).heap.size = w.heap.size ∧ (w.freeze ⟨r, n, none⟩ 1).os = w.os ∧ (w.freeze ⟨r, n, none⟩ 1).tape = w.tape ∧ (w.freeze ⟨r, n, none⟩ 1).output = w.output ∧ (w.freeze ⟨r, n, none⟩ 1).drawn = w.drawn := by
  unfold World.freeze
  rw [if_neg (by decide)]
  exact ⟨by simp, rfl, rfl, rfl, rfl⟩
theorem does_convOwn (hT : TabOk E.P T) {o : Oper} {t : TypeId} {x : Operand} (ho : o.op = .convert t t x) (hd : ∀ d, o.dst = some d → d < E.n) {r re : TyRow} (hr : T.lookup t = some r) {e : TypeId} (hdesc : r.desc = .slice e) (hre : T.lookup e = some re) (hu : re.desc = .int .u8) {b m s : Nat} {tt : Bool} {ps : List PV} :
    Does E o [.sl b 0 m s tt] [(b, .cells (ps.map .pv))] { v := .pv (.sl (some false) m ps), wr := [(b, none)] } := by
  intro ι imm st a w Q h hv hh _
  have hv := h.evls hv
  rw [ho] at hv
  simp only [Op.operands, List.map_cons, List.map_nil] at hv
  have hv1 := hv.one
  have hb := hh _ (List.mem_cons_self ..)
  obtain ⟨r0, z, q1, q2, q3, c, ec, f, q4, q5, q6, q7⟩ := h.heap.blk b _ hb
  simp only [VH] at hv1
  obtain ⟨r', z', cap, i1, i2, i3, _⟩ := hv1
  rw [q1] at i1
  simp only [Option.some.injEq, Prod.mk.injEq] at i1
  obtain ⟨rfl, rfl⟩ := i1
  have hlt : r0 < w.heap.size := by
    rcases Nat.lt_or_ge r0 w.heap.size with h' | h'
    · exact h'
    · rw [Array.getElem?_eq_none h'] at q4; cases q4
  have hsh : w.shape? r0 = some (ec, c.size) := by unfold World.shape?; rw [q4]
  have hun := run_underlying hT hr w
  have hue := run_underlying hT hre w
  rw [hdesc] at hun
  rw [hu] at hue
  have hrun : (execOp a.eval o).run E.P w = .ok (.value (.slice (some ⟨r0, z + 0, none⟩) m cap)) (w.freeze ⟨r0, c.size, none⟩ 1) := by
    simp only [execOp, ho, convert, i2, run_bind', hun, hue, beq_self_eq_true, markStringish, shape, freeze, Sem.run, hsh, run_pure']
  obtain ⟨f', p1⟩ := freeze_this w r0 c.size q4
  have p2 : ∀ k, k ≠ r0 → (w.freeze ⟨r0, c.size, none⟩ 1).heap[k]? = w.heap[k]? := fun k hk => freeze_other w r0 c.size hk
  obtain ⟨p3, p4, p5, p6, p7⟩ := freeze_rest w r0 c.size
  generalize w.freeze ⟨r0, c.size, none⟩ 1 = w' at hrun p1 p2 p3 p4 p5 p6 p7
  let imm' : Nat → Prop := fun k => imm k ∨ k = r0
  have stay : Stays imm imm' w w' := ⟨fun _ hk => .inl hk, fun k hk => p2 k (fun e => q2 (e ▸ hk))⟩
  have g : Grows ι ι imm imm' w w' := ⟨fun _ _ h => h, stay, fun r c1 e1 f1 hr => by
    by_cases hrr : r = r0
    · subst hrr; rw [q4] at hr; cases hr; exact ⟨c, f', p1, rfl⟩
    · exact ⟨c1, f1, (p2 r hrr).trans hr, rfl⟩⟩
  have hH : ∀ x k, (Delta.mk (.pv (.sl (some false) m ps)) [] [(b, none)]).H st.H x = some k → x ≠ b ∧ st.H x = some k := fun x k hx => by
    rw [Delta.H_wr] at hx
    dsimp only at hx
    split at hx
    · cases hx
    · rename_i hne; exact ⟨hne, hx⟩
  have hs : SR E ι imm' ⟨st.S, (Delta.mk (.pv (.sl (some false) m ps)) [] [(b, none)]).H st.H, (Delta.mk (.pv (.sl (some false) m ps)) [] [(b, none)]).U st.U⟩ a w' := by
    refine h.turn g p4 p5 p6 (by omega) (by omega) (fun k _ hM => p2 k (fun e => hM (e ▸ q3))) ⟨fun x k hx => ?_, fun x x' k k' r z z' hx hx' => h.heap.inj x x' k k' r z z' (hH x k hx).2 (hH x' k' hx').2⟩ (fun x y hx => ?_) (fun k hk => ?_) (fun k hk => ?_)
    · obtain ⟨hne, hx⟩ := hH x k hx
      obtain ⟨r', z', p1', p2', p3', p4'⟩ := h.heap.blk x k hx
      have hrr : r' ≠ r0 := fun e => by
        subst e
        exact hne (h.heap.inj x b k _ r' z' z hx hb p1' q1)
      exact ⟨r', z', p1', fun hi => hi.elim p2' hrr, p3', p4'.grows g (p2 r' hrr)⟩
    · simp only [Delta.U, List.lookup, Option.isSome_none, Bool.false_or]; exact h.used x y hx
    · rcases hk with hk | rfl
      · exact .inl hk
      · exact .inr q3
    · rw [p3]
      rcases hk with hk | rfl
      · exact h.immlt k hk
      · exact hlt
  unfold Oper.wp
  rw [hrun, Oper.upon_value]
  refine ⟨ι, imm', hs.put o.dst hd ?_⟩
  simp only [VH, PH]
  refine ⟨_, cap, rfl, i3, fun h => (by simp at h), fun _ h => (by simp at h), fun h => (by simp at h), fun A hA _ => ?_⟩
  simp only [Option.some.injEq] at hA
  subst hA
  exact ⟨rfl, .inr rfl, PHs.of_cells (i := imm) (ι := ι) (w := w) stay (fun o => cell_of_heap p1 o) q7⟩
variable {cq : Oper → Cls} {n : Nat}
theorem rexec_convOwn (C : Cx E T n) {d : Nat} {t ty : TypeId} {x : Operand} {pos : String} {af : Array Edge} {g : Option (Nat × Bool)} {st : St} {K : St → Prop} (h1 : dstB n ⟨some d, .convert t t x, ty, pos, af, g⟩ = true) {b m s : Nat} {tt : Bool} (D : List Int)
    (hx : evl st.S x = some (.sl b 0 m s tt)) (hb : st.H b = some (.cells (encC (eI .u8) D))) (hm : m = D.length) {r re : TyRow} (hr : T.lookup t = some r) {e : TypeId} (hdesc : r.desc = .slice e) (hre : T.lookup e = some re) (hu : re.desc = .int .u8)
    (h7 : K (st.after (some d) { v := sS (some false) (eI .u8) D, wr := [(b, none)] }))
    (hp : clsOf cq ⟨some d, .convert t t x, ty, pos, af, g⟩ ≠ .pure := by decide) (hq : clsOf cq ⟨some d, .convert t t x, ty, pos, af, g⟩ ≠ .quiet := by decide) (hft : footB (clsOf cq ⟨some d, .convert t t x, ty, pos, af, g⟩) [(b, .cells (encC (eI .u8) D))] { v := sS (some false) (eI .u8) D, wr := [(b, none)] } = true := by rfl) : rexec E cq n ⟨some d, .convert t t x, ty, pos, af, g⟩ st K := by
  subst hm
  refine ⟨h1, [.sl b 0 D.length s tt], [(b, .cells (encC (eI .u8) D))], _, { vals := ?_, deps := ?_, fresh := fun _ h => (by cases h), does := does_convOwn C.tab rfl (dst_lt C h1) hr hdesc hre hu (ps := encL (eI .u8) D), reach := ?_, inV := rfl, inN := fun _ h => (by cases h), inW := ?_, wr := ?_, pure := fun h => absurd h hp, quiet := fun h => absurd h hq, foot := hft }, h7⟩
  · show evls st.S [x] = _
    simp only [evls, hx]
  · intro q hq; simp only [List.mem_singleton] at hq; subst hq; exact hb
  · simp [reachB, refs, AV.withinL, AV.within]
  · intro q hq k' hk'
    simp only [List.mem_singleton] at hq
    subst hq
    cases hk'
  · intro q hq
    simp only [List.mem_singleton] at hq
    subst hq
    simp [refs, AV.withinL, AV.within]
end
end Go.Am
namespace Go.Am
section
variable {E : Env} {T : Tab} {n : Nat} {cq : Oper → Cls}
end
end Go.Am
namespace Go.Am
section
variable {E : Env} {T : Tab} {n : Nat} {cq : Oper → Cls}
end
end Go.Am
namespace Go.Am
section
variable {E : Env} {T : Tab} {cq : Oper → Cls} {n : Nat}
end
end Go.Am
namespace Go.Am
section steps
variable {E : Env} {T : Tab} {cq : Oper → Cls} {n : Nat} {ops : Array Oper}
/-- A call that is handed an object, block 0, and the blocks that it names; what these hold leads nowhere. -/
structure ObjCallsR (P : Program) (f : FuncId) (avs : List AV) (cs : List AV) (Bs : List (Nat × Blk)) (av : AV) (cs' : List AV) (Bs' : List (Nat × Blk)) : Prop where
  fn : ∃ fn, P.funcs[f]? = some fn ∧ (fn.name == "runtime.NumGoroutine") = false ∧ fn.body.isNone = false
  args : AV.withinL (inI (0 :: Bs.map (·.1))) avs = true
  c0 : AV.withinL (inI (0 :: Bs.map (·.1))) cs = true
  b0 : ∀ x ∈ Bs, x.2.within (fun _ => false) = true
  nd : (0 :: Bs.map (·.1)).Nodup
  res : av.within (inI (0 :: Bs'.map (·.1))) = true
  c1 : AV.withinL (inI (0 :: Bs'.map (·.1))) cs' = true
  b1 : ∀ x ∈ Bs', x.2.within (fun _ => false) = true
  nd' : (0 :: Bs'.map (·.1)).Nodup
  calls : ACalls P f (0 :: Bs.map (·.1)) avs ((0, .cells cs) :: Bs) av ((0, .cells cs') :: Bs')
theorem ObjCallsR.of_body {P : Program} {T : Tab} (hT : TabOk P T) {f : FuncId} {fn : Func} {body : Code} (hf : P.funcs[f]? = some fn) (hb : fn.body = some body) (hn : (fn.name == "runtime.NumGoroutine") = false) {avs cs cs' : List AV} {Bs Bs' : List (Nat × Blk)} {av : AV} (hl : decide (avs.length ≤ fn.ntmps) = true)
    (args : AV.withinL (inI (0 :: Bs.map (·.1))) avs = true) (c0 : AV.withinL (inI (0 :: Bs.map (·.1))) cs = true) (b0 : ∀ x ∈ Bs, x.2.within (fun _ => false) = true) (nd : (0 :: Bs.map (·.1)).Nodup) (res : av.within (inI (0 :: Bs'.map (·.1))) = true)
    (c1 : AV.withinL (inI (0 :: Bs'.map (·.1))) cs' = true) (b1 : ∀ x ∈ Bs', x.2.within (fun _ => false) = true) (nd' : (0 :: Bs'.map (·.1)).Nodup) (hm : P.follows .mixedOrders = true)
    (h : ∀ E : Env, E.P = P → Cx E T fn.ntmps → E.I = 0 :: Bs.map (·.1) → Awp E body (entry avs ((0, .cells cs) :: Bs) (0 :: Bs.map (·.1))) fun e st => (e = .ret ∨ e = .normal) ∧ resAV T st fn.results.toList = some av ∧ st.H 0 = some (.cells cs') ∧ eqsH st.H Bs') : ObjCallsR P f avs cs Bs av cs' Bs' where
  fn := ⟨fn, hf, hn, by simp [hb]⟩
  args := args
  c0 := c0
  b0 := b0
  nd := nd
  res := res
  c1 := c1
  b1 := b1
  nd' := nd'
  calls := ACalls.of_body hT hf hb (by simpa using hl) fun E hP hE hI => (h E hP ⟨hP ▸ hT, hE, hP ▸ hm⟩ hI).mono fun e st ⟨h1, h2, h3, h4⟩ => ⟨h1, h2, fun x hx => by
    rcases List.mem_cons.1 hx with rfl | hx
    · exact h3
    · exact eqsH_mem h4 x hx⟩
/-- What such a call does at the caller's: σ names the blocks that are handed in, L those that are new. -/
def objDeltaR (σ : Nat → Nat) (L : List (Nat × Nat)) (I : List Nat) (Bs : List (Nat × Blk)) (av : AV) (cs' : List AV) (Bs' : List (Nat × Blk)) : Delta where
  v := av.ren (Names.τ ⟨σ, L⟩ I)
  new := L.map fun x => (x.1, ((heapOf Bs' x.2).getD (.cells [])))
  wr := (σ 0, some (.cells (AV.renL (Names.τ ⟨σ, L⟩ I) cs'))) :: Bs.map fun x => (σ x.1, heapOf Bs' x.1)
theorem rexec_callObjR {P : Program} (hP : E.P = P) (C : Cx E T n) {f : FuncId} {avs args cs cs' : List AV} {Bs Bs' : List (Nat × Blk)} {av : AV} {d : Option Nat} {c : Call} {ty : TypeId} {pos : String} {af : Array Edge} {g : Option (Nat × Bool)} {st : St} {K : St → Prop}
    (σ : Nat → Nat) (L : List (Nat × Nat)) (h1 : dstB n ⟨d, .call c, ty, pos, af, g⟩ = true) (hc : c.callee = .value (.func f)) (hv : evls st.S c.args.toList = some args)
    (F : ObjCallsR P f avs cs Bs av cs' Bs') (ha : AV.renL σ avs = args) (hb : st.H (σ 0) = some (.cells (AV.renL σ cs))) (hBs : eqsH st.H (Bs.map fun x => (σ x.1, x.2))) (hinj : ((0 :: Bs.map (·.1)).map σ).Nodup) (hU : (L.all fun x => !st.U x.1) = true)
    (hL1 : (L.map (·.1)).Nodup) (hL2 : (L.map (·.2)).Nodup) (hL3 : ∀ x ∈ L, inI (0 :: Bs.map (·.1)) x.2 = false) (hL4 : ∀ x ∈ L, (heapOf Bs' x.2).isSome = true) (hL5 : ∀ x ∈ Bs', Names.knows ⟨σ, L⟩ (0 :: Bs.map (·.1)) x.1 = true)
    (h7 : K (st.after d (objDeltaR σ L (0 :: Bs.map (·.1)) Bs av cs' Bs')))
    (hreach : refs (.fn f [] [] :: args) [] (σ 0) = true) (hrb : ∀ x ∈ Bs, AV.withinL (· != σ x.1) (args ++ AV.renL σ cs) = false)
    (hp : clsOf cq ⟨d, .call c, ty, pos, af, g⟩ ≠ .pure := by decide) (hq : clsOf cq ⟨d, .call c, ty, pos, af, g⟩ ≠ .quiet := by decide)
    (hft : footB (clsOf cq ⟨d, .call c, ty, pos, af, g⟩) ((σ 0, .cells (AV.renL σ cs)) :: Bs.map fun x => (σ x.1, x.2)) (objDeltaR σ L (0 :: Bs.map (·.1)) Bs av cs' Bs') = true := by rfl) : rexec E cq n ⟨d, .call c, ty, pos, af, g⟩ st K := by
  subst hP
  obtain ⟨fn, q1, q2, q3⟩ := F.fn
  have hd : ∀ x, d = some x → x < E.n := dst_lt C h1
  have hnone : ∀ (U : Nat → Bool) (b : Nat), (fun _ : Nat => false) b = true → U b = true := fun _ _ h => by cases h
  have hI0 : inI (0 :: Bs.map (·.1)) 0 = true := by simp [inI]
  have hIB : ∀ x ∈ Bs, inI (0 :: Bs.map (·.1)) x.1 = true := fun x hx => by
    simp only [inI, List.contains_iff_mem]
    exact List.mem_cons_of_mem _ (List.mem_map.2 ⟨x, hx, rfl⟩)
  have h0B : ∀ x ∈ Bs, x.1 ≠ 0 := fun x hx e => by
    have := (List.nodup_cons.1 F.nd).1
    exact this (List.mem_map.2 ⟨x, hx, e⟩)
  have h0B' : ∀ x ∈ Bs', x.1 ≠ 0 := fun x hx e => by
    have := (List.nodup_cons.1 F.nd').1
    exact this (List.mem_map.2 ⟨x, hx, e⟩)
  have hinj' : ∀ b c, inI (0 :: Bs.map (·.1)) b = true → inI (0 :: Bs.map (·.1)) c = true → σ b = σ c → b = c := fun b c hb hc e => by
    simp only [inI, List.contains_iff_mem] at hb hc
    exact inj_of_nodup hinj hb hc e
  have hknow0 : Names.knows ⟨σ, L⟩ (0 :: Bs.map (·.1)) 0 = true := by simp [Names.knows, hI0]
  have ok : CallOk ⟨σ, L⟩ (0 :: Bs.map (·.1)) avs ((0, .cells cs) :: Bs) ((0, .cells cs') :: Bs') av := by
    refine { args := F.args, ids := ?_, blks := ?_, nodup := by simpa using F.nd, inj := hinj', nodupL := hL1, nodupR := hL2, fresh := hL3, res := ?_, res' := ?_, kept := ?_, all := ?_, used := ?_ }
    · intro x hx
      rcases List.mem_cons.1 hx with rfl | hx
      · exact hI0
      · exact hIB x hx
    · intro x hx
      rcases List.mem_cons.1 hx with rfl | hx
      · exact F.c0
      · exact Blk.within_mono (hnone _) _ (F.b0 x hx)
    · refine AV.within_mono (fun b hb => ?_) av F.res
      simp only [inI, List.contains_iff_mem, List.mem_cons] at hb
      rcases hb with rfl | hb
      · exact hknow0
      · obtain ⟨y, hy, rfl⟩ := List.mem_map.1 hb
        exact hL5 y hy
    · intro x hx
      rcases List.mem_cons.1 hx with rfl | hx
      · refine ⟨hknow0, AV.withinL_mono (fun b hb => ?_) cs' F.c1⟩
        simp only [inI, List.contains_iff_mem, List.mem_cons] at hb
        rcases hb with rfl | hb
        · exact hknow0
        · obtain ⟨y, hy, rfl⟩ := List.mem_map.1 hb
          exact hL5 y hy
      · exact ⟨hL5 x hx, Blk.within_mono (hnone _) _ (F.b1 x hx)⟩
    · intro x hx hI
      simp only [inI, List.contains_iff_mem, List.mem_cons] at hI
      rcases hI with h0 | hI
      · exact ⟨.cells cs, by rw [h0]; exact List.mem_cons_self ..⟩
      · obtain ⟨y, hy, e⟩ := List.mem_map.1 hI
        exact ⟨y.2, List.mem_cons_of_mem _ (by rw [← e]; exact hy)⟩
    · intro x hx
      have hne : x.2 ≠ 0 := fun e => by
        have := hL3 x hx
        rw [e, hI0] at this; cases this
      rw [heapOf_cons_ne hne]; exact hL4 x hx
    · intro b hb
      simp only [inI, List.contains_iff_mem, List.mem_cons] at hb
      rcases hb with rfl | hb
      · exact .inr rfl
      · obtain ⟨y, hy, rfl⟩ := List.mem_map.1 hb
        right
        rw [heapOf_cons_ne (h0B y hy)]
        have := lookup_of_mem (l := Bs) (x := y) (List.nodup_cons.1 F.nd).2 hy
        simp only [heapOf, this]; rfl
  have hdo := does_call (E := E) (o := ⟨d, .call c, ty, pos, af, g⟩) (c := c) rfl hc hd q1 q2 q3 F.calls ok (args := args) (caps := []) (by simpa using ha)
  have pure1 : ∀ x, heapOf Bs' x = none ∨ ∃ k, heapOf Bs' x = some k ∧ k.within (fun _ => false) = true := fun x => by
    cases e : heapOf Bs' x with
    | none => exact .inl rfl
    | some k => exact .inr ⟨k, rfl, F.b1 (x, k) (lookup_mem (l := Bs') e)⟩
  have hren : ∀ (τ : Nat → Nat) x, (heapOf Bs' x).map (·.ren τ) = heapOf Bs' x := fun τ x => by
    rcases pure1 x with h | ⟨k, h, hk⟩
    · rw [h]; rfl
    · rw [h, Option.map_some, Blk.ren_none hk]
  have hH : (((0, Blk.cells cs) :: Bs).map fun x => (σ x.1, x.2.ren σ)) = (σ 0, .cells (AV.renL σ cs)) :: Bs.map fun x => (σ x.1, x.2) := by
    rw [List.map_cons]
    congr 1
    exact List.map_congr_left fun x hx => by rw [Blk.ren_none (F.b0 x hx)]
  have he : Names.delta ⟨σ, L⟩ (0 :: Bs.map (·.1)) ((0, .cells cs) :: Bs) ((0, .cells cs') :: Bs') av = objDeltaR σ L (0 :: Bs.map (·.1)) Bs av cs' Bs' := by
    unfold Names.delta objDeltaR
    congr 1
    · refine List.map_congr_left fun x hx => ?_
      have hne : x.2 ≠ 0 := fun e => by
        have := hL3 x hx
        rw [e, hI0] at this; cases this
      rw [heapOf_cons_ne hne]
      obtain ⟨k, hk⟩ := Option.isSome_iff_exists.1 (hL4 x hx)
      have := hren (Names.τ ⟨σ, L⟩ (0 :: Bs.map (·.1))) x.2
      rw [hk] at this ⊢
      simp only [Option.map_some, Option.some.injEq] at this
      simp only [Option.getD_some, this]
    · rw [List.map_cons]
      congr 1
      refine List.map_congr_left fun x hx => ?_
      rw [heapOf_cons_ne (h0B x hx), hren]
  rw [he] at hdo
  have hdo' : Does E ⟨d, .call c, ty, pos, af, g⟩ (.fn f [] [] :: args) ((σ 0, .cells (AV.renL σ cs)) :: Bs.map fun x => (σ x.1, x.2)) (objDeltaR σ L (0 :: Bs.map (·.1)) Bs av cs' Bs') := by
    rw [← hH]; exact hdo
  have hops : (Op.operands (.call c)).toList = .func f :: c.args.toList := by simp [Op.operands, Call.operands, hc]
  have hr0 : ∀ hs, refs (.fn f [] [] :: args) hs (σ 0) = true := fun hs => by
    simp only [refs, Bool.or_eq_true] at hreach ⊢
    rcases hreach with h | h
    · exact .inl h
    · simp at h
  have hrB : ∀ x ∈ Bs, ∀ hs, (σ 0, Blk.cells (AV.renL σ cs)) ∈ hs → refs (.fn f [] [] :: args) hs (σ x.1) = true := fun x hx hs hm => by
    have h := hrb x hx
    simp only [refs, Bool.or_eq_true, Bool.not_eq_true', List.any_eq_true]
    have key : AV.withinL (· != σ x.1) args = false ∨ AV.withinL (· != σ x.1) (AV.renL σ cs) = false := by
      cases e1 : AV.withinL (· != σ x.1) args
      · exact .inl rfl
      · cases e2 : AV.withinL (· != σ x.1) (AV.renL σ cs)
        · exact .inr rfl
        · have : AV.withinL (· != σ x.1) (args ++ AV.renL σ cs) = true := AV.withinL_of fun y hy => by
            rcases List.mem_append.1 hy with hy | hy
            · exact AV.withinL_mem e1 y hy
            · exact AV.withinL_mem e2 y hy
          rw [this] at h; cases h
    rcases key with h | h
    · left; simp only [AV.withinL, h, Bool.and_false]
    · right; exact ⟨_, hm, by simpa [Blk.within] using h⟩
  have hrAll : reachB (.fn f [] [] :: args) [] ((σ 0, .cells (AV.renL σ cs)) :: Bs.map fun x => (σ x.1, x.2)) = true := by
    have key : ∀ (bs : List (Nat × Blk)) (seen : List (Nat × Blk)), (∀ x ∈ bs, x ∈ Bs) → (σ 0, Blk.cells (AV.renL σ cs)) ∈ seen → reachB (.fn f [] [] :: args) seen (bs.map fun x => (σ x.1, x.2)) = true := by
      intro bs
      induction bs with
      | nil => intro _ _ _; rfl
      | cons y bs ih =>
        intro seen hb hm
        simp only [List.map_cons, reachB, Bool.and_eq_true]
        exact ⟨hrB y (hb y (List.mem_cons_self ..)) seen hm, ih _ (fun x hx => hb x (List.mem_cons_of_mem _ hx)) (List.mem_cons_of_mem _ hm)⟩
    simp only [reachB, Bool.and_eq_true]
    exact ⟨hr0 [], key Bs _ (fun _ h => h) (List.mem_cons_self ..)⟩
  have hknown : ∀ b, inI (0 :: Bs'.map (·.1)) b = true → ((objDeltaR σ L (0 :: Bs.map (·.1)) Bs av cs' Bs').new.lookup (Names.τ ⟨σ, L⟩ (0 :: Bs.map (·.1)) b)).isSome = true ∨ refs (.fn f [] [] :: args) ((σ 0, .cells (AV.renL σ cs)) :: Bs.map fun x => (σ x.1, x.2)) (Names.τ ⟨σ, L⟩ (0 :: Bs.map (·.1)) b) = true := fun b hb => by
    have hk : Names.knows ⟨σ, L⟩ (0 :: Bs.map (·.1)) b = true := by
      simp only [inI, List.contains_iff_mem, List.mem_cons] at hb
      rcases hb with rfl | hb
      · exact hknow0
      · obtain ⟨y, hy, rfl⟩ := List.mem_map.1 hb
        exact hL5 y hy
    cases hi : inI (0 :: Bs.map (·.1)) b with
    | true =>
      right
      have e : Names.τ ⟨σ, L⟩ (0 :: Bs.map (·.1)) b = σ b := by simp only [Names.τ, hi, if_true]
      rw [e]
      simp only [inI, List.contains_iff_mem, List.mem_cons] at hi
      rcases hi with rfl | hi
      · exact hr0 _
      · obtain ⟨y, hy, rfl⟩ := List.mem_map.1 hi
        exact hrB y hy _ (List.mem_cons_self ..)
    | false =>
      left
      simp only [Names.knows, hi, Bool.false_or, List.any_eq_true, beq_iff_eq] at hk
      obtain ⟨y, hy, rfl⟩ := hk
      have e : Names.τ ⟨σ, L⟩ (0 :: Bs.map (·.1)) y.2 = y.1 := by
        simp only [Names.τ, hi, Bool.false_eq_true, if_false, find_snd hL2 hy]; rfl
      rw [e]
      have : (L.map fun x => (x.1, (heapOf Bs' x.2).getD (.cells []))).lookup y.1 = some ((heapOf Bs' y.2).getD (.cells [])) :=
        lookup_of_mem (l := L.map fun x => (x.1, (heapOf Bs' x.2).getD (.cells []))) (x := (y.1, (heapOf Bs' y.2).getD (.cells []))) (by rw [List.map_map]; exact hL1) (List.mem_map.2 ⟨y, hy, rfl⟩)
      show ((L.map fun x => (x.1, (heapOf Bs' x.2).getD (.cells []))).lookup y.1).isSome = true
      rw [this]; rfl
  refine ⟨h1, .fn f [] [] :: args, _, _, { vals := ?_, deps := ?_, fresh := ?_, does := hdo', reach := hrAll, inV := ?_, inN := ?_, inW := ?_, wr := ?_, pure := fun h => absurd h hp, quiet := fun h => absurd h hq, foot := hft }, h7⟩
  · show evls st.S (Op.operands (.call c)).toList = _
    rw [hops]; simp only [evls, evl, hv]
  · intro x hx
    rcases List.mem_cons.1 hx with rfl | hx
    · exact hb
    · exact eqsH_mem hBs x hx
  · intro x hx
    obtain ⟨y, hy, rfl⟩ := List.mem_map.1 hx
    have := List.all_eq_true.1 hU y hy
    simpa using this
  · refine AV.within_ren (fun b hb => ?_) av F.res
    have := hknown b hb
    simpa using this
  · intro x hx
    obtain ⟨y, hy, rfl⟩ := List.mem_map.1 hx
    rcases pure1 y.2 with h | ⟨k, h, hk⟩
    · rw [h]; rfl
    · show ((heapOf Bs' y.2).getD _).within _ = true
      rw [h]; exact Blk.within_mono (hnone _) _ hk
  · intro x hx k hk
    rcases List.mem_cons.1 hx with rfl | hx
    · obtain rfl := Option.some.inj hk
      refine AV.withinL_ren (fun b hb => ?_) cs' F.c1
      have := hknown b hb
      simpa using this
    · obtain ⟨y, hy, rfl⟩ := List.mem_map.1 hx
      rcases pure1 y.1 with h | ⟨k', h, hk'⟩
      · have hk : heapOf Bs' y.1 = some k := hk
        rw [h] at hk; cases hk
      · have hk : heapOf Bs' y.1 = some k := hk
        rw [h] at hk
        obtain rfl := Option.some.inj hk
        exact Blk.within_mono (hnone _) _ hk'
  · intro x hx
    simp only [Bool.or_eq_true]
    right
    rcases List.mem_cons.1 hx with rfl | hx
    · exact hr0 _
    · obtain ⟨y, hy, rfl⟩ := List.mem_map.1 hx
      exact hrB y hy _ (List.mem_cons_self ..)
end steps
section conv
variable {E : Env} {T : Tab} {cq : Oper → Cls} {n : Nat}
theorem does_convR (hT : TabOk E.P T) {o : Oper} {src dst : TypeId} {x : Operand} (ho : o.op = .convert src dst x) (hd : ∀ d, o.dst = some d → d < E.n) {rs rd re : TyRow} {e : TypeId} (h1 : T.lookup src = some rs) (h2 : T.lookup dst = some rd) (hs : rs.desc = .slice e) (he : T.lookup e = some re) (hre : re.desc = .int .u8) (hk : rd.desc = .string) {b s : Nat} {tt : Bool} {D : List Int} :
    Does E o [.sl b 0 D.length s tt] [(b, .cells (encC (eI .u8) D))] { v := .pv (.lit (.string (strOf D))) } := by
  refine Does.value hd fun ι imm st a w hsr hv hh => ?_
  rw [ho] at hv
  simp only [Op.operands, List.map_cons, List.map_nil] at hv
  have h := hv.one
  have hb := hh _ (List.mem_cons_self ..)
  obtain ⟨r0, z, q1, q2, q3, c, ec, f, q4, q5, q6, q7⟩ := hsr.heap.blk b _ hb
  simp only [VH] at h
  obtain ⟨r', z', cap, i1, i2, i3, _⟩ := h
  rw [q1] at i1
  simp only [Option.some.injEq, Prod.mk.injEq] at i1
  obtain ⟨rfl, rfl⟩ := i1
  refine ⟨.string (strOf D), ?_, by simp [VH, PH, flatB]⟩
  simp only [execOp, ho, i2, convert, run_bind', run_underlying hT h1, run_underlying hT h2, hs, hk, run_underlying hT he, hre]
  have key : ∃ vs : List Value, (loadCells ⟨r0, z + 0, none⟩ D.length).run E.P w = .ok vs.toArray w ∧ vs = D.map fun x => Value.int .u8 x := by
    have p3 : PHs imm w (pI .u8 D) r0 (z + 0) := by
      have q7' : CellsH ι imm w c ((pI .u8 D).map .pv) z := by
        have e1 : (pI .u8 D).map AV.pv = encC (eI .u8) D := by simp only [encC, eI_L]
        rw [e1]; exact q7
      exact PHs.of_cells (Stays.refl imm w) (fun o => cell_of_heap q4 o) q7'
    obtain ⟨vs, r1, r2⟩ := p3.vals ι
    rw [pI_pv] at r1
    have e := vhs_ints r1
    have hl : vs.length = D.length := by rw [e]; simp
    refine ⟨vs, ?_, e⟩
    rw [← hl]
    exact run_loadCells vs r2
  obtain ⟨vs, k1, k2⟩ := key
  simp only [Conv.bytesToString, run_bind', k1, k2]
  have := run_bytesLoop (P := E.P) D ByteArray.empty w
  rw [List.forIn_toArray]
  erw [this]
  simp only [run_pure']
  have e : (⟨ByteArray.empty.data ++ (List.map (fun x => UInt8.ofNat x.toNat) D).toArray⟩ : ByteArray) = strOf D := by
    simp [strOf, ByteArray.empty, ByteArray.emptyWithCapacity]
    rfl
  rw [e]
theorem rexec_convR (C : Cx E T n) {d : Option Nat} {src dst : TypeId} {x : Operand} {ty : TypeId} {pos : String} {af : Array Edge} {g : Option (Nat × Bool)} {st : St} {K : St → Prop} {b m s : Nat} {tt : Bool} {D : List Int} {rs rd re : TyRow} {e : TypeId} (h1 : dstB n ⟨d, .convert src dst x, ty, pos, af, g⟩ = true)
    (h2 : evl st.S x = some (.sl b 0 m s tt)) (hb : st.H b = some (.cells (encC (eI .u8) D))) (hm : m = D.length) (hs : T.lookup src = some rs) (hd : T.lookup dst = some rd) (hsd : rs.desc = .slice e) (he : T.lookup e = some re) (hre : re.desc = .int .u8) (hk : rd.desc = .string) (h7 : K (st.after d { v := .pv (.lit (.string (strOf D))) }))
    (hp : clsOf cq ⟨d, .convert src dst x, ty, pos, af, g⟩ ≠ .pure := by decide) (hft : footB (clsOf cq ⟨d, .convert src dst x, ty, pos, af, g⟩) [(b, .cells (encC (eI .u8) D))] { v := .pv (.lit (.string (strOf D))) } = true := by rfl) : rexec E cq n ⟨d, .convert src dst x, ty, pos, af, g⟩ st K := by
  subst hm
  have hd' : ∀ x, d = some x → x < E.n := fun x e => by
    simp only [dstB, e, decide_eq_true_eq] at h1
    exact C.n ▸ h1
  refine ⟨h1, [.sl b 0 D.length s tt], [(b, .cells (encC (eI .u8) D))], _, { vals := ?_, deps := ?_, fresh := fun _ h => (by cases h), does := does_convR C.tab rfl hd' hs hd hsd he hre hk, reach := ?_, inV := rfl, inN := fun _ h => (by cases h), inW := fun _ h => (by cases h), wr := fun _ h => (by cases h), pure := fun h => absurd h hp, quiet := fun _ => rfl, foot := hft }, h7⟩
  · show evls st.S [x] = _
    simp only [evls, h2]
  · intro q hq; simp only [List.mem_singleton] at hq; subst hq; exact hb
  · simp [reachB, refs, AV.withinL, AV.within]
end conv
theorem phs_lits {ι : Nat → Option (Nat × Nat)} {i j : Nat → Prop} {w : World} {c : Array Value} {r : Nat} (hc : ∀ o, w.cell? ⟨r, o, none⟩ = c[o]?) : ∀ {qs : List PV} {o : Nat}, (∀ q ∈ qs, ∃ v, q = .lit v) → CellsH ι i w c (qs.map .pv) o → PHs j w qs r o
  | [], _, _, _ => trivial
  | q :: qs, o, hl, h => by
    obtain ⟨⟨v, h1, h2⟩, h3⟩ := h
    obtain ⟨a, rfl⟩ := hl q List.mem_cons_self
    refine ⟨⟨v, (hc o).trans h1, ?_⟩, phs_lits hc (fun q hq => hl q (List.mem_cons_of_mem _ hq)) h3⟩
    simp only [VH, PH] at h2 ⊢
    exact h2
theorem MCalls.of_OCalls {P : Program} {f : FuncId} {avs avs' : List AV} {ps qs : List PV} {m s : Nat} {tt : Bool} (F : OCalls P f avs (.sl 0 0 m s tt) (.cells (qs.map .pv))) (hq : ∀ q ∈ qs, ∃ v, q = .lit v) (hL : FrzL 0 ps avs' avs) (hin : AV.withinL (fun b => b == 0) avs' = true) : MCalls P f avs' (.cells (ps.map .pv)) (.pv (.sl (some false) m qs)) (.cells (ps.map .pv)) where
  fn := F.fn
  args := hin
  res := rfl
  blk := within_pvs _ _
  blk' := within_pvs _ _
  calls := by
    intro ι imm w M vs hH hv himm hdom
    obtain ⟨r, z, i1, i2, i3, c, e, f', q4, q5, q6, q7⟩ := hH.blk 0 (.cells (ps.map .pv)) rfl
    have hlt : r < w.heap.size := by
      rcases Nat.lt_or_ge r w.heap.size with h' | h'
      · exact h'
      · rw [Array.getElem?_eq_none h'] at q4; cases q4
    let imm' : Nat → Prop := fun k => imm k ∨ k = r
    have g0 : Grows ι ι imm imm' w w := ⟨fun _ _ h => h, ⟨fun _ hk => .inl hk, fun _ _ => rfl⟩, fun r c e f hr => ⟨c, f, hr, rfl⟩⟩
    have h0 : ∀ x y v, Frz0 0 ps x y → VH ι imm' w x v → VH ι imm' w y v := fun x y v hf hx => by
      rcases hf with rfl | ⟨m, s, tt, rfl, rfl⟩
      · exact hx
      · simp only [VH] at hx
        obtain ⟨r', z', cap, j1, j2, j3, _⟩ := hx
        rw [i1] at j1
        simp only [Option.some.injEq, Prod.mk.injEq] at j1
        obtain ⟨rfl, rfl⟩ := j1
        rw [j2]
        simp only [VH, PH]
        refine ⟨_, cap, rfl, j3, fun h => (by simp at h), fun _ h => (by simp at h), fun h => (by simp at h), fun A hA _ => ?_⟩
        simp only [Option.some.injEq] at hA
        subst hA
        exact ⟨rfl, .inr rfl, PHs.of_cells (i := imm) (ι := ι) (w := w) ⟨fun _ hk => .inl hk, fun _ _ => rfl⟩ (fun o => cell_of_heap q4 o) q7⟩
    have hv1 : VHs ι imm' w avs vs := FrzL.vhs h0 hL (VHs.grows g0 _ _ hv)
    have hv2 : VHs (fun _ => none) imm' w avs vs := VHs.lone F.args hv1
    refine (F.calls (fun _ => none) imm' w (fun _ => False) vs ⟨fun b k hb => (by cases hb), fun b b' k k' r z z' hb => (by cases hb)⟩ hv2 (fun k hk => hk.elim (himm k) fun e => e ▸ hlt) (fun b x hx => by cases hx)).mono ?_
    rintro e' w' ⟨v, ι', imm'', he, hvv, g, hext, hHR, _, _⟩
    obtain ⟨r1, z1, k1, k2, k3, c1, e1, f1, k4, k5, k6, k7⟩ := hHR.blk 0 (.cells (qs.map .pv)) rfl
    have hr1 : w.heap.size ≤ r1 := k3.elim (fun ⟨b, q, y, h1, _⟩ => by cases h1) id
    have hlt1 : r1 < w'.heap.size := by
      rcases Nat.lt_or_ge r1 w'.heap.size with h' | h'
      · exact h'
      · rw [Array.getElem?_eq_none h'] at k4; cases k4
    simp only [VH] at hvv
    obtain ⟨r2, z2, cap, l1, rfl, l3, _⟩ := hvv
    rw [k1] at l1
    simp only [Option.some.injEq, Prod.mk.injEq] at l1
    obtain ⟨rfl, rfl⟩ := l1
    let immF : Nat → Prop := fun k => imm k ∨ k = r1
    have hst : Stays imm immF w w' := ⟨fun _ h => .inl h, fun k hk => g.stays.same k (.inl hk)⟩
    have g1 : Grows ι ι imm immF w w' := ⟨fun _ _ h => h, hst, g.rows⟩
    have hb : BlkH ι imm w r z (.cells (ps.map .pv)) := ⟨c, e, f', q4, q5, q6, q7⟩
    refine ⟨_, ι, immF, he, ?_, g1, ⟨hext.os, hext.tape, hext.output, hext.size, fun k hk hR => hext.block k hk fun ⟨b, q, y, h1, _⟩ => (by cases h1), hext.drawn⟩, ⟨fun b k hk => ?_, fun b b' k k' r z z' h1 h2 _ _ => ?_⟩, fun k hk => hk.elim .inl fun e => .inr (.inr (e ▸ hr1)), fun k hk => hk.elim (fun h => Nat.lt_of_lt_of_le (himm k h) hext.size) fun e => e ▸ hlt1⟩
    · simp only [VH, PH]
      refine ⟨_, cap, rfl, l3, fun h => (by simp at h), fun _ h => (by simp at h), fun h => (by simp at h), fun A hA _ => ?_⟩
      simp only [Option.some.injEq] at hA
      subst hA
      exact ⟨rfl, .inr rfl, phs_lits (fun o => cell_of_heap k4 o) hq k7⟩
    · have hb0 : b = 0 ∧ k = .cells (ps.map .pv) := by
        unfold heapOf at hk
        simp only [List.lookup] at hk
        split at hk
        · rename_i h; exact ⟨by simpa using h, (Option.some.inj hk).symm⟩
        · cases hk
      obtain ⟨rfl, rfl⟩ := hb0
      exact ⟨r, z, i1, fun hi => hi.elim i2 fun e => by omega, .inl ⟨0, _, z, rfl, i1⟩, hb.grows g1 (g.stays.same r (.inr rfl))⟩
    · have e0 : ∀ {b : Nat} {k : Blk}, heapOf [(0, Blk.cells (ps.map .pv))] b = some k → b = 0 := fun {b k} hk => by
        unfold heapOf at hk
        simp only [List.lookup] at hk
        split at hk
        · rename_i h; simpa using h
        · cases hk
      rw [e0 h1, e0 h2]
end Go.Am
namespace Go.Am
section
variable {H : Type} {enc : TypeId × Value → H} {P : Program} {w : World} {base : Nat} {spare : Nat → Bool} {held : Bool}
end
end Go.Am
namespace Go.Proofs.Ytpeeofofagfooaa
open Go.Am
def tab : Tab := [
  (3, ⟨.int .i64, 1, 8, .int .i64 0, false⟩),
  (4, ⟨.bool, 1, 1, .bool false, false⟩),
  (5, ⟨.int .u8, 1, 1, .int .u8 0, false⟩),
  (9, ⟨.string, 1, 16, .string ⟨#[]⟩, false⟩),
  (22, ⟨.slice 33, 1, 24, .slice none 0 0, false⟩),
  (25, ⟨.pointer 64, 1, 8, .pointer none, false⟩),
  (27, ⟨.map 39 3, 1, 8, .map none, false⟩),
  (28, ⟨.struct #[{ name := "From", type := 3, offset := 0, embedded := false, tag := "", pkgPath := "", byteOffset := 0 }, { name := "To", type := 3, offset := 1, embedded := false, tag := "", pkgPath := "", byteOffset := 8 }], 2, 16, .agg #[.int .i64 0, .int .i64 0], true⟩),
  (29, ⟨.struct #[{ name := "From", type := 3, offset := 0, embedded := false, tag := "", pkgPath := "", byteOffset := 0 }, { name := "To", type := 3, offset := 1, embedded := false, tag := "", pkgPath := "", byteOffset := 8 }], 2, 16, .agg #[.int .i64 0, .int .i64 0], true⟩),
  (30, ⟨.slice 5, 1, 24, .slice none 0 0, false⟩),
  (31, ⟨.int .u64, 1, 8, .int .u64 0, false⟩),
  (32, ⟨.struct #[{ name := "Op", type := 3, offset := 0, embedded := false, tag := "", pkgPath := "", byteOffset := 0 }, { name := "I", type := 3, offset := 1, embedded := false, tag := "", pkgPath := "", byteOffset := 8 }, { name := "L", type := 29, offset := 2, embedded := false, tag := "", pkgPath := "", byteOffset := 16 }, { name := "B", type := 30, offset := 4, embedded := false, tag := "", pkgPath := "", byteOffset := 32 }, { name := "Side", type := 31, offset := 5, embedded := false, tag := "", pkgPath := "", byteOffset := 56 }], 6, 64, .agg #[.int .i64 0, .int .i64 0, .int .i64 0, .int .i64 0, .slice none 0 0, .int .u64 0], false⟩),
  (33, ⟨.struct #[{ name := "Op", type := 3, offset := 0, embedded := false, tag := "", pkgPath := "", byteOffset := 0 }, { name := "I", type := 3, offset := 1, embedded := false, tag := "", pkgPath := "", byteOffset := 8 }, { name := "L", type := 29, offset := 2, embedded := false, tag := "", pkgPath := "", byteOffset := 16 }, { name := "B", type := 30, offset := 4, embedded := false, tag := "", pkgPath := "", byteOffset := 32 }, { name := "Side", type := 31, offset := 5, embedded := false, tag := "", pkgPath := "", byteOffset := 56 }], 6, 64, .agg #[.int .i64 0, .int .i64 0, .int .i64 0, .int .i64 0, .slice none 0 0, .int .u64 0], false⟩),
  (34, ⟨.int .i64, 1, 8, .int .i64 0, false⟩),
  (37, ⟨.int .u64, 1, 8, .int .u64 0, false⟩),
  (38, ⟨.struct #[{ name := "l", type := 29, offset := 0, embedded := false, tag := "", pkgPath := "towline/towlinelaw04", byteOffset := 0 }, { name := "b", type := 9, offset := 2, embedded := false, tag := "", pkgPath := "towline/towlinelaw04", byteOffset := 16 }], 3, 32, .agg #[.int .i64 0, .int .i64 0, .string ⟨#[]⟩], true⟩),
  (39, ⟨.struct #[{ name := "l", type := 29, offset := 0, embedded := false, tag := "", pkgPath := "towline/towlinelaw04", byteOffset := 0 }, { name := "b", type := 9, offset := 2, embedded := false, tag := "", pkgPath := "towline/towlinelaw04", byteOffset := 16 }], 3, 32, .agg #[.int .i64 0, .int .i64 0, .string ⟨#[]⟩], true⟩),
  (43, ⟨.slice 29, 1, 24, .slice none 0 0, false⟩),
  (47, ⟨.pointer 51, 1, 8, .pointer none, false⟩),
  (48, ⟨.slice 86, 1, 24, .slice none 0 0, false⟩),
  (49, ⟨.array 64 4, 64, 64, .agg #[.bool false, .bool false, .bool false, .bool false, .bool false, .bool false, .bool false, .bool false, .bool false, .bool false, .bool false, .bool false, .bool false, .bool false, .bool false, .bool false, .bool false, .bool false, .bool false, .bool false, .bool false, .bool false, .bool false, .bool false, .bool false, .bool false, .bool false, .bool false, .bool false, .bool false, .bool false, .bool false, .bool false, .bool false, .bool false, .bool false, .bool false, .bool false, .bool false, .bool false, .bool false, .bool false, .bool false, .bool false, .bool false, .bool false, .bool false, .bool false, .bool false, .bool false, .bool false, .bool false, .bool false, .bool false, .bool false, .bool false, .bool false, .bool false, .bool false, .bool false, .bool false, .bool false, .bool false, .bool false], false⟩),
  (50, ⟨.struct #[{ name := "Items", type := 48, offset := 0, embedded := false, tag := "", pkgPath := "", byteOffset := 0 }, { name := "Side", type := 49, offset := 1, embedded := false, tag := "", pkgPath := "", byteOffset := 24 }, { name := "Lost", type := 3, offset := 65, embedded := false, tag := "", pkgPath := "", byteOffset := 88 }], 66, 96, .agg #[.slice none 0 0, .bool false, .bool false, .bool false, .bool false, .bool false, .bool false, .bool false, .bool false, .bool false, .bool false, .bool false, .bool false, .bool false, .bool false, .bool false, .bool false, .bool false, .bool false, .bool false, .bool false, .bool false, .bool false, .bool false, .bool false, .bool false, .bool false, .bool false, .bool false, .bool false, .bool false, .bool false, .bool false, .bool false, .bool false, .bool false, .bool false, .bool false, .bool false, .bool false, .bool false, .bool false, .bool false, .bool false, .bool false, .bool false, .bool false, .bool false, .bool false, .bool false, .bool false, .bool false, .bool false, .bool false, .bool false, .bool false, .bool false, .bool false, .bool false, .bool false, .bool false, .bool false, .bool false, .bool false, .bool false, .int .i64 0], false⟩),
  (51, ⟨.struct #[{ name := "Items", type := 48, offset := 0, embedded := false, tag := "", pkgPath := "", byteOffset := 0 }, { name := "Side", type := 49, offset := 1, embedded := false, tag := "", pkgPath := "", byteOffset := 24 }, { name := "Lost", type := 3, offset := 65, embedded := false, tag := "", pkgPath := "", byteOffset := 88 }], 66, 96, .agg #[.slice none 0 0, .bool false, .bool false, .bool false, .bool false, .bool false, .bool false, .bool false, .bool false, .bool false, .bool false, .bool false, .bool false, .bool false, .bool false, .bool false, .bool false, .bool false, .bool false, .bool false, .bool false, .bool false, .bool false, .bool false, .bool false, .bool false, .bool false, .bool false, .bool false, .bool false, .bool false, .bool false, .bool false, .bool false, .bool false, .bool false, .bool false, .bool false, .bool false, .bool false, .bool false, .bool false, .bool false, .bool false, .bool false, .bool false, .bool false, .bool false, .bool false, .bool false, .bool false, .bool false, .bool false, .bool false, .bool false, .bool false, .bool false, .bool false, .bool false, .bool false, .bool false, .bool false, .bool false, .bool false, .bool false, .int .i64 0], false⟩),
  (61, ⟨.map 29 78, 1, 8, .map none, false⟩),
  (62, ⟨.int .u64, 1, 8, .int .u64 0, false⟩),
  (63, ⟨.struct #[{ name := "of", type := 61, offset := 0, embedded := false, tag := "", pkgPath := "towline/links", byteOffset := 0 }, { name := "side", type := 62, offset := 1, embedded := false, tag := "", pkgPath := "towline/links", byteOffset := 8 }, { name := "lost", type := 3, offset := 2, embedded := false, tag := "", pkgPath := "towline/links", byteOffset := 16 }, { name := "made", type := 4, offset := 3, embedded := false, tag := "", pkgPath := "towline/links", byteOffset := 24 }], 4, 32, .agg #[.map none, .int .u64 0, .int .i64 0, .bool false], false⟩),
  (64, ⟨.struct #[{ name := "of", type := 61, offset := 0, embedded := false, tag := "", pkgPath := "towline/links", byteOffset := 0 }, { name := "side", type := 62, offset := 1, embedded := false, tag := "", pkgPath := "towline/links", byteOffset := 8 }, { name := "lost", type := 3, offset := 2, embedded := false, tag := "", pkgPath := "towline/links", byteOffset := 16 }, { name := "made", type := 4, offset := 3, embedded := false, tag := "", pkgPath := "towline/links", byteOffset := 24 }], 4, 32, .agg #[.map none, .int .u64 0, .int .i64 0, .bool false], false⟩),
  (65, ⟨.slice 25, 1, 24, .slice none 0 0, false⟩),
  (70, ⟨.slice 22, 1, 24, .slice none 0 0, false⟩),
  (77, ⟨.slice 30, 1, 24, .slice none 0 0, false⟩),
  (78, ⟨.slice 30, 1, 24, .slice none 0 0, false⟩),
  (82, ⟨.array 64 4, 64, 64, .agg #[.bool false, .bool false, .bool false, .bool false, .bool false, .bool false, .bool false, .bool false, .bool false, .bool false, .bool false, .bool false, .bool false, .bool false, .bool false, .bool false, .bool false, .bool false, .bool false, .bool false, .bool false, .bool false, .bool false, .bool false, .bool false, .bool false, .bool false, .bool false, .bool false, .bool false, .bool false, .bool false, .bool false, .bool false, .bool false, .bool false, .bool false, .bool false, .bool false, .bool false, .bool false, .bool false, .bool false, .bool false, .bool false, .bool false, .bool false, .bool false, .bool false, .bool false, .bool false, .bool false, .bool false, .bool false, .bool false, .bool false, .bool false, .bool false, .bool false, .bool false, .bool false, .bool false, .bool false, .bool false], false⟩),
  (85, ⟨.struct #[{ name := "L", type := 29, offset := 0, embedded := false, tag := "", pkgPath := "", byteOffset := 0 }, { name := "B", type := 9, offset := 2, embedded := false, tag := "", pkgPath := "", byteOffset := 16 }], 3, 32, .agg #[.int .i64 0, .int .i64 0, .string ⟨#[]⟩], false⟩),
  (86, ⟨.struct #[{ name := "L", type := 29, offset := 0, embedded := false, tag := "", pkgPath := "", byteOffset := 0 }, { name := "B", type := 9, offset := 2, embedded := false, tag := "", pkgPath := "", byteOffset := 16 }], 3, 32, .agg #[.int .i64 0, .int .i64 0, .string ⟨#[]⟩], false⟩),
  (92, ⟨.slice 3, 1, 24, .slice none 0 0, false⟩)]
theorem inf3 : (Try.prog.info? 3).map (fun i => (i.size, i.bytes, i.zero)) = some (1, 8, some (.int .i64 0)) := by kernel_rfl
theorem inf4 : (Try.prog.info? 4).map (fun i => (i.size, i.bytes, i.zero)) = some (1, 1, some (.bool false)) := by kernel_rfl
theorem inf5 : (Try.prog.info? 5).map (fun i => (i.size, i.bytes, i.zero)) = some (1, 1, some (.int .u8 0)) := by kernel_rfl
theorem inf9 : (Try.prog.info? 9).map (fun i => (i.size, i.bytes, i.zero)) = some (1, 16, some (.string ⟨#[]⟩)) := by kernel_rfl
theorem inf22 : (Try.prog.info? 22).map (fun i => (i.size, i.bytes, i.zero)) = some (1, 24, some (.slice none 0 0)) := by kernel_rfl
theorem inf25 : (Try.prog.info? 25).map (fun i => (i.size, i.bytes, i.zero)) = some (1, 8, some (.pointer none)) := by kernel_rfl
theorem inf27 : (Try.prog.info? 27).map (fun i => (i.size, i.bytes, i.zero)) = some (1, 8, some (.map none)) := by kernel_rfl
theorem inf28 : (Try.prog.info? 28).map (fun i => (i.size, i.bytes, i.zero)) = some (2, 16, some (.agg #[.int .i64 0, .int .i64 0])) := by kernel_rfl
theorem inf29 : (Try.prog.info? 29).map (fun i => (i.size, i.bytes, i.zero)) = some (2, 16, some (.agg #[.int .i64 0, .int .i64 0])) := by kernel_rfl
theorem inf30 : (Try.prog.info? 30).map (fun i => (i.size, i.bytes, i.zero)) = some (1, 24, some (.slice none 0 0)) := by kernel_rfl
theorem inf31 : (Try.prog.info? 31).map (fun i => (i.size, i.bytes, i.zero)) = some (1, 8, some (.int .u64 0)) := by kernel_rfl
theorem inf32 : (Try.prog.info? 32).map (fun i => (i.size, i.bytes, i.zero)) = some (6, 64, some (.agg #[.int .i64 0, .int .i64 0, .int .i64 0, .int .i64 0, .slice none 0 0, .int .u64 0])) := by kernel_rfl
theorem inf33 : (Try.prog.info? 33).map (fun i => (i.size, i.bytes, i.zero)) = some (6, 64, some (.agg #[.int .i64 0, .int .i64 0, .int .i64 0, .int .i64 0, .slice none 0 0, .int .u64 0])) := by kernel_rfl
theorem inf34 : (Try.prog.info? 34).map (fun i => (i.size, i.bytes, i.zero)) = some (1, 8, some (.int .i64 0)) := by kernel_rfl
theorem inf37 : (Try.prog.info? 37).map (fun i => (i.size, i.bytes, i.zero)) = some (1, 8, some (.int .u64 0)) := by kernel_rfl
theorem inf38 : (Try.prog.info? 38).map (fun i => (i.size, i.bytes, i.zero)) = some (3, 32, some (.agg #[.int .i64 0, .int .i64 0, .string ⟨#[]⟩])) := by kernel_rfl
theorem inf39 : (Try.prog.info? 39).map (fun i => (i.size, i.bytes, i.zero)) = some (3, 32, some (.agg #[.int .i64 0, .int .i64 0, .string ⟨#[]⟩])) := by kernel_rfl
theorem inf43 : (Try.prog.info? 43).map (fun i => (i.size, i.bytes, i.zero)) = some (1, 24, some (.slice none 0 0)) := by kernel_rfl
theorem inf47 : (Try.prog.info? 47).map (fun i => (i.size, i.bytes, i.zero)) = some (1, 8, some (.pointer none)) := by kernel_rfl
theorem inf48 : (Try.prog.info? 48).map (fun i => (i.size, i.bytes, i.zero)) = some (1, 24, some (.slice none 0 0)) := by kernel_rfl
theorem inf49 : (Try.prog.info? 49).map (fun i => (i.size, i.bytes, i.zero)) = some (64, 64, some (.agg #[.bool false, .bool false, .bool false, .bool false, .bool false, .bool false, .bool false, .bool false, .bool false, .bool false, .bool false, .bool false, .bool false, .bool false, .bool false, .bool false, .bool false, .bool false, .bool false, .bool false, .bool false, .bool false, .bool false, .bool false, .bool false, .bool false, .bool false, .bool false, .bool false, .bool false, .bool false, .bool false, .bool false, .bool false, .bool false, .bool false, .bool false, .bool false, .bool false, .bool false, .bool false, .bool false, .bool false, .bool false, .bool false, .bool false, .bool false, .bool false, .bool false, .bool false, .bool false, .bool false, .bool false, .bool false, .bool false, .bool false, .bool false, .bool false, .bool false, .bool false, .bool false, .bool false, .bool false, .bool false])) := by kernel_rfl
theorem inf50 : (Try.prog.info? 50).map (fun i => (i.size, i.bytes, i.zero)) = some (66, 96, some (.agg #[.slice none 0 0, .bool false, .bool false, .bool false, .bool false, .bool false, .bool false, .bool false, .bool false, .bool false, .bool false, .bool false, .bool false, .bool false, .bool false, .bool false, .bool false, .bool false, .bool false, .bool false, .bool false, .bool false, .bool false, .bool false, .bool false, .bool false, .bool false, .bool false, .bool false, .bool false, .bool false, .bool false, .bool false, .bool false, .bool false, .bool false, .bool false, .bool false, .bool false, .bool false, .bool false, .bool false, .bool false, .bool false, .bool false, .bool false, .bool false, .bool false, .bool false, .bool false, .bool false, .bool false, .bool false, .bool false, .bool false, .bool false, .bool false, .bool false, .bool false, .bool false, .bool false, .bool false, .bool false, .bool false, .bool false, .int .i64 0])) := by kernel_rfl
theorem inf51 : (Try.prog.info? 51).map (fun i => (i.size, i.bytes, i.zero)) = some (66, 96, some (.agg #[.slice none 0 0, .bool false, .bool false, .bool false, .bool false, .bool false, .bool false, .bool false, .bool false, .bool false, .bool false, .bool false, .bool false, .bool false, .bool false, .bool false, .bool false, .bool false, .bool false, .bool false, .bool false, .bool false, .bool false, .bool false, .bool false, .bool false, .bool false, .bool false, .bool false, .bool false, .bool false, .bool false, .bool false, .bool false, .bool false, .bool false, .bool false, .bool false, .bool false, .bool false, .bool false, .bool false, .bool false, .bool false, .bool false, .bool false, .bool false, .bool false, .bool false, .bool false, .bool false, .bool false, .bool false, .bool false, .bool false, .bool false, .bool false, .bool false, .bool false, .bool false, .bool false, .bool false, .bool false, .bool false, .bool false, .int .i64 0])) := by kernel_rfl
theorem inf61 : (Try.prog.info? 61).map (fun i => (i.size, i.bytes, i.zero)) = some (1, 8, some (.map none)) := by kernel_rfl
theorem inf62 : (Try.prog.info? 62).map (fun i => (i.size, i.bytes, i.zero)) = some (1, 8, some (.int .u64 0)) := by kernel_rfl
theorem inf63 : (Try.prog.info? 63).map (fun i => (i.size, i.bytes, i.zero)) = some (4, 32, some (.agg #[.map none, .int .u64 0, .int .i64 0, .bool false])) := by kernel_rfl
theorem inf64 : (Try.prog.info? 64).map (fun i => (i.size, i.bytes, i.zero)) = some (4, 32, some (.agg #[.map none, .int .u64 0, .int .i64 0, .bool false])) := by kernel_rfl
theorem inf65 : (Try.prog.info? 65).map (fun i => (i.size, i.bytes, i.zero)) = some (1, 24, some (.slice none 0 0)) := by kernel_rfl
theorem inf70 : (Try.prog.info? 70).map (fun i => (i.size, i.bytes, i.zero)) = some (1, 24, some (.slice none 0 0)) := by kernel_rfl
theorem inf77 : (Try.prog.info? 77).map (fun i => (i.size, i.bytes, i.zero)) = some (1, 24, some (.slice none 0 0)) := by kernel_rfl
theorem inf78 : (Try.prog.info? 78).map (fun i => (i.size, i.bytes, i.zero)) = some (1, 24, some (.slice none 0 0)) := by kernel_rfl
theorem inf82 : (Try.prog.info? 82).map (fun i => (i.size, i.bytes, i.zero)) = some (64, 64, some (.agg #[.bool false, .bool false, .bool false, .bool false, .bool false, .bool false, .bool false, .bool false, .bool false, .bool false, .bool false, .bool false, .bool false, .bool false, .bool false, .bool false, .bool false, .bool false, .bool false, .bool false, .bool false, .bool false, .bool false, .bool false, .bool false, .bool false, .bool false, .bool false, .bool false, .bool false, .bool false, .bool false, .bool false, .bool false, .bool false, .bool false, .bool false, .bool false, .bool false, .bool false, .bool false, .bool false, .bool false, .bool false, .bool false, .bool false, .bool false, .bool false, .bool false, .bool false, .bool false, .bool false, .bool false, .bool false, .bool false, .bool false, .bool false, .bool false, .bool false, .bool false, .bool false, .bool false, .bool false, .bool false])) := by kernel_rfl
theorem inf85 : (Try.prog.info? 85).map (fun i => (i.size, i.bytes, i.zero)) = some (3, 32, some (.agg #[.int .i64 0, .int .i64 0, .string ⟨#[]⟩])) := by kernel_rfl
theorem inf86 : (Try.prog.info? 86).map (fun i => (i.size, i.bytes, i.zero)) = some (3, 32, some (.agg #[.int .i64 0, .int .i64 0, .string ⟨#[]⟩])) := by kernel_rfl
theorem inf92 : (Try.prog.info? 92).map (fun i => (i.size, i.bytes, i.zero)) = some (1, 24, some (.slice none 0 0)) := by kernel_rfl
theorem tabOk : TabOk Try.prog tab := TabOk.cons Try.underlying3 inf3 (fun h => by cases h) (TabOk.cons Try.underlying4 inf4 (fun h => by cases h) (TabOk.cons Try.underlying5 inf5 (fun h => by cases h) (TabOk.cons Try.underlying9 inf9 (fun h => by cases h) (TabOk.cons Try.underlying22 inf22 (fun h => by cases h) (TabOk.cons Try.underlying25 inf25 (fun h => by cases h) (TabOk.cons Try.underlying27 inf27 (fun h => by cases h) (TabOk.cons Try.underlying28 inf28 (fun _ => ⟨by kernel_rfl, by kernel_rfl⟩) (TabOk.cons Try.underlying29 inf29 (fun _ => ⟨by kernel_rfl, by kernel_rfl⟩) (TabOk.cons Try.underlying30 inf30 (fun h => by cases h) (TabOk.cons Try.underlying31 inf31 (fun h => by cases h) (TabOk.cons Try.underlying32 inf32 (fun h => by cases h) (TabOk.cons Try.underlying33 inf33 (fun h => by cases h) (TabOk.cons Try.underlying34 inf34 (fun h => by cases h) (TabOk.cons Try.underlying37 inf37 (fun h => by cases h) (TabOk.cons Try.underlying38 inf38 (fun _ => ⟨by kernel_rfl, by kernel_rfl⟩) (TabOk.cons Try.underlying39 inf39 (fun _ => ⟨by kernel_rfl, by kernel_rfl⟩) (TabOk.cons Try.underlying43 inf43 (fun h => by cases h) (TabOk.cons Try.underlying47 inf47 (fun h => by cases h) (TabOk.cons Try.underlying48 inf48 (fun h => by cases h) (TabOk.cons Try.underlying49 inf49 (fun h => by cases h) (TabOk.cons Try.underlying50 inf50 (fun h => by cases h) (TabOk.cons Try.underlying51 inf51 (fun h => by cases h) (TabOk.cons Try.underlying61 inf61 (fun h => by cases h) (TabOk.cons Try.underlying62 inf62 (fun h => by cases h) (TabOk.cons Try.underlying63 inf63 (fun h => by cases h) (TabOk.cons Try.underlying64 inf64 (fun h => by cases h) (TabOk.cons Try.underlying65 inf65 (fun h => by cases h) (TabOk.cons Try.underlying70 inf70 (fun h => by cases h) (TabOk.cons Try.underlying77 inf77 (fun h => by cases h) (TabOk.cons Try.underlying78 inf78 (fun h => by cases h) (TabOk.cons Try.underlying82 inf82 (fun h => by cases h) (TabOk.cons Try.underlying85 inf85 (fun h => by cases h) (TabOk.cons Try.underlying86 inf86 (fun h => by cases h) (TabOk.cons Try.underlying92 inf92 (fun h => by cases h) (TabOk.nil _)))))))))))))))))))))))))))))))))))
theorem mixed : Try.prog.follows .mixedOrders = true := by kernel_rfl
theorem lit_cast {k : IntKind} {a b : Int} (h : a = b) : some (AV.pv (.lit (.int k a))) = some (AV.pv (.lit (.int k b))) := by rw [h]
end Go.Proofs.Ytpeeofofagfooaa
namespace Go.Proofs.Ytpeeofofagfooaa
open Go.Am
structure Link where
  from_ : Int
  to : Int
  deriving Inhabited
def eLink : Enc Link := ⟨2, fun x => [.lit (.int .i64 x.from_), .lit (.int .i64 x.to)], fun _ => rfl⟩
def mIn (n : Int) : Bool :=
  (bif (decide (n ≥ 0)) then (decide (n < 64)) else false)
theorem mIn_calls (n : Int)  : PCalls Try.prog 55 [.pv (.lit (.int .i64 n))] (.pv (.lit (.bool (mIn n)))) := by
 generalize hR : mIn n = R
 refine PCalls.of_body tabOk Try.func55 rfl rfl rfl rfl rfl mixed fun E hP C hI => ?_
 refine Awp.consP C ?_
 refine rvP C (.pv (.lit (.bool false))) ?_
 refine rvc_nil ?_
 refine Awp.consP C ?_
 refine rvP C (.pv (.lit (.int .i64 n))) ?_
 refine rvP C (.pv (.lit (.bool (decide (n ≥ 0))))) ?_
 refine rvP C (.pv (.lit (.bool (decide (n ≥ 0))))) ?_
 refine rvc_case 5 (decide (n ≥ 0)) rfl (fun h1 => ?_) (fun h1 => ?_)
 ·
  replace hR := of_true h1 hR
  refine rvO C (.pv (.lit (.int .i64 n))) ?_
  refine rvO C (.pv (.lit (.bool (decide (n < 64))))) ?_
  refine rvP C (.pv (.lit (.bool (decide (n < 64))))) ?_
  refine rvP C (.pv (.lit (.bool (decide (n < 64))))) ?_
  refine rvc_nil ?_
  refine Awp.ret ?_
  subst hR
  exact ⟨.inl rfl, rfl⟩
 ·
  replace hR := of_false h1 hR
  refine rvS ?_
  refine rvS ?_
  refine rvP C (.pv (.lit (.bool false))) ?_
  refine rvP C (.pv (.lit (.bool false))) ?_
  refine rvc_nil ?_
  refine Awp.ret ?_
  subst hR
  exact ⟨.inl rfl, rfl⟩
def mHas (s : Int) (n : Int) : Bool :=
  (bif (mIn n) then ((bitI .and .u64 (shrI .u64 s n) 1) == 1) else false)
theorem mHas_calls (s : Int) (n : Int)  : PCalls Try.prog 49 [.pv (.lit (.int .u64 s)), .pv (.lit (.int .i64 n))] (.pv (.lit (.bool (mHas s n)))) := by
 generalize hR : mHas s n = R
 refine PCalls.of_body tabOk Try.func49 rfl rfl rfl rfl rfl mixed fun E hP C hI => ?_
 refine Awp.consP C ?_
 refine rvP C (.pv (.lit (.bool false))) ?_
 refine rvc_nil ?_
 refine Awp.consP C ?_
 refine rvP C (.pv (.lit (.int .i64 n))) ?_
 refine rvc_un (rexec_call hP C rfl rfl rfl (mIn_calls n) ?_)
 refine rvP C (.pv (.lit (.bool (mIn n)))) ?_
 refine rvc_case 7 (mIn n) rfl (fun h1 => ?_) (fun h1 => ?_)
 ·
  replace hR := of_true h1 hR
  refine rvO C (.pv (.lit (.int .u64 s))) ?_
  refine rvO C (.pv (.lit (.int .i64 n))) ?_
  refine rvc_open rfl rfl rfl (rexec_prim C (δ := { v := .pv (.lit (.int .u64 (shrI .u64 s n))) }) rfl rfl rfl rfl (by simp [mIn] at h1; omega) rfl ?_)
  refine rvO C (.pv (.lit (.int .u64 (bitI .and .u64 (shrI .u64 s n) 1)))) ?_
  refine rvO C (.pv (.lit (.bool ((bitI .and .u64 (shrI .u64 s n) 1) == 1)))) ?_
  refine rvP C (.pv (.lit (.bool ((bitI .and .u64 (shrI .u64 s n) 1) == 1)))) ?_
  refine rvP C (.pv (.lit (.bool ((bitI .and .u64 (shrI .u64 s n) 1) == 1)))) ?_
  refine rvc_nil ?_
  refine Awp.ret ?_
  subst hR
  exact ⟨.inl rfl, rfl⟩
 ·
  replace hR := of_false h1 hR
  refine rvS ?_
  refine rvS ?_
  refine rvS ?_
  refine rvS ?_
  refine rvS ?_
  refine rvP C (.pv (.lit (.bool false))) ?_
  refine rvP C (.pv (.lit (.bool false))) ?_
  refine rvc_nil ?_
  refine Awp.ret ?_
  subst hR
  exact ⟨.inl rfl, rfl⟩
def mWith (s : Int) (n : Int) : Int :=
  (bif (!(mIn n)) then s else (bitI .or .u64 s (shlI .u64 1 n)))
theorem mWith_calls (s : Int) (n : Int)  : PCalls Try.prog 50 [.pv (.lit (.int .u64 s)), .pv (.lit (.int .i64 n))] (.pv (.lit (.int .u64 (mWith s n)))) := by
 generalize hR : mWith s n = R
 refine PCalls.of_body tabOk Try.func50 rfl rfl rfl rfl rfl mixed fun E hP C hI => ?_
 refine Awp.consP C ?_
 refine rvP C (.pv (.lit (.int .u64 0))) ?_
 refine rvc_nil ?_
 refine Awp.seq ?_
 refine Awp.consP C ?_
 refine rvP C (.pv (.lit (.int .i64 n))) ?_
 refine rvc_un (rexec_call hP C rfl rfl rfl (mIn_calls n) ?_)
 refine rvP C (.pv (.lit (.bool (!(mIn n))))) ?_
 refine rvc_nil ?_
 refine Awp.cond (b := (!(mIn n))) rfl (fun h1 => ?_) (fun h1 => ?_)
 ·
  replace hR := of_true h1 hR
  refine Awp.consP C ?_
  refine rvP C (.pv (.lit (.int .u64 s))) ?_
  refine rvP C (.pv (.lit (.int .u64 s))) ?_
  refine rvc_nil ?_
  refine Awp.ret ?_
  subst hR
  exact ⟨.inl rfl, rfl⟩
 ·
  replace hR := of_false h1 hR
  refine Awp.skip ?_
  refine Awp.consP C ?_
  refine rvP C (.pv (.lit (.int .u64 s))) ?_
  refine rvP C (.pv (.lit (.int .i64 n))) ?_
  refine rvc_un (rexec_prim C (δ := { v := .pv (.lit (.int .u64 (shlI .u64 1 n))) }) rfl rfl rfl rfl (by simp [mIn] at h1; omega) rfl ?_)
  refine rvP C (.pv (.lit (.int .u64 (bitI .or .u64 s (shlI .u64 1 n))))) ?_
  refine rvP C (.pv (.lit (.int .u64 (bitI .or .u64 s (shlI .u64 1 n))))) ?_
  refine rvc_nil ?_
  refine Awp.ret ?_
  subst hR
  exact ⟨.inl rfl, rfl⟩
def fitsL (l : Link) : Bool :=
  (bif (decide (l.from_ ≥ 0)) then (bif (decide (l.from_ < 32)) then (bif (decide (l.to ≥ 0)) then (bif (decide (l.to < 32)) then (l.from_ != l.to) else false) else false) else false) else false)
theorem fitsL_calls (l : Link)  : PCalls Try.prog 46 [.agg [.pv (.lit (.int .i64 l.from_)), .pv (.lit (.int .i64 l.to))]] (.pv (.lit (.bool (fitsL l)))) := by
 generalize hR : fitsL l = R
 refine PCalls.of_body tabOk Try.func46 rfl rfl rfl rfl rfl mixed fun E hP C hI => ?_
 refine Awp.consP C ?_
 refine rvc_un (rexec_prim C (δ := { v := .ptr 1 0, new := [(1, .cells [.pv (.lit (.int .i64 l.from_)), .pv (.lit (.int .i64 l.to))])] }) rfl rfl rfl rfl trivial rfl ?_)
 refine rvP C (.pv (.lit (.bool false))) ?_
 refine rvc_nil ?_
 refine Awp.consP C ?_
 refine rvP C (.ptr 1 0) ?_
 refine rvP C (.pv (.lit (.int .i64 l.from_))) ?_
 refine rvP C (.pv (.lit (.bool (decide (l.from_ ≥ 0))))) ?_
 refine rvP C (.pv (.lit (.bool (decide (l.from_ ≥ 0))))) ?_
 refine rvc_case 6 (decide (l.from_ ≥ 0)) rfl (fun h1 => ?_) (fun h1 => ?_)
 ·
  replace hR := of_true h1 hR
  refine rvO C (.ptr 1 0) ?_
  refine rvO C (.pv (.lit (.int .i64 l.from_))) ?_
  refine rvO C (.pv (.lit (.bool (decide (l.from_ < 32))))) ?_
  refine rvP C (.pv (.lit (.bool (decide (l.from_ < 32))))) ?_
  refine rvP C (.pv (.lit (.bool (decide (l.from_ < 32))))) ?_
  refine rvc_case 11 (decide (l.from_ < 32)) rfl (fun h2 => ?_) (fun h2 => ?_)
  ·
   replace hR := of_true h2 hR
   refine rvO C (.ptr 1 1) ?_
   refine rvO C (.pv (.lit (.int .i64 l.to))) ?_
   refine rvO C (.pv (.lit (.bool (decide (l.to ≥ 0))))) ?_
   refine rvP C (.pv (.lit (.bool (decide (l.to ≥ 0))))) ?_
   refine rvP C (.pv (.lit (.bool (decide (l.to ≥ 0))))) ?_
   refine rvc_case 16 (decide (l.to ≥ 0)) rfl (fun h3 => ?_) (fun h3 => ?_)
   ·
    replace hR := of_true h3 hR
    refine rvO C (.ptr 1 1) ?_
    refine rvO C (.pv (.lit (.int .i64 l.to))) ?_
    refine rvO C (.pv (.lit (.bool (decide (l.to < 32))))) ?_
    refine rvP C (.pv (.lit (.bool (decide (l.to < 32))))) ?_
    refine rvP C (.pv (.lit (.bool (decide (l.to < 32))))) ?_
    refine rvc_case 21 (decide (l.to < 32)) rfl (fun h4 => ?_) (fun h4 => ?_)
    ·
     replace hR := of_true h4 hR
     refine rvO C (.ptr 1 0) ?_
     refine rvO C (.pv (.lit (.int .i64 l.from_))) ?_
     refine rvO C (.ptr 1 1) ?_
     refine rvO C (.pv (.lit (.int .i64 l.to))) ?_
     refine rvO C (.pv (.lit (.bool (l.from_ != l.to)))) ?_
     refine rvP C (.pv (.lit (.bool (l.from_ != l.to)))) ?_
     refine rvP C (.pv (.lit (.bool (l.from_ != l.to)))) ?_
     refine rvc_nil ?_
     refine Awp.ret ?_
     subst hR
     exact ⟨.inl rfl, rfl⟩
    ·
     replace hR := of_false h4 hR
     refine rvS ?_
     refine rvS ?_
     refine rvS ?_
     refine rvS ?_
     refine rvS ?_
     refine rvP C (.pv (.lit (.bool false))) ?_
     refine rvP C (.pv (.lit (.bool false))) ?_
     refine rvc_nil ?_
     refine Awp.ret ?_
     subst hR
     exact ⟨.inl rfl, rfl⟩
   ·
    replace hR := of_false h3 hR
    refine rvS ?_
    refine rvS ?_
    refine rvS ?_
    refine rvP C (.pv (.lit (.bool false))) ?_
    refine rvP C (.pv (.lit (.bool false))) ?_
    refine rvS ?_
    refine rvS ?_
    refine rvS ?_
    refine rvS ?_
    refine rvS ?_
    refine rvP C (.pv (.lit (.bool false))) ?_
    refine rvP C (.pv (.lit (.bool false))) ?_
    refine rvc_nil ?_
    refine Awp.ret ?_
    subst hR
    exact ⟨.inl rfl, rfl⟩
  ·
   replace hR := of_false h2 hR
   refine rvS ?_
   refine rvS ?_
   refine rvS ?_
   refine rvP C (.pv (.lit (.bool false))) ?_
   refine rvP C (.pv (.lit (.bool false))) ?_
   refine rvS ?_
   refine rvS ?_
   refine rvS ?_
   refine rvP C (.pv (.lit (.bool false))) ?_
   refine rvP C (.pv (.lit (.bool false))) ?_
   refine rvS ?_
   refine rvS ?_
   refine rvS ?_
   refine rvS ?_
   refine rvS ?_
   refine rvP C (.pv (.lit (.bool false))) ?_
   refine rvP C (.pv (.lit (.bool false))) ?_
   refine rvc_nil ?_
   refine Awp.ret ?_
   subst hR
   exact ⟨.inl rfl, rfl⟩
 ·
  replace hR := of_false h1 hR
  refine rvS ?_
  refine rvS ?_
  refine rvS ?_
  refine rvP C (.pv (.lit (.bool false))) ?_
  refine rvP C (.pv (.lit (.bool false))) ?_
  refine rvS ?_
  refine rvS ?_
  refine rvS ?_
  refine rvP C (.pv (.lit (.bool false))) ?_
  refine rvP C (.pv (.lit (.bool false))) ?_
  refine rvS ?_
  refine rvS ?_
  refine rvS ?_
  refine rvP C (.pv (.lit (.bool false))) ?_
  refine rvP C (.pv (.lit (.bool false))) ?_
  refine rvS ?_
  refine rvS ?_
  refine rvS ?_
  refine rvS ?_
  refine rvS ?_
  refine rvP C (.pv (.lit (.bool false))) ?_
  refine rvP C (.pv (.lit (.bool false))) ?_
  refine rvc_nil ?_
  refine Awp.ret ?_
  subst hR
  exact ⟨.inl rfl, rfl⟩
def maskOf_l0 : List Int → Nat → Int → Int
  | [], _, s => s
  | x :: xs, i, s => maskOf_l0 xs (i + 1) (mWith s x)
def maskOf (l : (Sl Int)) : Int :=
  maskOf_l0 l.D 0 0
theorem maskOf_calls (l : (Sl Int)) (hl1 : l.D.length ≤ 1000000) : PCalls Try.prog 31 [sS (some l.nil) (eI .i64) l.D] (.pv (.lit (.int .u64 (maskOf l)))) := by
 generalize hR : maskOf l = R
 refine PCalls.of_body tabOk Try.func31 rfl rfl rfl rfl rfl mixed fun E hP C hI => ?_
 refine Awp.consP C ?_
 refine rvP C (.pv (.lit (.int .u64 0))) ?_
 refine rvc_nil ?_
 refine Awp.consP C ?_
 refine rvP C (.pv (.lit (.int .u64 0))) ?_
 refine rvc_nil ?_
 refine Awp.seq ?_
 refine Awp.consP C ?_
 refine rvP C (sS (some l.nil) (eI .i64) l.D) ?_
 refine rvP C (.pv (.lit (.int .i64 (l.D.length : Int)))) ?_
 refine rvP C (.pv (.lit (.int .i64 0))) ?_
 refine rvc_nil ?_
 refine Awp.block ?_
 refine Awp.forR (σ := Int) (l.D.length) (fun i v => [(3, .pv (.lit (.int .u64 v))), (6, sS (some l.nil) (eI .i64) l.D), (7, .pv (.lit (.int .i64 (l.D.length : Int)))), (8, .pv (.lit (.int .i64 (i : Int))))]) (fun i v => []) [] (fun i v => maskOf_l0 (l.D.drop i) i v = R) 0 ?_ ?_ (fun i s h1 hR => ?_)
 · exact hR
 · exact ⟨fun b => b, WeakerR.ofL (Ks := []) hI ⟨⟨rfl, rfl⟩, ⟨rfl, rfl⟩, ⟨rfl, rfl⟩, ⟨rfl, rfl⟩, trivial⟩ (okH_nil) rfl⟩
 refine Awp.consP C ?_
 refine rvP C (.pv (.lit (.bool (decide ((i : Int) < (l.D.length : Int)))))) ?_
 refine rvc_nil ?_
 refine Awp.seq ?_
 refine Awp.cond (b := (decide ((i : Int) < (l.D.length : Int)))) rfl (fun h2 => ?_) (fun h2 => ?_)
 ·
  have h3 : i < l.D.length := by have := of_decide_eq_true h2; omega
  obtain ⟨x, h4⟩ := getX h3
  rw [drop_at h4] at hR
  refine Awp.skip ?_
  refine Awp.seq ?_
  refine Awp.block ?_
  refine Awp.consP C ?_
  refine rvc_un (rexec_idxS C rfl rfl rfl rfl rfl rfl x (Int.natCast_nonneg _) h4 ?_)
  refine rvP C (.pv (.lit (.int .i64 x))) ?_
  refine rvP C (.pv (.lit (.int .i64 x))) ?_
  refine rvc_nil ?_
  refine Awp.regionP C ?_
  refine rvP C (.pv (.lit (.int .u64 s))) ?_
  refine rvP C (.pv (.lit (.int .i64 x))) ?_
  refine rvc_un (rexec_call hP C rfl rfl rfl (mWith_calls s x) ?_)
  refine rvP C (.pv (.lit (.int .u64 (mWith s x)))) ?_
  refine rvc_nil ?_
  refine Awp.regionP C ?_
  refine rvP C (.pv (.lit (.int .i64 (IntKind.i64.wrap ((i : Int) + 1))))) ?_
  refine rvP C (.pv (.lit (.int .i64 (IntKind.i64.wrap ((i : Int) + 1))))) ?_
  refine rvc_nil ?_
  refine ⟨h3, (mWith s x), ?_, ?_⟩
  · exact hR
  · exact ⟨fun b => b, WeakerR.ofL (Ks := []) hI ⟨⟨rfl, rfl⟩, ⟨rfl, rfl⟩, ⟨rfl, rfl⟩, ⟨lit_cast (wrap_i64 (by omega) (by omega)), rfl⟩, trivial⟩ (okH_nil) rfl⟩
 ·
  have h3 : ¬ i < l.D.length := by have := of_decide_eq_false h2; omega
  rw [drop_end h3] at hR
  refine Awp.exit ?_
  refine Awp.consP C ?_
  refine rvP C (.pv (.lit (.int .u64 s))) ?_
  refine rvP C (.pv (.lit (.int .u64 s))) ?_
  refine rvc_nil ?_
  refine Awp.ret ?_
  subst hR
  exact ⟨.inl rfl, rfl⟩
def cloneBytes (s : (Sl Int)) : (Sl Int) :=
  (bif s.nil then (Sl.mk true []) else (Sl.mk false s.D))
theorem cloneBytes_calls (s : (Sl Int)) (hl1 : s.D.length ≤ 1000000) : PCalls Try.prog 18 [sS (some s.nil) (eI .u8) s.D] (sS (some (cloneBytes s).nil) (eI .u8) ((cloneBytes s).D)) := by
 generalize hR : cloneBytes s = R
 refine PCalls.of_body tabOk Try.func18 rfl rfl rfl rfl rfl mixed fun E hP C hI => ?_
 refine Awp.consP C ?_
 refine rvP C (sS (some true) (eI .u8) []) ?_
 refine rvc_nil ?_
 refine Awp.seq ?_
 refine Awp.consP C ?_
 refine rvP C (sS (some s.nil) (eI .u8) s.D) ?_
 refine rvc_un (rexec_eqNil C (f := s.nil) rfl rfl rfl rfl ?_)
 refine rvc_nil ?_
 refine Awp.cond (b := s.nil) rfl (fun h1 => ?_) (fun h1 => ?_)
 ·
  replace hR := of_true h1 hR
  refine Awp.consP C ?_
  refine rvP C (sS (some true) (eI .u8) []) ?_
  refine rvc_nil ?_
  refine Awp.ret ?_
  subst hR
  exact ⟨.inl rfl, rfl⟩
 ·
  replace hR := of_false h1 hR
  refine Awp.skip ?_
  refine Awp.consP C ?_
  refine rvc_un (rexec_prim C (δ := { v := .sl 5 0 0 1 true, new := [(5, .cells (encC (eI .u8) []))] }) rfl rfl rfl rfl trivial rfl ?_)
  refine rvP C (sS (some s.nil) (eI .u8) s.D) ?_
  refine rvc_un (rexec_append C rfl rfl rfl rfl rfl rfl rfl rfl (fun _ h => by cases h) rfl (en := (eI .u8)) (D0 := []) (D := s.D) rfl rfl rfl rfl (by first | omega | (simp <;> omega)) (by decide) (nn := s.D.length) (by simp) ?_)
  refine rvP C (.sl 7 0 s.D.length 1 false) ?_
  refine rvc_nil ?_
  refine Awp.freezeW 7 (encL (eI .u8) s.D) ?_ [(2, sS (some false) (eI .u8) s.D)] [] ?_ ?_ ?_
  · rfl
  · exact ⟨⟨_, rfl, .inl (.inr ⟨_, _, _, rfl, rfl⟩)⟩, trivial⟩
  · exact trivial
  refine Awp.ret ?_
  subst hR
  exact ⟨.inl rfl, rfl⟩
end Go.Proofs.Ytpeeofofagfooaa
namespace Go.Proofs.Ytpeeofofagfooaa
open Go.Am
def busyCmp (a : Link) (b : Link) : Int :=
  (bif (a.from_ != b.from_) then (IntKind.i64.wrap (a.from_ - b.from_)) else (IntKind.i64.wrap (a.to - b.to)))
theorem busyCmp_calls (a : Link) (b : Link)  : PCalls Try.prog 38 [.agg [.pv (.lit (.int .i64 a.from_)), .pv (.lit (.int .i64 a.to))], .agg [.pv (.lit (.int .i64 b.from_)), .pv (.lit (.int .i64 b.to))]] (.pv (.lit (.int .i64 (busyCmp a b)))) := by
 generalize hR : busyCmp a b = R
 refine PCalls.of_body tabOk Try.func38 rfl rfl rfl rfl rfl mixed fun E hP C hI => ?_
 refine Awp.consP C ?_
 refine rvc_un (rexec_prim C (δ := { v := .ptr 2 0, new := [(2, .cells [.pv (.lit (.int .i64 a.from_)), .pv (.lit (.int .i64 a.to))])] }) rfl rfl rfl rfl trivial rfl ?_)
 refine rvc_un (rexec_prim C (δ := { v := .ptr 3 0, new := [(3, .cells [.pv (.lit (.int .i64 b.from_)), .pv (.lit (.int .i64 b.to))])] }) rfl rfl rfl rfl trivial rfl ?_)
 refine rvP C (.pv (.lit (.int .i64 0))) ?_
 refine rvc_nil ?_
 refine Awp.seq ?_
 refine Awp.consP C ?_
 refine rvP C (.ptr 2 0) ?_
 refine rvP C (.pv (.lit (.int .i64 a.from_))) ?_
 refine rvP C (.ptr 3 0) ?_
 refine rvP C (.pv (.lit (.int .i64 b.from_))) ?_
 refine rvP C (.pv (.lit (.bool (a.from_ != b.from_)))) ?_
 refine rvc_nil ?_
 refine Awp.cond (b := (a.from_ != b.from_)) rfl (fun h1 => ?_) (fun h1 => ?_)
 ·
  replace hR := of_true h1 hR
  refine Awp.consP C ?_
  refine rvP C (.ptr 2 0) ?_
  refine rvP C (.pv (.lit (.int .i64 a.from_))) ?_
  refine rvP C (.ptr 3 0) ?_
  refine rvP C (.pv (.lit (.int .i64 b.from_))) ?_
  refine rvP C (.pv (.lit (.int .i64 (IntKind.i64.wrap (a.from_ - b.from_))))) ?_
  refine rvP C (.pv (.lit (.int .i64 (IntKind.i64.wrap (a.from_ - b.from_))))) ?_
  refine rvc_nil ?_
  refine Awp.ret ?_
  subst hR
  exact ⟨.inl rfl, rfl⟩
 ·
  replace hR := of_false h1 hR
  refine Awp.skip ?_
  refine Awp.consP C ?_
  refine rvP C (.ptr 2 1) ?_
  refine rvP C (.pv (.lit (.int .i64 a.to))) ?_
  refine rvP C (.ptr 3 1) ?_
  refine rvP C (.pv (.lit (.int .i64 b.to))) ?_
  refine rvP C (.pv (.lit (.int .i64 (IntKind.i64.wrap (a.to - b.to))))) ?_
  refine rvP C (.pv (.lit (.int .i64 (IntKind.i64.wrap (a.to - b.to))))) ?_
  refine rvc_nil ?_
  refine Awp.ret ?_
  subst hR
  exact ⟨.inl rfl, rfl⟩
end Go.Proofs.Ytpeeofofagfooaa
namespace Go.Proofs.Ytpeeofofagfooaa
open Go.Am
structure Item where
  l : Link
  b : ByteArray
  deriving Inhabited
def eItem : Enc Item := ⟨3, fun x => [.lit (.int .i64 x.l.from_), .lit (.int .i64 x.l.to), .lit (.string x.b)], fun _ => rfl⟩
structure Net51 where
  items : (Sl Item)
  side : (Nat → Bool)
  lost : Int
  deriving Inhabited
def rRight (l : Link) : Bool :=
  (bif (decide (l.from_ ≥ 0)) then (bif (decide (l.from_ < 32)) then (bif (decide (l.to ≥ 0)) then (bif (decide (l.to < 32)) then (l.from_ != l.to) else false) else false) else false) else false)
theorem rRight_calls (l : Link)  : PCalls Try.prog 53 [.agg [.pv (.lit (.int .i64 l.from_)), .pv (.lit (.int .i64 l.to))]] (.pv (.lit (.bool (rRight l)))) := by
 generalize hR : rRight l = R
 refine PCalls.of_body tabOk Try.func53 rfl rfl rfl rfl rfl mixed fun E hP C hI => ?_
 refine Awp.consP C ?_
 refine rvc_un (rexec_prim C (δ := { v := .ptr 1 0, new := [(1, .cells [.pv (.lit (.int .i64 l.from_)), .pv (.lit (.int .i64 l.to))])] }) rfl rfl rfl rfl trivial rfl ?_)
 refine rvP C (.pv (.lit (.bool false))) ?_
 refine rvc_nil ?_
 refine Awp.consP C ?_
 refine rvP C (.ptr 1 0) ?_
 refine rvP C (.pv (.lit (.int .i64 l.from_))) ?_
 refine rvP C (.pv (.lit (.bool (decide (l.from_ ≥ 0))))) ?_
 refine rvP C (.pv (.lit (.bool (decide (l.from_ ≥ 0))))) ?_
 refine rvc_case 6 (decide (l.from_ ≥ 0)) rfl (fun h1 => ?_) (fun h1 => ?_)
 ·
  replace hR := of_true h1 hR
  refine rvO C (.ptr 1 0) ?_
  refine rvO C (.pv (.lit (.int .i64 l.from_))) ?_
  refine rvO C (.pv (.lit (.bool (decide (l.from_ < 32))))) ?_
  refine rvP C (.pv (.lit (.bool (decide (l.from_ < 32))))) ?_
  refine rvP C (.pv (.lit (.bool (decide (l.from_ < 32))))) ?_
  refine rvc_case 11 (decide (l.from_ < 32)) rfl (fun h2 => ?_) (fun h2 => ?_)
  ·
   replace hR := of_true h2 hR
   refine rvO C (.ptr 1 1) ?_
   refine rvO C (.pv (.lit (.int .i64 l.to))) ?_
   refine rvO C (.pv (.lit (.bool (decide (l.to ≥ 0))))) ?_
   refine rvP C (.pv (.lit (.bool (decide (l.to ≥ 0))))) ?_
   refine rvP C (.pv (.lit (.bool (decide (l.to ≥ 0))))) ?_
   refine rvc_case 16 (decide (l.to ≥ 0)) rfl (fun h3 => ?_) (fun h3 => ?_)
   ·
    replace hR := of_true h3 hR
    refine rvO C (.ptr 1 1) ?_
    refine rvO C (.pv (.lit (.int .i64 l.to))) ?_
    refine rvO C (.pv (.lit (.bool (decide (l.to < 32))))) ?_
    refine rvP C (.pv (.lit (.bool (decide (l.to < 32))))) ?_
    refine rvP C (.pv (.lit (.bool (decide (l.to < 32))))) ?_
    refine rvc_case 21 (decide (l.to < 32)) rfl (fun h4 => ?_) (fun h4 => ?_)
    ·
     replace hR := of_true h4 hR
     refine rvO C (.ptr 1 0) ?_
     refine rvO C (.pv (.lit (.int .i64 l.from_))) ?_
     refine rvO C (.ptr 1 1) ?_
     refine rvO C (.pv (.lit (.int .i64 l.to))) ?_
     refine rvO C (.pv (.lit (.bool (l.from_ != l.to)))) ?_
     refine rvP C (.pv (.lit (.bool (l.from_ != l.to)))) ?_
     refine rvP C (.pv (.lit (.bool (l.from_ != l.to)))) ?_
     refine rvc_nil ?_
     refine Awp.ret ?_
     subst hR
     exact ⟨.inl rfl, rfl⟩
    ·
     replace hR := of_false h4 hR
     refine rvS ?_
     refine rvS ?_
     refine rvS ?_
     refine rvS ?_
     refine rvS ?_
     refine rvP C (.pv (.lit (.bool false))) ?_
     refine rvP C (.pv (.lit (.bool false))) ?_
     refine rvc_nil ?_
     refine Awp.ret ?_
     subst hR
     exact ⟨.inl rfl, rfl⟩
   ·
    replace hR := of_false h3 hR
    refine rvS ?_
    refine rvS ?_
    refine rvS ?_
    refine rvP C (.pv (.lit (.bool false))) ?_
    refine rvP C (.pv (.lit (.bool false))) ?_
    refine rvS ?_
    refine rvS ?_
    refine rvS ?_
    refine rvS ?_
    refine rvS ?_
    refine rvP C (.pv (.lit (.bool false))) ?_
    refine rvP C (.pv (.lit (.bool false))) ?_
    refine rvc_nil ?_
    refine Awp.ret ?_
    subst hR
    exact ⟨.inl rfl, rfl⟩
  ·
   replace hR := of_false h2 hR
   refine rvS ?_
   refine rvS ?_
   refine rvS ?_
   refine rvP C (.pv (.lit (.bool false))) ?_
   refine rvP C (.pv (.lit (.bool false))) ?_
   refine rvS ?_
   refine rvS ?_
   refine rvS ?_
   refine rvP C (.pv (.lit (.bool false))) ?_
   refine rvP C (.pv (.lit (.bool false))) ?_
   refine rvS ?_
   refine rvS ?_
   refine rvS ?_
   refine rvS ?_
   refine rvS ?_
   refine rvP C (.pv (.lit (.bool false))) ?_
   refine rvP C (.pv (.lit (.bool false))) ?_
   refine rvc_nil ?_
   refine Awp.ret ?_
   subst hR
   exact ⟨.inl rfl, rfl⟩
 ·
  replace hR := of_false h1 hR
  refine rvS ?_
  refine rvS ?_
  refine rvS ?_
  refine rvP C (.pv (.lit (.bool false))) ?_
  refine rvP C (.pv (.lit (.bool false))) ?_
  refine rvS ?_
  refine rvS ?_
  refine rvS ?_
  refine rvP C (.pv (.lit (.bool false))) ?_
  refine rvP C (.pv (.lit (.bool false))) ?_
  refine rvS ?_
  refine rvS ?_
  refine rvS ?_
  refine rvP C (.pv (.lit (.bool false))) ?_
  refine rvP C (.pv (.lit (.bool false))) ?_
  refine rvS ?_
  refine rvS ?_
  refine rvS ?_
  refine rvS ?_
  refine rvS ?_
  refine rvP C (.pv (.lit (.bool false))) ?_
  refine rvP C (.pv (.lit (.bool false))) ?_
  refine rvc_nil ?_
  refine Awp.ret ?_
  subst hR
  exact ⟨.inl rfl, rfl⟩
def rLen_l0 (l : Link) : List Item → Nat → Int → Int
  | [], _, k => k
  | x :: xs, i, k => (bif ((x.l.from_ == l.from_) && ((x.l.to == l.to) && true)) then rLen_l0 l xs (i + 1) (IntKind.i64.wrap (k + 1)) else rLen_l0 l xs (i + 1) k)
def rLen (n : Net51) (l : Link) : Int :=
  rLen_l0 l n.items.D 0 0
theorem rLen_calls (n : Net51) (l : Link) (hl1 : n.items.D.length ≤ 1000000) : MCalls Try.prog 21 [.ptr 0 0, .agg [.pv (.lit (.int .i64 l.from_)), .pv (.lit (.int .i64 l.to))]] (.cells [sS (some n.items.nil) eItem n.items.D, .pv (.lit (.bool (n.side 0))), .pv (.lit (.bool (n.side 1))), .pv (.lit (.bool (n.side 2))), .pv (.lit (.bool (n.side 3))), .pv (.lit (.bool (n.side 4))), .pv (.lit (.bool (n.side 5))), .pv (.lit (.bool (n.side 6))), .pv (.lit (.bool (n.side 7))), .pv (.lit (.bool (n.side 8))), .pv (.lit (.bool (n.side 9))), .pv (.lit (.bool (n.side 10))), .pv (.lit (.bool (n.side 11))), .pv (.lit (.bool (n.side 12))), .pv (.lit (.bool (n.side 13))), .pv (.lit (.bool (n.side 14))), .pv (.lit (.bool (n.side 15))), .pv (.lit (.bool (n.side 16))), .pv (.lit (.bool (n.side 17))), .pv (.lit (.bool (n.side 18))), .pv (.lit (.bool (n.side 19))), .pv (.lit (.bool (n.side 20))), .pv (.lit (.bool (n.side 21))), .pv (.lit (.bool (n.side 22))), .pv (.lit (.bool (n.side 23))), .pv (.lit (.bool (n.side 24))), .pv (.lit (.bool (n.side 25))), .pv (.lit (.bool (n.side 26))), .pv (.lit (.bool (n.side 27))), .pv (.lit (.bool (n.side 28))), .pv (.lit (.bool (n.side 29))), .pv (.lit (.bool (n.side 30))), .pv (.lit (.bool (n.side 31))), .pv (.lit (.bool (n.side 32))), .pv (.lit (.bool (n.side 33))), .pv (.lit (.bool (n.side 34))), .pv (.lit (.bool (n.side 35))), .pv (.lit (.bool (n.side 36))), .pv (.lit (.bool (n.side 37))), .pv (.lit (.bool (n.side 38))), .pv (.lit (.bool (n.side 39))), .pv (.lit (.bool (n.side 40))), .pv (.lit (.bool (n.side 41))), .pv (.lit (.bool (n.side 42))), .pv (.lit (.bool (n.side 43))), .pv (.lit (.bool (n.side 44))), .pv (.lit (.bool (n.side 45))), .pv (.lit (.bool (n.side 46))), .pv (.lit (.bool (n.side 47))), .pv (.lit (.bool (n.side 48))), .pv (.lit (.bool (n.side 49))), .pv (.lit (.bool (n.side 50))), .pv (.lit (.bool (n.side 51))), .pv (.lit (.bool (n.side 52))), .pv (.lit (.bool (n.side 53))), .pv (.lit (.bool (n.side 54))), .pv (.lit (.bool (n.side 55))), .pv (.lit (.bool (n.side 56))), .pv (.lit (.bool (n.side 57))), .pv (.lit (.bool (n.side 58))), .pv (.lit (.bool (n.side 59))), .pv (.lit (.bool (n.side 60))), .pv (.lit (.bool (n.side 61))), .pv (.lit (.bool (n.side 62))), .pv (.lit (.bool (n.side 63))), .pv (.lit (.int .i64 n.lost))]) (.pv (.lit (.int .i64 (rLen n l)))) (.cells [sS (some n.items.nil) eItem n.items.D, .pv (.lit (.bool (n.side 0))), .pv (.lit (.bool (n.side 1))), .pv (.lit (.bool (n.side 2))), .pv (.lit (.bool (n.side 3))), .pv (.lit (.bool (n.side 4))), .pv (.lit (.bool (n.side 5))), .pv (.lit (.bool (n.side 6))), .pv (.lit (.bool (n.side 7))), .pv (.lit (.bool (n.side 8))), .pv (.lit (.bool (n.side 9))), .pv (.lit (.bool (n.side 10))), .pv (.lit (.bool (n.side 11))), .pv (.lit (.bool (n.side 12))), .pv (.lit (.bool (n.side 13))), .pv (.lit (.bool (n.side 14))), .pv (.lit (.bool (n.side 15))), .pv (.lit (.bool (n.side 16))), .pv (.lit (.bool (n.side 17))), .pv (.lit (.bool (n.side 18))), .pv (.lit (.bool (n.side 19))), .pv (.lit (.bool (n.side 20))), .pv (.lit (.bool (n.side 21))), .pv (.lit (.bool (n.side 22))), .pv (.lit (.bool (n.side 23))), .pv (.lit (.bool (n.side 24))), .pv (.lit (.bool (n.side 25))), .pv (.lit (.bool (n.side 26))), .pv (.lit (.bool (n.side 27))), .pv (.lit (.bool (n.side 28))), .pv (.lit (.bool (n.side 29))), .pv (.lit (.bool (n.side 30))), .pv (.lit (.bool (n.side 31))), .pv (.lit (.bool (n.side 32))), .pv (.lit (.bool (n.side 33))), .pv (.lit (.bool (n.side 34))), .pv (.lit (.bool (n.side 35))), .pv (.lit (.bool (n.side 36))), .pv (.lit (.bool (n.side 37))), .pv (.lit (.bool (n.side 38))), .pv (.lit (.bool (n.side 39))), .pv (.lit (.bool (n.side 40))), .pv (.lit (.bool (n.side 41))), .pv (.lit (.bool (n.side 42))), .pv (.lit (.bool (n.side 43))), .pv (.lit (.bool (n.side 44))), .pv (.lit (.bool (n.side 45))), .pv (.lit (.bool (n.side 46))), .pv (.lit (.bool (n.side 47))), .pv (.lit (.bool (n.side 48))), .pv (.lit (.bool (n.side 49))), .pv (.lit (.bool (n.side 50))), .pv (.lit (.bool (n.side 51))), .pv (.lit (.bool (n.side 52))), .pv (.lit (.bool (n.side 53))), .pv (.lit (.bool (n.side 54))), .pv (.lit (.bool (n.side 55))), .pv (.lit (.bool (n.side 56))), .pv (.lit (.bool (n.side 57))), .pv (.lit (.bool (n.side 58))), .pv (.lit (.bool (n.side 59))), .pv (.lit (.bool (n.side 60))), .pv (.lit (.bool (n.side 61))), .pv (.lit (.bool (n.side 62))), .pv (.lit (.bool (n.side 63))), .pv (.lit (.int .i64 n.lost))]) := by
 generalize hR : rLen n l = R
 refine MCalls.of_body tabOk Try.func21 rfl rfl rfl rfl rfl rfl rfl mixed fun E hP C hI => ?_
 refine Awp.consP C ?_
 refine rvc_un (rexec_prim C (δ := { v := .ptr 3 0, new := [(3, .cells [.pv (.lit (.int .i64 l.from_)), .pv (.lit (.int .i64 l.to))])] }) rfl rfl rfl rfl trivial rfl ?_)
 refine rvP C (.pv (.lit (.int .i64 0))) ?_
 refine rvc_nil ?_
 refine Awp.consP C ?_
 refine rvP C (.pv (.lit (.int .i64 0))) ?_
 refine rvc_nil ?_
 refine Awp.seq ?_
 refine Awp.consP C ?_
 refine rvP C (.ptr 0 0) ?_
 refine rvP C (.ptr 0 0) ?_
 refine rvP C (.ptr 0 0) ?_
 refine rvP C (sS (some n.items.nil) eItem n.items.D) ?_
 refine rvP C (.pv (.lit (.int .i64 (n.items.D.length : Int)))) ?_
 refine rvP C (.pv (.lit (.int .i64 0))) ?_
 refine rvc_nil ?_
 refine Awp.block ?_
 refine Awp.forR (σ := Int) (n.items.D.length) (fun i v => [(0, .ptr 0 0), (3, .ptr 3 0), (5, .pv (.lit (.int .i64 v))), (11, sS (some n.items.nil) eItem n.items.D), (12, .pv (.lit (.int .i64 (n.items.D.length : Int)))), (13, .pv (.lit (.int .i64 (i : Int))))]) (fun i v => [(0, .cells [sS (some n.items.nil) eItem n.items.D, .pv (.lit (.bool (n.side 0))), .pv (.lit (.bool (n.side 1))), .pv (.lit (.bool (n.side 2))), .pv (.lit (.bool (n.side 3))), .pv (.lit (.bool (n.side 4))), .pv (.lit (.bool (n.side 5))), .pv (.lit (.bool (n.side 6))), .pv (.lit (.bool (n.side 7))), .pv (.lit (.bool (n.side 8))), .pv (.lit (.bool (n.side 9))), .pv (.lit (.bool (n.side 10))), .pv (.lit (.bool (n.side 11))), .pv (.lit (.bool (n.side 12))), .pv (.lit (.bool (n.side 13))), .pv (.lit (.bool (n.side 14))), .pv (.lit (.bool (n.side 15))), .pv (.lit (.bool (n.side 16))), .pv (.lit (.bool (n.side 17))), .pv (.lit (.bool (n.side 18))), .pv (.lit (.bool (n.side 19))), .pv (.lit (.bool (n.side 20))), .pv (.lit (.bool (n.side 21))), .pv (.lit (.bool (n.side 22))), .pv (.lit (.bool (n.side 23))), .pv (.lit (.bool (n.side 24))), .pv (.lit (.bool (n.side 25))), .pv (.lit (.bool (n.side 26))), .pv (.lit (.bool (n.side 27))), .pv (.lit (.bool (n.side 28))), .pv (.lit (.bool (n.side 29))), .pv (.lit (.bool (n.side 30))), .pv (.lit (.bool (n.side 31))), .pv (.lit (.bool (n.side 32))), .pv (.lit (.bool (n.side 33))), .pv (.lit (.bool (n.side 34))), .pv (.lit (.bool (n.side 35))), .pv (.lit (.bool (n.side 36))), .pv (.lit (.bool (n.side 37))), .pv (.lit (.bool (n.side 38))), .pv (.lit (.bool (n.side 39))), .pv (.lit (.bool (n.side 40))), .pv (.lit (.bool (n.side 41))), .pv (.lit (.bool (n.side 42))), .pv (.lit (.bool (n.side 43))), .pv (.lit (.bool (n.side 44))), .pv (.lit (.bool (n.side 45))), .pv (.lit (.bool (n.side 46))), .pv (.lit (.bool (n.side 47))), .pv (.lit (.bool (n.side 48))), .pv (.lit (.bool (n.side 49))), .pv (.lit (.bool (n.side 50))), .pv (.lit (.bool (n.side 51))), .pv (.lit (.bool (n.side 52))), .pv (.lit (.bool (n.side 53))), .pv (.lit (.bool (n.side 54))), .pv (.lit (.bool (n.side 55))), .pv (.lit (.bool (n.side 56))), .pv (.lit (.bool (n.side 57))), .pv (.lit (.bool (n.side 58))), .pv (.lit (.bool (n.side 59))), .pv (.lit (.bool (n.side 60))), .pv (.lit (.bool (n.side 61))), .pv (.lit (.bool (n.side 62))), .pv (.lit (.bool (n.side 63))), .pv (.lit (.int .i64 n.lost))]), (3, .cells [.pv (.lit (.int .i64 l.from_)), .pv (.lit (.int .i64 l.to))])]) [0, 3] (fun i v => rLen_l0 l (n.items.D.drop i) i v = R) 0 ?_ ?_ (fun i k h1 hR => ?_)
 · exact hR
 · exact ⟨fun b => b, WeakerR.ofLI (I := [0]) (Ks := [0, 3]) hI ⟨⟨rfl, rfl⟩, ⟨rfl, rfl⟩, ⟨rfl, rfl⟩, ⟨rfl, rfl⟩, ⟨rfl, rfl⟩, ⟨rfl, rfl⟩, trivial⟩ (okH_cons rfl rfl rfl rfl (okH_cons rfl rfl rfl rfl (okH_nil))) rfl rfl⟩
 refine Awp.consP C ?_
 refine rvP C (.pv (.lit (.bool (decide ((i : Int) < (n.items.D.length : Int)))))) ?_
 refine rvc_nil ?_
 refine Awp.seq ?_
 refine Awp.cond (b := (decide ((i : Int) < (n.items.D.length : Int)))) rfl (fun h2 => ?_) (fun h2 => ?_)
 ·
  have h3 : i < n.items.D.length := by have := of_decide_eq_true h2; omega
  obtain ⟨x, h4⟩ := getX h3
  rw [drop_at h4] at hR
  refine Awp.skip ?_
  refine Awp.seq ?_
  refine Awp.block ?_
  refine Awp.consP C ?_
  refine rvc_un (rexec_idxS C rfl rfl rfl rfl rfl rfl x (Int.natCast_nonneg _) h4 ?_)
  refine rvP C (.agg [.pv (.lit (.int .i64 x.l.from_)), .pv (.lit (.int .i64 x.l.to)), .pv (.lit (.string x.b))]) ?_
  refine rvc_un (rexec_prim C (δ := { v := .ptr 7 0, new := [(7, .cells [.pv (.lit (.int .i64 0)), .pv (.lit (.int .i64 0)), .pv (.lit (.string ⟨#[]⟩))])] }) rfl rfl rfl rfl trivial rfl ?_)
  refine rvc_un (rexec_prim C (δ := { v := .undef, wr := [(7, some (.cells [.pv (.lit (.int .i64 x.l.from_)), .pv (.lit (.int .i64 x.l.to)), .pv (.lit (.string x.b))]))] }) rfl rfl rfl rfl trivial rfl ?_)
  refine rvc_nil ?_
  refine Awp.consP C ?_
  refine rvP C (.ptr 7 0) ?_
  refine rvP C (.agg [.pv (.lit (.int .i64 x.l.from_)), .pv (.lit (.int .i64 x.l.to))]) ?_
  refine rvP C (.agg [.pv (.lit (.int .i64 l.from_)), .pv (.lit (.int .i64 l.to))]) ?_
  refine rvP C (.pv (.lit (.bool ((x.l.from_ == l.from_) && ((x.l.to == l.to) && true))))) ?_
  refine rvc_nil ?_
  refine Awp.cond (b := ((x.l.from_ == l.from_) && ((x.l.to == l.to) && true))) rfl (fun h5 => ?_) (fun h5 => ?_)
  ·
   replace hR := of_true h5 hR
   refine Awp.regionP C ?_
   refine rvP C (.pv (.lit (.int .i64 k))) ?_
   refine rvP C (.pv (.lit (.int .i64 (IntKind.i64.wrap (k + 1))))) ?_
   refine rvP C (.pv (.lit (.int .i64 (IntKind.i64.wrap (k + 1))))) ?_
   refine rvc_nil ?_
   refine Awp.regionP C ?_
   refine rvP C (.pv (.lit (.int .i64 (IntKind.i64.wrap ((i : Int) + 1))))) ?_
   refine rvP C (.pv (.lit (.int .i64 (IntKind.i64.wrap ((i : Int) + 1))))) ?_
   refine rvc_nil ?_
   refine ⟨h3, (IntKind.i64.wrap (k + 1)), ?_, ?_⟩
   · exact hR
   · exact ⟨fun b => b, WeakerR.ofLI (I := [0]) (Ks := [0, 3]) hI ⟨⟨rfl, rfl⟩, ⟨rfl, rfl⟩, ⟨rfl, rfl⟩, ⟨rfl, rfl⟩, ⟨rfl, rfl⟩, ⟨lit_cast (wrap_i64 (by omega) (by omega)), rfl⟩, trivial⟩ (okH_cons rfl rfl rfl rfl (okH_cons rfl rfl rfl rfl (okH_nil))) rfl rfl⟩
  ·
   replace hR := of_false h5 hR
   refine Awp.skip ?_
   refine Awp.regionP C ?_
   refine rvP C (.pv (.lit (.int .i64 (IntKind.i64.wrap ((i : Int) + 1))))) ?_
   refine rvP C (.pv (.lit (.int .i64 (IntKind.i64.wrap ((i : Int) + 1))))) ?_
   refine rvc_nil ?_
   refine ⟨h3, k, ?_, ?_⟩
   · exact hR
   · exact ⟨fun b => b, WeakerR.ofLI (I := [0]) (Ks := [0, 3]) hI ⟨⟨rfl, rfl⟩, ⟨rfl, rfl⟩, ⟨rfl, rfl⟩, ⟨rfl, rfl⟩, ⟨rfl, rfl⟩, ⟨lit_cast (wrap_i64 (by omega) (by omega)), rfl⟩, trivial⟩ (okH_cons rfl rfl rfl rfl (okH_cons rfl rfl rfl rfl (okH_nil))) rfl rfl⟩
 ·
  have h3 : ¬ i < n.items.D.length := by have := of_decide_eq_false h2; omega
  rw [drop_end h3] at hR
  refine Awp.exit ?_
  refine Awp.consP C ?_
  refine rvP C (.pv (.lit (.int .i64 k))) ?_
  refine rvP C (.pv (.lit (.int .i64 k))) ?_
  refine rvc_nil ?_
  refine Awp.ret ?_
  subst hR
  exact ⟨.inl rfl, rfl, rfl⟩
def rPlace_l0 (l : Link) (i : Int) : List Item → Nat → Int → Int
  | [], _, _ => (-1)
  | x :: xs, i1, k => (bif (!((x.l.from_ == l.from_) && ((x.l.to == l.to) && true))) then rPlace_l0 l i xs (i1 + 1) k else (bif (k == i) then (i1 : Int) else rPlace_l0 l i xs (i1 + 1) (IntKind.i64.wrap (k + 1))))
def rPlace (n : Net51) (l : Link) (i : Int) : Int :=
  rPlace_l0 l i n.items.D 0 0
theorem rPlace_calls (n : Net51) (l : Link) (i : Int) (hl1 : n.items.D.length ≤ 1000000) : MCalls Try.prog 45 [.ptr 0 0, .agg [.pv (.lit (.int .i64 l.from_)), .pv (.lit (.int .i64 l.to))], .pv (.lit (.int .i64 i))] (.cells [sS (some n.items.nil) eItem n.items.D, .pv (.lit (.bool (n.side 0))), .pv (.lit (.bool (n.side 1))), .pv (.lit (.bool (n.side 2))), .pv (.lit (.bool (n.side 3))), .pv (.lit (.bool (n.side 4))), .pv (.lit (.bool (n.side 5))), .pv (.lit (.bool (n.side 6))), .pv (.lit (.bool (n.side 7))), .pv (.lit (.bool (n.side 8))), .pv (.lit (.bool (n.side 9))), .pv (.lit (.bool (n.side 10))), .pv (.lit (.bool (n.side 11))), .pv (.lit (.bool (n.side 12))), .pv (.lit (.bool (n.side 13))), .pv (.lit (.bool (n.side 14))), .pv (.lit (.bool (n.side 15))), .pv (.lit (.bool (n.side 16))), .pv (.lit (.bool (n.side 17))), .pv (.lit (.bool (n.side 18))), .pv (.lit (.bool (n.side 19))), .pv (.lit (.bool (n.side 20))), .pv (.lit (.bool (n.side 21))), .pv (.lit (.bool (n.side 22))), .pv (.lit (.bool (n.side 23))), .pv (.lit (.bool (n.side 24))), .pv (.lit (.bool (n.side 25))), .pv (.lit (.bool (n.side 26))), .pv (.lit (.bool (n.side 27))), .pv (.lit (.bool (n.side 28))), .pv (.lit (.bool (n.side 29))), .pv (.lit (.bool (n.side 30))), .pv (.lit (.bool (n.side 31))), .pv (.lit (.bool (n.side 32))), .pv (.lit (.bool (n.side 33))), .pv (.lit (.bool (n.side 34))), .pv (.lit (.bool (n.side 35))), .pv (.lit (.bool (n.side 36))), .pv (.lit (.bool (n.side 37))), .pv (.lit (.bool (n.side 38))), .pv (.lit (.bool (n.side 39))), .pv (.lit (.bool (n.side 40))), .pv (.lit (.bool (n.side 41))), .pv (.lit (.bool (n.side 42))), .pv (.lit (.bool (n.side 43))), .pv (.lit (.bool (n.side 44))), .pv (.lit (.bool (n.side 45))), .pv (.lit (.bool (n.side 46))), .pv (.lit (.bool (n.side 47))), .pv (.lit (.bool (n.side 48))), .pv (.lit (.bool (n.side 49))), .pv (.lit (.bool (n.side 50))), .pv (.lit (.bool (n.side 51))), .pv (.lit (.bool (n.side 52))), .pv (.lit (.bool (n.side 53))), .pv (.lit (.bool (n.side 54))), .pv (.lit (.bool (n.side 55))), .pv (.lit (.bool (n.side 56))), .pv (.lit (.bool (n.side 57))), .pv (.lit (.bool (n.side 58))), .pv (.lit (.bool (n.side 59))), .pv (.lit (.bool (n.side 60))), .pv (.lit (.bool (n.side 61))), .pv (.lit (.bool (n.side 62))), .pv (.lit (.bool (n.side 63))), .pv (.lit (.int .i64 n.lost))]) (.pv (.lit (.int .i64 (rPlace n l i)))) (.cells [sS (some n.items.nil) eItem n.items.D, .pv (.lit (.bool (n.side 0))), .pv (.lit (.bool (n.side 1))), .pv (.lit (.bool (n.side 2))), .pv (.lit (.bool (n.side 3))), .pv (.lit (.bool (n.side 4))), .pv (.lit (.bool (n.side 5))), .pv (.lit (.bool (n.side 6))), .pv (.lit (.bool (n.side 7))), .pv (.lit (.bool (n.side 8))), .pv (.lit (.bool (n.side 9))), .pv (.lit (.bool (n.side 10))), .pv (.lit (.bool (n.side 11))), .pv (.lit (.bool (n.side 12))), .pv (.lit (.bool (n.side 13))), .pv (.lit (.bool (n.side 14))), .pv (.lit (.bool (n.side 15))), .pv (.lit (.bool (n.side 16))), .pv (.lit (.bool (n.side 17))), .pv (.lit (.bool (n.side 18))), .pv (.lit (.bool (n.side 19))), .pv (.lit (.bool (n.side 20))), .pv (.lit (.bool (n.side 21))), .pv (.lit (.bool (n.side 22))), .pv (.lit (.bool (n.side 23))), .pv (.lit (.bool (n.side 24))), .pv (.lit (.bool (n.side 25))), .pv (.lit (.bool (n.side 26))), .pv (.lit (.bool (n.side 27))), .pv (.lit (.bool (n.side 28))), .pv (.lit (.bool (n.side 29))), .pv (.lit (.bool (n.side 30))), .pv (.lit (.bool (n.side 31))), .pv (.lit (.bool (n.side 32))), .pv (.lit (.bool (n.side 33))), .pv (.lit (.bool (n.side 34))), .pv (.lit (.bool (n.side 35))), .pv (.lit (.bool (n.side 36))), .pv (.lit (.bool (n.side 37))), .pv (.lit (.bool (n.side 38))), .pv (.lit (.bool (n.side 39))), .pv (.lit (.bool (n.side 40))), .pv (.lit (.bool (n.side 41))), .pv (.lit (.bool (n.side 42))), .pv (.lit (.bool (n.side 43))), .pv (.lit (.bool (n.side 44))), .pv (.lit (.bool (n.side 45))), .pv (.lit (.bool (n.side 46))), .pv (.lit (.bool (n.side 47))), .pv (.lit (.bool (n.side 48))), .pv (.lit (.bool (n.side 49))), .pv (.lit (.bool (n.side 50))), .pv (.lit (.bool (n.side 51))), .pv (.lit (.bool (n.side 52))), .pv (.lit (.bool (n.side 53))), .pv (.lit (.bool (n.side 54))), .pv (.lit (.bool (n.side 55))), .pv (.lit (.bool (n.side 56))), .pv (.lit (.bool (n.side 57))), .pv (.lit (.bool (n.side 58))), .pv (.lit (.bool (n.side 59))), .pv (.lit (.bool (n.side 60))), .pv (.lit (.bool (n.side 61))), .pv (.lit (.bool (n.side 62))), .pv (.lit (.bool (n.side 63))), .pv (.lit (.int .i64 n.lost))]) := by
 generalize hR : rPlace n l i = R
 refine MCalls.of_body tabOk Try.func45 rfl rfl rfl rfl rfl rfl rfl mixed fun E hP C hI => ?_
 refine Awp.consP C ?_
 refine rvc_un (rexec_prim C (δ := { v := .ptr 4 0, new := [(4, .cells [.pv (.lit (.int .i64 l.from_)), .pv (.lit (.int .i64 l.to))])] }) rfl rfl rfl rfl trivial rfl ?_)
 refine rvP C (.pv (.lit (.int .i64 0))) ?_
 refine rvc_nil ?_
 refine Awp.consP C ?_
 refine rvP C (.pv (.lit (.int .i64 0))) ?_
 refine rvc_nil ?_
 refine Awp.seq ?_
 refine Awp.consP C ?_
 refine rvP C (.ptr 0 0) ?_
 refine rvP C (.ptr 0 0) ?_
 refine rvP C (.ptr 0 0) ?_
 refine rvP C (sS (some n.items.nil) eItem n.items.D) ?_
 refine rvP C (.pv (.lit (.int .i64 (n.items.D.length : Int)))) ?_
 refine rvP C (.pv (.lit (.int .i64 0))) ?_
 refine rvc_nil ?_
 refine Awp.block ?_
 refine Awp.forR (σ := Int) (n.items.D.length) (fun i1 v => [(0, .ptr 0 0), (2, .pv (.lit (.int .i64 i))), (4, .ptr 4 0), (7, .pv (.lit (.int .i64 v))), (13, sS (some n.items.nil) eItem n.items.D), (14, .pv (.lit (.int .i64 (n.items.D.length : Int)))), (15, .pv (.lit (.int .i64 (i1 : Int))))]) (fun i1 v => [(0, .cells [sS (some n.items.nil) eItem n.items.D, .pv (.lit (.bool (n.side 0))), .pv (.lit (.bool (n.side 1))), .pv (.lit (.bool (n.side 2))), .pv (.lit (.bool (n.side 3))), .pv (.lit (.bool (n.side 4))), .pv (.lit (.bool (n.side 5))), .pv (.lit (.bool (n.side 6))), .pv (.lit (.bool (n.side 7))), .pv (.lit (.bool (n.side 8))), .pv (.lit (.bool (n.side 9))), .pv (.lit (.bool (n.side 10))), .pv (.lit (.bool (n.side 11))), .pv (.lit (.bool (n.side 12))), .pv (.lit (.bool (n.side 13))), .pv (.lit (.bool (n.side 14))), .pv (.lit (.bool (n.side 15))), .pv (.lit (.bool (n.side 16))), .pv (.lit (.bool (n.side 17))), .pv (.lit (.bool (n.side 18))), .pv (.lit (.bool (n.side 19))), .pv (.lit (.bool (n.side 20))), .pv (.lit (.bool (n.side 21))), .pv (.lit (.bool (n.side 22))), .pv (.lit (.bool (n.side 23))), .pv (.lit (.bool (n.side 24))), .pv (.lit (.bool (n.side 25))), .pv (.lit (.bool (n.side 26))), .pv (.lit (.bool (n.side 27))), .pv (.lit (.bool (n.side 28))), .pv (.lit (.bool (n.side 29))), .pv (.lit (.bool (n.side 30))), .pv (.lit (.bool (n.side 31))), .pv (.lit (.bool (n.side 32))), .pv (.lit (.bool (n.side 33))), .pv (.lit (.bool (n.side 34))), .pv (.lit (.bool (n.side 35))), .pv (.lit (.bool (n.side 36))), .pv (.lit (.bool (n.side 37))), .pv (.lit (.bool (n.side 38))), .pv (.lit (.bool (n.side 39))), .pv (.lit (.bool (n.side 40))), .pv (.lit (.bool (n.side 41))), .pv (.lit (.bool (n.side 42))), .pv (.lit (.bool (n.side 43))), .pv (.lit (.bool (n.side 44))), .pv (.lit (.bool (n.side 45))), .pv (.lit (.bool (n.side 46))), .pv (.lit (.bool (n.side 47))), .pv (.lit (.bool (n.side 48))), .pv (.lit (.bool (n.side 49))), .pv (.lit (.bool (n.side 50))), .pv (.lit (.bool (n.side 51))), .pv (.lit (.bool (n.side 52))), .pv (.lit (.bool (n.side 53))), .pv (.lit (.bool (n.side 54))), .pv (.lit (.bool (n.side 55))), .pv (.lit (.bool (n.side 56))), .pv (.lit (.bool (n.side 57))), .pv (.lit (.bool (n.side 58))), .pv (.lit (.bool (n.side 59))), .pv (.lit (.bool (n.side 60))), .pv (.lit (.bool (n.side 61))), .pv (.lit (.bool (n.side 62))), .pv (.lit (.bool (n.side 63))), .pv (.lit (.int .i64 n.lost))]), (4, .cells [.pv (.lit (.int .i64 l.from_)), .pv (.lit (.int .i64 l.to))])]) [0, 4] (fun i1 v => rPlace_l0 l i (n.items.D.drop i1) i1 v = R) 0 ?_ ?_ (fun i1 k h1 hR => ?_)
 · exact hR
 · exact ⟨fun b => b, WeakerR.ofLI (I := [0]) (Ks := [0, 4]) hI ⟨⟨rfl, rfl⟩, ⟨rfl, rfl⟩, ⟨rfl, rfl⟩, ⟨rfl, rfl⟩, ⟨rfl, rfl⟩, ⟨rfl, rfl⟩, ⟨rfl, rfl⟩, trivial⟩ (okH_cons rfl rfl rfl rfl (okH_cons rfl rfl rfl rfl (okH_nil))) rfl rfl⟩
 refine Awp.consP C ?_
 refine rvP C (.pv (.lit (.bool (decide ((i1 : Int) < (n.items.D.length : Int)))))) ?_
 refine rvc_nil ?_
 refine Awp.seq ?_
 refine Awp.cond (b := (decide ((i1 : Int) < (n.items.D.length : Int)))) rfl (fun h2 => ?_) (fun h2 => ?_)
 ·
  have h3 : i1 < n.items.D.length := by have := of_decide_eq_true h2; omega
  obtain ⟨x, h4⟩ := getX h3
  rw [drop_at h4] at hR
  refine Awp.skip ?_
  refine Awp.seq ?_
  refine Awp.block ?_
  refine Awp.consP C ?_
  refine rvP C (.pv (.lit (.int .i64 (i1 : Int)))) ?_
  refine rvc_un (rexec_idxS C rfl rfl rfl rfl rfl rfl x (Int.natCast_nonneg _) h4 ?_)
  refine rvP C (.agg [.pv (.lit (.int .i64 x.l.from_)), .pv (.lit (.int .i64 x.l.to)), .pv (.lit (.string x.b))]) ?_
  refine rvc_un (rexec_prim C (δ := { v := .ptr 9 0, new := [(9, .cells [.pv (.lit (.int .i64 0)), .pv (.lit (.int .i64 0)), .pv (.lit (.string ⟨#[]⟩))])] }) rfl rfl rfl rfl trivial rfl ?_)
  refine rvP C (.pv (.lit (.int .i64 (i1 : Int)))) ?_
  refine rvc_un (rexec_prim C (δ := { v := .undef, wr := [(9, some (.cells [.pv (.lit (.int .i64 x.l.from_)), .pv (.lit (.int .i64 x.l.to)), .pv (.lit (.string x.b))]))] }) rfl rfl rfl rfl trivial rfl ?_)
  refine rvc_nil ?_
  refine Awp.seq ?_
  refine Awp.consP C ?_
  refine rvP C (.ptr 9 0) ?_
  refine rvP C (.agg [.pv (.lit (.int .i64 x.l.from_)), .pv (.lit (.int .i64 x.l.to))]) ?_
  refine rvP C (.agg [.pv (.lit (.int .i64 l.from_)), .pv (.lit (.int .i64 l.to))]) ?_
  refine rvP C (.pv (.lit (.bool (!((x.l.from_ == l.from_) && ((x.l.to == l.to) && true)))))) ?_
  refine rvc_nil ?_
  refine Awp.cond (b := (!((x.l.from_ == l.from_) && ((x.l.to == l.to) && true)))) rfl (fun h5 => ?_) (fun h5 => ?_)
  ·
   replace hR := of_true h5 hR
   refine Awp.exit ?_
   refine Awp.regionP C ?_
   refine rvP C (.pv (.lit (.int .i64 (IntKind.i64.wrap ((i1 : Int) + 1))))) ?_
   refine rvP C (.pv (.lit (.int .i64 (IntKind.i64.wrap ((i1 : Int) + 1))))) ?_
   refine rvc_nil ?_
   refine ⟨h3, k, ?_, ?_⟩
   · exact hR
   · exact ⟨fun b => b, WeakerR.ofLI (I := [0]) (Ks := [0, 4]) hI ⟨⟨rfl, rfl⟩, ⟨rfl, rfl⟩, ⟨rfl, rfl⟩, ⟨rfl, rfl⟩, ⟨rfl, rfl⟩, ⟨rfl, rfl⟩, ⟨lit_cast (wrap_i64 (by omega) (by omega)), rfl⟩, trivial⟩ (okH_cons rfl rfl rfl rfl (okH_cons rfl rfl rfl rfl (okH_nil))) rfl rfl⟩
  ·
   replace hR := of_false h5 hR
   refine Awp.skip ?_
   refine Awp.seq ?_
   refine Awp.consP C ?_
   refine rvP C (.pv (.lit (.int .i64 k))) ?_
   refine rvP C (.pv (.lit (.int .i64 i))) ?_
   refine rvP C (.pv (.lit (.bool (k == i)))) ?_
   refine rvc_nil ?_
   refine Awp.cond (b := (k == i)) rfl (fun h6 => ?_) (fun h6 => ?_)
   ·
    replace hR := of_true h6 hR
    refine Awp.consP C ?_
    refine rvP C (.pv (.lit (.int .i64 (i1 : Int)))) ?_
    refine rvP C (.pv (.lit (.int .i64 (i1 : Int)))) ?_
    refine rvc_nil ?_
    refine Awp.ret ?_
    subst hR
    exact ⟨.inl rfl, rfl, rfl⟩
   ·
    replace hR := of_false h6 hR
    refine Awp.skip ?_
    refine Awp.regionP C ?_
    refine rvP C (.pv (.lit (.int .i64 k))) ?_
    refine rvP C (.pv (.lit (.int .i64 (IntKind.i64.wrap (k + 1))))) ?_
    refine rvP C (.pv (.lit (.int .i64 (IntKind.i64.wrap (k + 1))))) ?_
    refine rvc_nil ?_
    refine Awp.regionP C ?_
    refine rvP C (.pv (.lit (.int .i64 (IntKind.i64.wrap ((i1 : Int) + 1))))) ?_
    refine rvP C (.pv (.lit (.int .i64 (IntKind.i64.wrap ((i1 : Int) + 1))))) ?_
    refine rvc_nil ?_
    refine ⟨h3, (IntKind.i64.wrap (k + 1)), ?_, ?_⟩
    · exact hR
    · exact ⟨fun b => b, WeakerR.ofLI (I := [0]) (Ks := [0, 4]) hI ⟨⟨rfl, rfl⟩, ⟨rfl, rfl⟩, ⟨rfl, rfl⟩, ⟨rfl, rfl⟩, ⟨rfl, rfl⟩, ⟨rfl, rfl⟩, ⟨lit_cast (wrap_i64 (by omega) (by omega)), rfl⟩, trivial⟩ (okH_cons rfl rfl rfl rfl (okH_cons rfl rfl rfl rfl (okH_nil))) rfl rfl⟩
 ·
  have h3 : ¬ i1 < n.items.D.length := by have := of_decide_eq_false h2; omega
  rw [drop_end h3] at hR
  refine Awp.exit ?_
  refine Awp.consP C ?_
  refine rvP C (.pv (.lit (.int .i64 (-1)))) ?_
  refine rvc_nil ?_
  refine Awp.ret ?_
  subst hR
  exact ⟨.inl rfl, rfl, rfl⟩
end Go.Proofs.Ytpeeofofagfooaa
namespace Go.Proofs.Ytpeeofofagfooaa
open Go.Am
theorem rPlace_l0_lt (l : Link) (i : Int) : ∀ (D : List Item) (j : Nat) (k : Int), -1 ≤ rPlace_l0 l i D j k ∧ rPlace_l0 l i D j k < (j + D.length : Nat)
  | [], j, k => by unfold rPlace_l0; refine ⟨Int.le_refl _, ?_⟩; omega
  | x :: xs, j, k => by
    unfold rPlace_l0
    have h1 := rPlace_l0_lt l i xs (j + 1) k
    have h2 := rPlace_l0_lt l i xs (j + 1) (IntKind.i64.wrap (k + 1))
    rw [List.length_cons]
    cases !((x.l.from_ == l.from_) && ((x.l.to == l.to) && true))
    · rw [cond_false]
      cases k == i
      · rw [cond_false]; omega
      · rw [cond_true]; omega
    · rw [cond_true]; omega
theorem rPlace_lt (n : Net51) (l : Link) (i : Int) : -1 ≤ rPlace n l i ∧ rPlace n l i < (n.items.D.length : Int) := by
  have := rPlace_l0_lt l i n.items.D 0 0
  unfold rPlace; omega
theorem rPlace_l0_at (l : Link) (i : Int) : ∀ (D : List Item) (j : Nat) (k : Int), ¬ rPlace_l0 l i D j k < 0 → ∃ x ∈ D, x.l.from_ = l.from_ ∧ x.l.to = l.to
  | [], j, k => by unfold rPlace_l0; intro h; exact absurd (by decide) h
  | x :: xs, j, k => by
    unfold rPlace_l0
    have h1 := rPlace_l0_at l i xs (j + 1) k
    have h2 := rPlace_l0_at l i xs (j + 1) (IntKind.i64.wrap (k + 1))
    cases hx : !((x.l.from_ == l.from_) && ((x.l.to == l.to) && true))
    · rw [cond_false]
      intro _
      exact ⟨x, List.mem_cons_self .., by simpa using hx⟩
    · rw [cond_true]
      intro h
      obtain ⟨y, hy, e⟩ := h1 h
      exact ⟨y, List.mem_cons_of_mem _ hy, e⟩
/-- A net of the document: what is on its way is on links. -/
def okR (n : Net51) : Prop := ∀ x ∈ n.items.D, rRight x.l = true
theorem rRight_le {l : Link} (h : rRight l = true) : 0 ≤ l.from_ ∧ l.from_ < 32 ∧ 0 ≤ l.to ∧ l.to < 32 ∧ l.from_ ≠ l.to := by
  unfold rRight at h
  cases h1 : decide (l.from_ ≥ 0) <;> cases h2 : decide (l.from_ < 32) <;> cases h3 : decide (l.to ≥ 0) <;> cases h4 : decide (l.to < 32) <;> simp_all
theorem rTake_ix {n : Net51} {l : Link} {i : Int} (ho : okR n) (h : decide (rPlace n l i < 0) = false) : (0 ≤ l.from_ ∧ l.from_ < 64) ∧ (0 ≤ l.to ∧ l.to < 64) := by
  obtain ⟨x, hx, e1, e2⟩ := rPlace_l0_at l i n.items.D 0 0 (of_decide_eq_false h)
  have := rRight_le (ho x hx)
  omega
theorem rLen_l0_le (l : Link) : ∀ (D : List Item) (i : Nat) (k : Int), 0 ≤ k → k + D.length ≤ 9223372036854775807 → 0 ≤ rLen_l0 l D i k ∧ rLen_l0 l D i k ≤ k + D.length
  | [], i, k, h, _ => ⟨h, by unfold rLen_l0; omega⟩
  | x :: xs, i, k, h, h2 => by
    unfold rLen_l0
    rw [List.length_cons] at h2 ⊢
    have h3 := rLen_l0_le l xs (i + 1) k h (by omega)
    have e : IntKind.i64.wrap (k + 1) = k + 1 := wrapI _ (by show -9223372036854775808 ≤ k + 1 ∧ k + 1 ≤ 9223372036854775807; omega)
    have h4 := rLen_l0_le l xs (i + 1) (k + 1) (by omega) (by omega)
    rw [e]
    cases ((x.l.from_ == l.from_) && ((x.l.to == l.to) && true))
    · rw [cond_false]; omega
    · rw [cond_true]; omega
theorem rLen_le (n : Net51) (l : Link) : n.items.D.length ≤ 1000000 → 0 ≤ rLen n l ∧ rLen n l ≤ (n.items.D.length : Int) := fun h => by
  have := rLen_l0_le l n.items.D 0 0 (Int.le_refl _) (by omega)
  unfold rLen; omega
end Go.Proofs.Ytpeeofofagfooaa
namespace Go.Proofs.Ytpeeofofagfooaa
open Go.Am
def rPeek (n : Net51) (l : Link) (i : Int) : ByteArray × Int :=
  (bif (decide ((rPlace n l i) < 0)) then (⟨#[]⟩, 40) else (n.items.D[(rPlace n l i).toNat]!.b, 0))
theorem rPeek_calls (n : Net51) (l : Link) (i : Int) (hl1 : n.items.D.length ≤ 1000000) : MCalls Try.prog 22 [.ptr 0 0, .agg [.pv (.lit (.int .i64 l.from_)), .pv (.lit (.int .i64 l.to))], .pv (.lit (.int .i64 i))] (.cells [sS (some n.items.nil) eItem n.items.D, .pv (.lit (.bool (n.side 0))), .pv (.lit (.bool (n.side 1))), .pv (.lit (.bool (n.side 2))), .pv (.lit (.bool (n.side 3))), .pv (.lit (.bool (n.side 4))), .pv (.lit (.bool (n.side 5))), .pv (.lit (.bool (n.side 6))), .pv (.lit (.bool (n.side 7))), .pv (.lit (.bool (n.side 8))), .pv (.lit (.bool (n.side 9))), .pv (.lit (.bool (n.side 10))), .pv (.lit (.bool (n.side 11))), .pv (.lit (.bool (n.side 12))), .pv (.lit (.bool (n.side 13))), .pv (.lit (.bool (n.side 14))), .pv (.lit (.bool (n.side 15))), .pv (.lit (.bool (n.side 16))), .pv (.lit (.bool (n.side 17))), .pv (.lit (.bool (n.side 18))), .pv (.lit (.bool (n.side 19))), .pv (.lit (.bool (n.side 20))), .pv (.lit (.bool (n.side 21))), .pv (.lit (.bool (n.side 22))), .pv (.lit (.bool (n.side 23))), .pv (.lit (.bool (n.side 24))), .pv (.lit (.bool (n.side 25))), .pv (.lit (.bool (n.side 26))), .pv (.lit (.bool (n.side 27))), .pv (.lit (.bool (n.side 28))), .pv (.lit (.bool (n.side 29))), .pv (.lit (.bool (n.side 30))), .pv (.lit (.bool (n.side 31))), .pv (.lit (.bool (n.side 32))), .pv (.lit (.bool (n.side 33))), .pv (.lit (.bool (n.side 34))), .pv (.lit (.bool (n.side 35))), .pv (.lit (.bool (n.side 36))), .pv (.lit (.bool (n.side 37))), .pv (.lit (.bool (n.side 38))), .pv (.lit (.bool (n.side 39))), .pv (.lit (.bool (n.side 40))), .pv (.lit (.bool (n.side 41))), .pv (.lit (.bool (n.side 42))), .pv (.lit (.bool (n.side 43))), .pv (.lit (.bool (n.side 44))), .pv (.lit (.bool (n.side 45))), .pv (.lit (.bool (n.side 46))), .pv (.lit (.bool (n.side 47))), .pv (.lit (.bool (n.side 48))), .pv (.lit (.bool (n.side 49))), .pv (.lit (.bool (n.side 50))), .pv (.lit (.bool (n.side 51))), .pv (.lit (.bool (n.side 52))), .pv (.lit (.bool (n.side 53))), .pv (.lit (.bool (n.side 54))), .pv (.lit (.bool (n.side 55))), .pv (.lit (.bool (n.side 56))), .pv (.lit (.bool (n.side 57))), .pv (.lit (.bool (n.side 58))), .pv (.lit (.bool (n.side 59))), .pv (.lit (.bool (n.side 60))), .pv (.lit (.bool (n.side 61))), .pv (.lit (.bool (n.side 62))), .pv (.lit (.bool (n.side 63))), .pv (.lit (.int .i64 n.lost))]) (.tup [.pv (.lit (.string ((rPeek n l i).1))), .pv (.lit (.int .i64 ((rPeek n l i).2)))]) (.cells [sS (some n.items.nil) eItem n.items.D, .pv (.lit (.bool (n.side 0))), .pv (.lit (.bool (n.side 1))), .pv (.lit (.bool (n.side 2))), .pv (.lit (.bool (n.side 3))), .pv (.lit (.bool (n.side 4))), .pv (.lit (.bool (n.side 5))), .pv (.lit (.bool (n.side 6))), .pv (.lit (.bool (n.side 7))), .pv (.lit (.bool (n.side 8))), .pv (.lit (.bool (n.side 9))), .pv (.lit (.bool (n.side 10))), .pv (.lit (.bool (n.side 11))), .pv (.lit (.bool (n.side 12))), .pv (.lit (.bool (n.side 13))), .pv (.lit (.bool (n.side 14))), .pv (.lit (.bool (n.side 15))), .pv (.lit (.bool (n.side 16))), .pv (.lit (.bool (n.side 17))), .pv (.lit (.bool (n.side 18))), .pv (.lit (.bool (n.side 19))), .pv (.lit (.bool (n.side 20))), .pv (.lit (.bool (n.side 21))), .pv (.lit (.bool (n.side 22))), .pv (.lit (.bool (n.side 23))), .pv (.lit (.bool (n.side 24))), .pv (.lit (.bool (n.side 25))), .pv (.lit (.bool (n.side 26))), .pv (.lit (.bool (n.side 27))), .pv (.lit (.bool (n.side 28))), .pv (.lit (.bool (n.side 29))), .pv (.lit (.bool (n.side 30))), .pv (.lit (.bool (n.side 31))), .pv (.lit (.bool (n.side 32))), .pv (.lit (.bool (n.side 33))), .pv (.lit (.bool (n.side 34))), .pv (.lit (.bool (n.side 35))), .pv (.lit (.bool (n.side 36))), .pv (.lit (.bool (n.side 37))), .pv (.lit (.bool (n.side 38))), .pv (.lit (.bool (n.side 39))), .pv (.lit (.bool (n.side 40))), .pv (.lit (.bool (n.side 41))), .pv (.lit (.bool (n.side 42))), .pv (.lit (.bool (n.side 43))), .pv (.lit (.bool (n.side 44))), .pv (.lit (.bool (n.side 45))), .pv (.lit (.bool (n.side 46))), .pv (.lit (.bool (n.side 47))), .pv (.lit (.bool (n.side 48))), .pv (.lit (.bool (n.side 49))), .pv (.lit (.bool (n.side 50))), .pv (.lit (.bool (n.side 51))), .pv (.lit (.bool (n.side 52))), .pv (.lit (.bool (n.side 53))), .pv (.lit (.bool (n.side 54))), .pv (.lit (.bool (n.side 55))), .pv (.lit (.bool (n.side 56))), .pv (.lit (.bool (n.side 57))), .pv (.lit (.bool (n.side 58))), .pv (.lit (.bool (n.side 59))), .pv (.lit (.bool (n.side 60))), .pv (.lit (.bool (n.side 61))), .pv (.lit (.bool (n.side 62))), .pv (.lit (.bool (n.side 63))), .pv (.lit (.int .i64 n.lost))]) := by
 generalize hR : rPeek n l i = R
 refine MCalls.of_body tabOk Try.func22 rfl rfl rfl rfl rfl rfl rfl mixed fun E hP C hI => ?_
 refine Awp.consP C ?_
 refine rvc_un (rexec_prim C (δ := { v := .ptr 4 0, new := [(4, .cells [.pv (.lit (.int .i64 l.from_)), .pv (.lit (.int .i64 l.to))])] }) rfl rfl rfl rfl trivial rfl ?_)
 refine rvP C (.pv (.lit (.string ⟨#[]⟩))) ?_
 refine rvP C (.pv (.lit (.int .i64 0))) ?_
 refine rvc_nil ?_
 refine Awp.cons C (fun _ => .writer) (by kernel_rfl) ?_
 refine rvP C (.ptr 0 0) ?_
 refine rvP C (.agg [.pv (.lit (.int .i64 l.from_)), .pv (.lit (.int .i64 l.to))]) ?_
 refine rvP C (.pv (.lit (.int .i64 i))) ?_
 refine rvc_un (rexec_callM hP C (b := 0) rfl rfl rfl (rPlace_calls n l i hl1) rfl rfl ?_)
 refine rvP C (.pv (.lit (.int .i64 (rPlace n l i)))) ?_
 refine rvc_nil ?_
 refine Awp.seq ?_
 refine Awp.consP C ?_
 refine rvP C (.pv (.lit (.int .i64 (rPlace n l i)))) ?_
 refine rvP C (.pv (.lit (.bool (decide ((rPlace n l i) < 0))))) ?_
 refine rvc_nil ?_
 refine Awp.cond (b := (decide ((rPlace n l i) < 0))) rfl (fun h1 => ?_) (fun h1 => ?_)
 ·
  replace hR := of_true h1 hR
  refine Awp.consP C ?_
  refine rvP C (.pv (.lit (.string ⟨#[]⟩))) ?_
  refine rvP C (.pv (.lit (.int .i64 40))) ?_
  refine rvc_nil ?_
  refine Awp.ret ?_
  subst hR
  exact ⟨.inl rfl, rfl, rfl⟩
 ·
  replace hR := of_false h1 hR
  refine Awp.skip ?_
  refine Awp.consP C ?_
  refine rvP C (.ptr 0 0) ?_
  refine rvP C (.ptr 0 0) ?_
  refine rvP C (.ptr 0 0) ?_
  refine rvP C (sS (some n.items.nil) eItem n.items.D) ?_
  refine rvP C (.pv (.lit (.int .i64 (rPlace n l i)))) ?_
  have h2 : n.items.D[(rPlace n l i).toNat]? = some n.items.D[(rPlace n l i).toNat]! := getE (by have := rPlace_lt n l i; have := wrapI (rPlace n l i + 1); have := of_decide_eq_false h1; omega)
  refine rvc_un (rexec_idxS C rfl rfl rfl rfl rfl rfl (n.items.D[(rPlace n l i).toNat]!) (by have := rPlace_lt n l i; have := wrapI (rPlace n l i + 1); have := of_decide_eq_false h1; omega) h2 ?_)
  refine rvP C (.rp [.lit (.string (n.items.D[(rPlace n l i).toNat]!.b))]) ?_
  refine rvP C (.pv (.lit (.string (n.items.D[(rPlace n l i).toNat]!.b)))) ?_
  refine rvP C (.pv (.lit (.string (n.items.D[(rPlace n l i).toNat]!.b)))) ?_
  refine rvP C (.pv (.lit (.int .i64 0))) ?_
  refine rvc_nil ?_
  refine Awp.ret ?_
  subst hR
  exact ⟨.inl rfl, rfl, rfl⟩
end Go.Proofs.Ytpeeofofagfooaa
