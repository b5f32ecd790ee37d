/- The contract of the law TagShort: it is true, whatever the input. No conditions. -/
import Derived.Test.YtaoagcdljmpllaaTagR
import Derived.Test.YtaoagcdljmpllaaTagQ
namespace Go.Proofs.Ytaoagcdljmpllaa
open Go.Am

theorem sh_step {d : Nat → Int} (h : ∀ t, R8 (d t)) (i : Nat) : shN d (i + 1) = IntKind.u64.wrap (IntKind.u64.wrap (256 * shN d i) + IntKind.u64.wrap (d i)) := by
  rw [← (rs_eq h (i + 1)).1, rsN, (rs_eq h i).1]
theorem sh_val1 {d : Nat → Int} (h : ∀ t, R8 (d t)) : shN d 1 = 1 * d 0 := by
  rw [sh_step h 0]
  simp only [wrap_u64, shN]
  obtain ⟨a0, b0⟩ := h 0
  omega
theorem sh_val2 {d : Nat → Int} (h : ∀ t, R8 (d t)) : shN d 2 = 256 * d 0 + 1 * d 1 := by
  rw [sh_step h 1, sh_val1 h]
  simp only [wrap_u64]
  obtain ⟨a0, b0⟩ := h 0
  obtain ⟨a1, b1⟩ := h 1
  omega
theorem sh_val3 {d : Nat → Int} (h : ∀ t, R8 (d t)) : shN d 3 = 65536 * d 0 + 256 * d 1 + 1 * d 2 := by
  rw [sh_step h 2, sh_val2 h]
  simp only [wrap_u64]
  obtain ⟨a0, b0⟩ := h 0
  obtain ⟨a1, b1⟩ := h 1
  obtain ⟨a2, b2⟩ := h 2
  omega
theorem sh_val4 {d : Nat → Int} (h : ∀ t, R8 (d t)) : shN d 4 = 16777216 * d 0 + 65536 * d 1 + 256 * d 2 + 1 * d 3 := by
  rw [sh_step h 3, sh_val3 h]
  simp only [wrap_u64]
  obtain ⟨a0, b0⟩ := h 0
  obtain ⟨a1, b1⟩ := h 1
  obtain ⟨a2, b2⟩ := h 2
  obtain ⟨a3, b3⟩ := h 3
  omega
theorem sh_val5 {d : Nat → Int} (h : ∀ t, R8 (d t)) : shN d 5 = 4294967296 * d 0 + 16777216 * d 1 + 65536 * d 2 + 256 * d 3 + 1 * d 4 := by
  rw [sh_step h 4, sh_val4 h]
  simp only [wrap_u64]
  obtain ⟨a0, b0⟩ := h 0
  obtain ⟨a1, b1⟩ := h 1
  obtain ⟨a2, b2⟩ := h 2
  obtain ⟨a3, b3⟩ := h 3
  obtain ⟨a4, b4⟩ := h 4
  omega
theorem sh_val6 {d : Nat → Int} (h : ∀ t, R8 (d t)) : shN d 6 = 1099511627776 * d 0 + 4294967296 * d 1 + 16777216 * d 2 + 65536 * d 3 + 256 * d 4 + 1 * d 5 := by
  rw [sh_step h 5, sh_val5 h]
  simp only [wrap_u64]
  obtain ⟨a0, b0⟩ := h 0
  obtain ⟨a1, b1⟩ := h 1
  obtain ⟨a2, b2⟩ := h 2
  obtain ⟨a3, b3⟩ := h 3
  obtain ⟨a4, b4⟩ := h 4
  obtain ⟨a5, b5⟩ := h 5
  omega
theorem sh_val7 {d : Nat → Int} (h : ∀ t, R8 (d t)) : shN d 7 = 281474976710656 * d 0 + 1099511627776 * d 1 + 4294967296 * d 2 + 16777216 * d 3 + 65536 * d 4 + 256 * d 5 + 1 * d 6 := by
  rw [sh_step h 6, sh_val6 h]
  simp only [wrap_u64]
  obtain ⟨a0, b0⟩ := h 0
  obtain ⟨a1, b1⟩ := h 1
  obtain ⟨a2, b2⟩ := h 2
  obtain ⟨a3, b3⟩ := h 3
  obtain ⟨a4, b4⟩ := h 4
  obtain ⟨a5, b5⟩ := h 5
  obtain ⟨a6, b6⟩ := h 6
  omega
theorem sh_val8 {d : Nat → Int} (h : ∀ t, R8 (d t)) : shN d 8 = 72057594037927936 * d 0 + 281474976710656 * d 1 + 1099511627776 * d 2 + 4294967296 * d 3 + 16777216 * d 4 + 65536 * d 5 + 256 * d 6 + 1 * d 7 := by
  rw [sh_step h 7, sh_val7 h]
  simp only [wrap_u64]
  obtain ⟨a0, b0⟩ := h 0
  obtain ⟨a1, b1⟩ := h 1
  obtain ⟨a2, b2⟩ := h 2
  obtain ⟨a3, b3⟩ := h 3
  obtain ⟨a4, b4⟩ := h 4
  obtain ⟨a5, b5⟩ := h 5
  obtain ⟨a6, b6⟩ := h 6
  obtain ⟨a7, b7⟩ := h 7
  omega
theorem sh_byte {d : Nat → Int} (h : ∀ t, R8 (d t)) (i : Nat) (hi : i < 8) : IntKind.u8.wrap (shrI .u64 (shN d 8) ((56 - 8 * i : Nat) : Int)) = d i := by
  rw [sh_val8 h, wrap_u8]
  obtain ⟨a0, b0⟩ := h 0
  obtain ⟨a1, b1⟩ := h 1
  obtain ⟨a2, b2⟩ := h 2
  obtain ⟨a3, b3⟩ := h 3
  obtain ⟨a4, b4⟩ := h 4
  obtain ⟨a5, b5⟩ := h 5
  obtain ⟨a6, b6⟩ := h 6
  obtain ⟨a7, b7⟩ := h 7
  rcases (by omega : i = 0 ∨ i = 1 ∨ i = 2 ∨ i = 3 ∨ i = 4 ∨ i = 5 ∨ i = 6 ∨ i = 7) with rfl | rfl | rfl | rfl | rfl | rfl | rfl | rfl
  · show _ / (72057594037927936 : Int) % 256 = _; omega
  · show _ / (281474976710656 : Int) % 256 = _; omega
  · show _ / (1099511627776 : Int) % 256 = _; omega
  · show _ / (4294967296 : Int) % 256 = _; omega
  · show _ / (16777216 : Int) % 256 = _; omega
  · show _ / (65536 : Int) % 256 = _; omega
  · show _ / (256 : Int) % 256 = _; omega
  · show _ / (1 : Int) % 256 = _; omega
theorem bytes_R8 (k : Nat → Int) (t : Nat) : R8 (bytesF k t) := by
  simp only [bytesF, wrap_u8]; constructor <;> omega
theorem ofF_R8 (K D : List Int) (t : Nat) : R8 (ofF K D t) := bytes_R8 _ t
theorem R8l.of_wf {D : List Int} (h : ∀ n ∈ D, (Lit.int .u8 n).wf = true) : R8l D := fun s => by
  rw [List.getD_eq_getElem?_getD]
  cases hs : D[s]? with
  | none => exact ⟨by decide, by decide⟩
  | some x =>
    have := h x (List.mem_of_getElem? hs)
    simp [Lit.wf, IntKind.min, IntKind.max, IntKind.signed, IntKind.bits] at this
    exact ⟨this.1, by have := this.2; simp only [Option.getD_some]; omega⟩

theorem tagShort_calls' {x y : AV} {fK fD : Option Bool} {K D : List Int} (hx : x = sI fK .u8 K) (hy : y = sI fD .u8 D) {d : Nat → Int} {e : Int} (hd : ∀ t, R8 (d t)) (hK : K.length ≤ 4096) (hD : D.length ≤ 4096) (h14 : PCalls Try.prog 14 [sI fK .u8 K, sI fD .u8 D] (.tup [.agg (cI .u8 (tb 16 d)), .pv (.int .i64 e)])) (h23 : PCalls Try.prog 23 [sI fK .u8 K, sI fD .u8 D] (.tup [.agg (cI .u8 (tb 16 d)), .pv (.int .i64 e)])) : PCalls Try.prog 5 [x, y] (.pv (.bool true)) := by
  subst hx hy
  refine PCalls.of_body tabOk Try.func5 rfl rfl rfl rfl rfl mixed fun E hP C hI => ?_
  have gK : decide ((K.length : Int) > 4096) = false := by simp; omega
  refine Awp.cons C (fun _ => .pure) (by kernel_rfl) ?_ -- region 0 false
  refine rvc_prim C rfl rfl rfl rfl (trivial) rfl ?_ -- t4 assign
  refine rvc_nil ?_
  refine Awp.seq ?_
  refine Awp.cons C (fun _ => .pure) (by kernel_rfl) ?_ -- region 1 false
  refine rvc_prim C rfl rfl rfl rfl (trivial) rfl ?_ -- t13 move
  refine rvc_prim C rfl rfl rfl rfl (trivial) rfl ?_ -- t14 call
  refine rvc_prim C rfl rfl rfl rfl trivial rfl ?_
  rw [gK]
  refine rvc_prim C rfl rfl rfl rfl (trivial) rfl ?_ -- t16 move
  refine rvc_open rfl rfl rfl (rexec_prim C rfl rfl rfl rfl (trivial) rfl ?_) -- t17 move
  refine rvc_open rfl rfl rfl (rexec_prim C rfl rfl rfl rfl (trivial) rfl ?_) -- t18 call
  refine rvc_open rfl rfl rfl (rexec_prim C rfl rfl rfl rfl (trivial) rfl ?_) -- t19 binOp
  refine rvc_prim C rfl rfl rfl rfl (trivial) rfl ?_ -- t20 pick
  refine rvc_nil ?_
  refine Awp.condF rfl (by simp; omega) ?_
  refine Awp.skip ?_
  refine Awp.cons C (fun _ => .pure) (by kernel_rfl) ?_ -- region 3 false
  refine rvc_prim C rfl rfl rfl rfl (trivial) rfl ?_ -- t23 move
  refine rvc_prim C rfl rfl rfl rfl (trivial) rfl ?_ -- t24 move
  refine rvc_call hP C rfl rfl rfl (short_calls h14) ?_ -- t25 call
  refine rvc_prim C rfl rfl rfl rfl (trivial) rfl ?_ -- t22 move
  refine rvc_prim C rfl rfl rfl rfl (trivial) rfl ?_ -- t26 extract
  refine rvc_prim C rfl rfl rfl rfl (trivial) rfl ?_ -- t27 extract
  refine rvc_prim C rfl rfl rfl rfl (trivial) rfl ?_ -- t5 assign
  refine rvc_prim C rfl rfl rfl rfl (trivial) rfl ?_ -- t6 assign
  refine rvc_nil ?_
  refine Awp.cons C (fun _ => .pure) (by kernel_rfl) ?_ -- region 4 false
  refine rvc_prim C rfl rfl rfl rfl (trivial) rfl ?_ -- t29 move
  refine rvc_prim C rfl rfl rfl rfl (trivial) rfl ?_ -- t30 move
  refine rvc_call hP C rfl rfl rfl (refShort_calls hd h23) ?_ -- t31 call
  refine rvc_prim C rfl rfl rfl rfl (trivial) rfl ?_ -- t28 move
  refine rvc_prim C rfl rfl rfl rfl (trivial) rfl ?_ -- t32 extract
  refine rvc_prim C rfl rfl rfl rfl (trivial) rfl ?_ -- t33 extract
  refine rvc_prim C rfl rfl rfl rfl (trivial) rfl ?_ -- t7 assign
  refine rvc_prim C rfl rfl rfl rfl (trivial) rfl ?_ -- t8 assign
  refine rvc_nil ?_
  refine Awp.cons C (fun _ => .pure) (by kernel_rfl) ?_ -- region 5 false
  refine rvc_prim C rfl rfl rfl rfl (trivial) rfl ?_ -- t35 move
  refine rvc_prim C rfl rfl rfl rfl (trivial) rfl ?_ -- t36 move
  refine rvc_call hP C rfl rfl rfl (h14) ?_ -- t37 call
  refine rvc_prim C rfl rfl rfl rfl (trivial) rfl ?_ -- t34 move
  refine rvc_prim C rfl rfl rfl rfl (trivial) rfl ?_ -- t38 extract
  refine rvc_prim C rfl rfl rfl rfl (trivial) rfl ?_ -- t39 extract
  refine rvc_prim C rfl rfl rfl rfl (trivial) rfl ?_ -- t9 alloc
  refine rvc_prim C rfl rfl rfl rfl (trivial) rfl ?_ -- s0 store
  refine rvc_prim C rfl rfl rfl rfl (trivial) rfl ?_ -- t10 assign
  refine rvc_nil ?_
  refine Awp.seq ?_
  refine Awp.cons C (fun _ => .pure) (by kernel_rfl) ?_ -- region 6 false
  refine rvc_prim C rfl rfl rfl rfl (⟨⟨by decide, by decide, by decide⟩, Nat.le_refl 16, .inl rfl⟩) rfl ?_ -- t40 slice
  refine rvc_prim C rfl rfl rfl rfl (trivial) rfl ?_ -- t41 call
  refine rvc_prim C rfl rfl rfl rfl (trivial) rfl ?_ -- t42 move
  refine rvc_nil ?_
  refine Awp.block ?_
  refine Awp.forN (8) (fun i => [(5, .pv (.int .u64 (shN d 8))), (6, .pv (.int .i64 e)), (7, .pv (.int .u64 (shN d 8))), (8, .pv (.int .i64 e)), (9, .ptr 9 0), (10, .pv (.int .i64 e)), (40, .sl 9 0 8 1 false), (41, .pv (.int .i64 8)), (42, .pv (.int .i64 i))]) (fun i => [(9, .cells (cI .u8 (tb 16 d)))]) [9] ?_ (fun i hi => ?_) ?_
  · exact Weaker.of hI ⟨rfl, rfl, rfl, rfl, rfl, rfl, rfl, rfl, rfl, trivial⟩ ⟨rfl, trivial⟩ rfl (by simp [Blk.within, cI_within])
  ·
    have m2 : IntKind.i64.wrap (56 - IntKind.i64.wrap (8 * (i : Int))) = ((56 - 8 * i : Nat) : Int) := by
      rw [wrap_i64 (n := 8 * (i : Int)) (by omega) (by omega), wrap_i64 (by omega) (by omega)]; omega
    refine Awp.cons C (fun _ => .pure) (by kernel_rfl) ?_ -- region 7 false
    refine rvc_prim C rfl rfl rfl rfl (trivial) rfl ?_ -- t43 binOp
    refine rvc_nil ?_
    refine Awp.seq ?_
    refine Awp.condT rfl (by simp; omega) ?_
    refine Awp.skip ?_
    refine Awp.seq ?_
    refine Awp.block ?_
    refine Awp.cons C (fun _ => .pure) (by kernel_rfl) ?_ -- region 8 false
    refine rvc_prim C rfl rfl rfl rfl (trivial) rfl ?_ -- t44 move
    refine rvc_prim C rfl rfl rfl rfl (⟨by omega, by omega⟩) rfl ?_ -- t45 indexAddr
    refine rvc_load C rfl rfl rfl rfl rfl (cI_at i (by show 0 + 0 * 1 + (i : Int).toNat * 1 = _; omega) (by omega)) ?_
    refine rvc_prim C rfl rfl rfl rfl (trivial) rfl ?_ -- t11 assign
    refine rvc_prim C rfl rfl rfl rfl (trivial) rfl ?_ -- t12 assign
    refine rvc_nil ?_
    refine Awp.cons C (fun _ => .pure) (by kernel_rfl) ?_ -- region 9 false
    refine rvc_prim C rfl rfl rfl rfl (trivial) rfl ?_ -- t47 move
    refine rvc_prim C rfl rfl rfl rfl (trivial) rfl ?_ -- t48 move
    refine rvc_prim C rfl rfl rfl rfl (trivial) rfl ?_ -- t49 binOp
    refine rvc_prim C rfl rfl rfl rfl (trivial) rfl ?_ -- t50 binOp
    refine rvc_prim C rfl rfl rfl rfl (by rw [m2]; omega) rfl ?_ -- t51 binOp
    refine rvc_prim C rfl rfl rfl rfl (trivial) rfl ?_ -- t52 convert
    refine rvc_prim C rfl rfl rfl rfl (trivial) rfl ?_ -- t53 move
    refine rvc_prim C rfl rfl rfl rfl (trivial) rfl ?_ -- t54 binOp
    refine rvc_nil ?_
    refine Awp.condF rfl (by rw [m2, sh_byte hd i hi]; simp) ?_
    refine Awp.skip ?_
    refine Awp.region C (fun _ => .pure) (by kernel_rfl) ?_ -- region 11 false
    refine rvc_prim C rfl rfl rfl rfl (trivial) rfl ?_ -- t55 binOp
    refine rvc_prim C rfl rfl rfl rfl (trivial) rfl ?_ -- t42 move
    refine rvc_nil ?_
    exact Weaker.of hI ⟨rfl, rfl, rfl, rfl, rfl, rfl, rfl, rfl, lit_cast (wrap_i64 (by omega) (by omega)), trivial⟩ ⟨rfl, trivial⟩ rfl (by simp [Blk.within, cI_within])
  ·
    refine Awp.cons C (fun _ => .pure) (by kernel_rfl) ?_ -- region 7 false
    refine rvc_prim C rfl rfl rfl rfl (trivial) rfl ?_ -- t43 binOp
    refine rvc_nil ?_
    refine Awp.seq ?_
    refine Awp.condF rfl (by simp) ?_
    refine Awp.exit ?_
    refine Awp.cons C (fun _ => .pure) (by kernel_rfl) ?_ -- region 12 false
    refine rvc_prim C rfl rfl rfl rfl (trivial) rfl ?_ -- t56 move
    refine rvc_prim C rfl rfl rfl rfl (trivial) rfl ?_ -- t57 move
    refine rvc_prim C rfl rfl rfl rfl trivial rfl ?_
    rw [beq_self_eq_true]
    refine rvc_prim C rfl rfl rfl rfl (trivial) rfl ?_ -- t59 move
    refine rvc_open rfl rfl rfl (rexec_prim C rfl rfl rfl rfl (trivial) rfl ?_) -- t60 move
    refine rvc_open rfl rfl rfl (rexec_prim C rfl rfl rfl rfl (trivial) rfl ?_) -- t61 move
    refine rvc_open rfl rfl rfl (rexec_prim C rfl rfl rfl rfl trivial rfl ?_)
    rw [beq_self_eq_true]
    refine rvc_prim C rfl rfl rfl rfl (trivial) rfl ?_ -- t63 pick
    refine rvc_prim C rfl rfl rfl rfl (trivial) rfl ?_ -- t64 move
    refine rvc_open rfl rfl rfl (rexec_prim C rfl rfl rfl rfl (trivial) rfl ?_) -- t65 move
    refine rvc_open rfl rfl rfl (rexec_prim C rfl rfl rfl rfl (trivial) rfl ?_) -- t66 move
    refine rvc_open rfl rfl rfl (rexec_prim C rfl rfl rfl rfl trivial rfl ?_)
    rw [beq_self_eq_true]
    refine rvc_prim C rfl rfl rfl rfl (trivial) rfl ?_ -- t68 pick
    refine rvc_prim C rfl rfl rfl rfl (trivial) rfl ?_ -- t69 move
    refine rvc_open rfl rfl rfl (rexec_call hP C rfl rfl rfl (awake_calls) ?_) -- t70 call
    refine rvc_prim C rfl rfl rfl rfl (trivial) rfl ?_ -- t71 pick
    refine rvc_prim C rfl rfl rfl rfl (trivial) rfl ?_ -- t4 assign
    refine rvc_nil ?_
    refine Awp.ret ?_
    exact ⟨.inl rfl, rfl⟩
theorem tagShort_calls (fK : Option Bool) (K : List Int) (wfK : ∀ n ∈ K, (Lit.int .u8 n).wf = true) (_ : K.length ≤ maxLen) (fD : Option Bool) (D : List Int) (wfD : ∀ n ∈ D, (Lit.int .u8 n).wf = true) (_ : D.length ≤ maxLen) : PCalls Try.prog 5 [sI fK .u8 K, sI fD .u8 D] (.pv (.bool true)) := by
  by_cases hK : 4096 < K.length
  · refine PCalls.of_body tabOk Try.func5 rfl rfl rfl rfl rfl mixed fun E hP C hI => ?_
    have gK : decide ((K.length : Int) > 4096) = true := by simp; omega
    refine Awp.cons C (fun _ => .pure) (by kernel_rfl) ?_ -- region 0 false
    refine rvc_prim C rfl rfl rfl rfl (trivial) rfl ?_ -- t4 assign
    refine rvc_nil ?_
    refine Awp.seq ?_
    refine Awp.cons C (fun _ => .pure) (by kernel_rfl) ?_ -- region 1 false
    refine rvc_prim C rfl rfl rfl rfl (trivial) rfl ?_ -- t13 move
    refine rvc_prim C rfl rfl rfl rfl (trivial) rfl ?_ -- t14 call
    refine rvc_prim C rfl rfl rfl rfl trivial rfl ?_
    rw [gK]
    refine rvc_prim C rfl rfl rfl rfl (trivial) rfl ?_ -- t16 move
    refine rvc_shut rfl rfl rfl rfl ?_
    refine rvc_shut rfl rfl rfl rfl ?_
    refine rvc_shut rfl rfl rfl rfl ?_
    refine rvc_prim C rfl rfl rfl rfl (trivial) rfl ?_ -- t20 pick
    refine rvc_nil ?_
    refine Awp.condT rfl (rfl) ?_
    refine Awp.cons C (fun _ => .pure) (by kernel_rfl) ?_ -- region 2 false
    refine rvc_call hP C rfl rfl rfl (awake_calls) ?_ -- t21 call
    refine rvc_prim C rfl rfl rfl rfl (trivial) rfl ?_ -- t4 assign
    refine rvc_nil ?_
    refine Awp.ret ?_
    exact ⟨.inl rfl, rfl⟩
  by_cases hD : 4096 < D.length
  · refine PCalls.of_body tabOk Try.func5 rfl rfl rfl rfl rfl mixed fun E hP C hI => ?_
    have gK : decide ((K.length : Int) > 4096) = false := by simp; omega
    refine Awp.cons C (fun _ => .pure) (by kernel_rfl) ?_ -- region 0 false
    refine rvc_prim C rfl rfl rfl rfl (trivial) rfl ?_ -- t4 assign
    refine rvc_nil ?_
    refine Awp.seq ?_
    refine Awp.cons C (fun _ => .pure) (by kernel_rfl) ?_ -- region 1 false
    refine rvc_prim C rfl rfl rfl rfl (trivial) rfl ?_ -- t13 move
    refine rvc_prim C rfl rfl rfl rfl (trivial) rfl ?_ -- t14 call
    refine rvc_prim C rfl rfl rfl rfl trivial rfl ?_
    rw [gK]
    refine rvc_prim C rfl rfl rfl rfl (trivial) rfl ?_ -- t16 move
    refine rvc_open rfl rfl rfl (rexec_prim C rfl rfl rfl rfl (trivial) rfl ?_) -- t17 move
    refine rvc_open rfl rfl rfl (rexec_prim C rfl rfl rfl rfl (trivial) rfl ?_) -- t18 call
    refine rvc_open rfl rfl rfl (rexec_prim C rfl rfl rfl rfl (trivial) rfl ?_) -- t19 binOp
    refine rvc_prim C rfl rfl rfl rfl (trivial) rfl ?_ -- t20 pick
    refine rvc_nil ?_
    refine Awp.condT rfl (by simp; omega) ?_
    refine Awp.cons C (fun _ => .pure) (by kernel_rfl) ?_ -- region 2 false
    refine rvc_call hP C rfl rfl rfl (awake_calls) ?_ -- t21 call
    refine rvc_prim C rfl rfl rfl rfl (trivial) rfl ?_ -- t4 assign
    refine rvc_nil ?_
    refine Awp.ret ?_
    exact ⟨.inl rfl, rfl⟩
  by_cases h16 : K.length = 16
  · exact tagShort_calls' rfl rfl (ofF_R8 K D) (by omega) (by omega) (of_good fK fD K D h16 (by omega)) (refOf_good fK fD K D h16 (R8l.of_wf wfK) (R8l.of_wf wfD) (by omega))
  · exact tagShort_calls' rfl rfl (fun _ => ⟨by decide, by decide⟩) (by omega) (by omega) (of_bad fK fD K D h16) (refOf_bad fK fD K D h16)
end Go.Proofs.Ytaoagcdljmpllaa
