import Derived.Test.YtihccnkegkkikaaM2
/- Chains in plain Lean: what chapter 8 shows of them. No conditions. -/
namespace Go.Proofs.Ytihccnkegkkikaa
open Go.Am
theorem bif_const {a : Bool} {x y z : Int} (hx : x ≠ z) (h : (bif a then x else y) = z) : a = false ∧ y = z := by
  cases a
  · exact ⟨rfl, h⟩
  · exact absurd h hx
theorem check_len {c : Chain} (h : check c = 0) : 0 < c.members.D.length := by
  unfold check at h
  obtain ⟨_, h⟩ := bif_const (by decide) h
  obtain ⟨_, h⟩ := bif_const (by decide) h
  obtain ⟨h3, h⟩ := bif_const (by decide) h
  have := ne_of_beq_false h3
  omega
theorem indexFunc_l0_lt (f : Member → Bool) : ∀ (l : List Member) (i : Nat), indexFunc_l0 f l i < ((i + l.length : Nat) : Int) ∧ -1 ≤ indexFunc_l0 f l i
  | [], i => by simp only [indexFunc_l0, List.length_nil]; omega
  | x :: l, i => by
    have := indexFunc_l0_lt f l (i + 1)
    simp only [indexFunc_l0, List.length_cons]
    cases f x <;> simp only [cond_true, cond_false] <;> omega
theorem placeIn_lt (c : Chain) (n : Int) : placeIn c n < (c.members.D.length : Int) ∧ -1 ≤ placeIn c n := by
  have := indexFunc_l0_lt (fun x0 => placeF x0 n) c.members.D 0
  simp only [placeIn, indexFunc]; omega
theorem nil_false {α : Type} {b : Bool} {D : List α} (h : b = true → D = []) (hl : 0 < D.length) : b = false := by
  cases b
  · rfl
  · rw [h rfl] at hl; simp at hl
theorem wrap64 (n : Int) : IntKind.u64.wrap n = n % 18446744073709551616 := by
  simp [IntKind.wrap, IntKind.bits, IntKind.signed]
theorem bv64 (a : Nat) (h : a < 18446744073709551616) : (BitVec.ofInt 64 (a : Int)).toNat = a := by
  rw [BitVec.toNat_ofInt]
  have : ((2 ^ 64 : Nat) : Int) = 18446744073709551616 := by decide
  rw [this]; omega
theorem or64 {a b : Nat} (ha : a < 18446744073709551616) (hb : b < 18446744073709551616) : bitI .or .u64 a b = ((a ||| b : Nat) : Int) := by
  have : a ||| b < 18446744073709551616 := Nat.or_lt_two_pow (n := 64) ha hb
  show IntKind.u64.wrap (((BitVec.ofInt 64 (a : Int) ||| BitVec.ofInt 64 (b : Int) : BitVec 64).toNat : Nat) : Int) = _
  rw [BitVec.toNat_or, bv64 a ha, bv64 b hb, wrap64]; omega
theorem and64 {a b : Nat} (ha : a < 18446744073709551616) (hb : b < 18446744073709551616) : bitI .and .u64 a b = ((a &&& b : Nat) : Int) := by
  have : a &&& b < 18446744073709551616 := Nat.lt_of_le_of_lt Nat.and_le_left ha
  show IntKind.u64.wrap (((BitVec.ofInt 64 (a : Int) &&& BitVec.ofInt 64 (b : Int) : BitVec 64).toNat : Nat) : Int) = _
  rw [BitVec.toNat_and, bv64 a ha, bv64 b hb, wrap64]; omega
theorem shr64 {a n : Nat} (hn : n < 64) : shrI .u64 (a : Int) (n : Int) = ((a >>> n : Nat) : Int) := by
  show (a : Int) / 2 ^ (min ((n : Int).toNat) 64) = _
  rw [Int.toNat_natCast, Nat.min_eq_left (by omega), Nat.shiftRight_eq_div_pow]
  simp
theorem shl64 {n : Nat} (hn : n < 64) : shlI .u64 1 (n : Int) = ((2 ^ n : Nat) : Int) := by
  show IntKind.u64.wrap (1 * 2 ^ (min ((n : Int).toNat) 64)) = _
  have h : 2 ^ n < 2 ^ 64 := Nat.pow_lt_pow_right (by decide) hn
  have h' : (2 : Nat) ^ 64 = 18446744073709551616 := by decide
  rw [Int.toNat_natCast, Nat.min_eq_left (by omega), wrap64, Int.one_mul]
  have e : (2 : Int) ^ n = ((2 ^ n : Nat) : Int) := by simp
  rw [e]
  rw [h'] at h
  clear e h'
  generalize (2 : Nat) ^ n = p at h ⊢
  omega
theorem in_nat {n : Nat} : mIn (n : Int) = decide (n < 64) := by
  unfold mIn
  have h0 : decide ((n : Int) ≥ 0) = true := by simp
  rw [h0]
  simp only [cond_true]
  congr 1
  exact propext ⟨fun h => by omega, fun h => by omega⟩
theorem has_nat {S n : Nat} (hS : S < 18446744073709551616) (hn : n < 64) : mHas (S : Int) (n : Int) = S.testBit n := by
  unfold mHas
  have hlt : S >>> n < 18446744073709551616 := Nat.lt_of_le_of_lt (Nat.shiftRight_le _ _) hS
  have h1 : (1 : Int) = ((1 : Nat) : Int) := rfl
  rw [in_nat, decide_eq_true hn, cond_true, shr64 hn, h1, and64 hlt (by decide)]
  rw [Nat.testBit_eq_decide_div_mod_eq, Nat.and_one_is_mod, Nat.shiftRight_eq_div_pow]
  by_cases h : S / 2 ^ n % 2 = 1
  · simp [h]
  · have : S / 2 ^ n % 2 = 0 := by omega
    simp [this]
theorem with_nat {S n : Nat} (hS : S < 18446744073709551616) (hn : n < 64) : mWith (S : Int) (n : Int) = ((S ||| 2 ^ n : Nat) : Int) := by
  unfold mWith
  have h : 2 ^ n < 2 ^ 64 := Nat.pow_lt_pow_right (by decide) hn
  have h' : (2 : Nat) ^ 64 = 18446744073709551616 := by decide
  rw [in_nat, decide_eq_true hn, Bool.not_true, cond_false, shl64 hn, or64 hS (by omega)]
theorem with_lt {S n : Nat} (hS : S < 18446744073709551616) (hn : n < 64) : S ||| 2 ^ n < 18446744073709551616 :=
  Nat.or_lt_two_pow (n := 64) hS (Nat.pow_lt_pow_right (by decide) hn)
theorem has_with {S n m : Nat} (hS : S < 18446744073709551616) (hn : n < 64) (hm : m < 64) : mHas (mWith (S : Int) (n : Int)) (m : Int) = (mHas (S : Int) (m : Int) || decide (n = m)) := by
  rw [with_nat hS hn, has_nat (with_lt hS hn) hm, has_nat hS hm, Nat.testBit_or, Nat.testBit_two_pow]
/-- May members stand behind others? -/
def okFrom (pre : List Member) : List Member → Bool
  | [] => true
  | x :: xs => member x && pre.all (fun y => !(y.node == x.node) && !(decide (y.site > x.site))) && okFrom (pre ++ [x]) xs
theorem member_iff (m : Member) : member m = true ↔ 0 ≤ m.node ∧ m.node ≤ 5 ∧ 0 ≤ m.site ∧ m.site ≤ 2 := by
  unfold member
  by_cases h1 : m.node ≥ 0 <;> by_cases h2 : m.node < 6 <;> by_cases h3 : m.site ≥ 0 <;> by_cases h4 : m.site < 3 <;> simp [h1, h2, h3, h4] <;> omega
theorem rCheck_l1_eq (x : Member) (kk : Int) : ∀ (l : List Member) (i : Nat), rCheck_l1 x kk l i = bif l.all (fun y => !(y.node == x.node) && !(decide (y.site > x.site))) then kk else 80
  | [], _ => rfl
  | y :: l, i => by
    simp only [rCheck_l1, List.all_cons]
    cases h1 : y.node == x.node
    · cases h2 : decide (y.site > x.site)
      · simp [rCheck_l1_eq x kk l (i + 1)]
      · simp
    · simp
theorem rCheck_l0_eq (c : Chain) : ∀ (xs : List Member) (i : Nat), xs = c.members.D.drop i → rCheck_l0 c xs i = bif okFrom (c.members.D.take i) xs then 0 else 80
  | [], i, _ => rfl
  | x :: xs, i, h => by
    have hi : c.members.D[i]? = some x := by
      have := congrArg (fun l => l[0]?) h
      simpa using this.symm
    have hx : xs = c.members.D.drop (i + 1) := by
      have := drop_at hi
      rw [← h] at this
      simpa using this
    have ht : c.members.D.take i ++ [x] = c.members.D.take (i + 1) := by
      rw [List.take_add_one, hi]; rfl
    have ih := rCheck_l0_eq c xs (i + 1) hx
    simp only [rCheck_l0, okFrom, ht, rCheck_l1_eq, ih]
    by_cases hm : member x = true
    · have := (member_iff x).1 hm
      rw [hm]
      have e1 : decide (x.node < 0) = false := by simp; omega
      have e2 : decide (x.node > 5) = false := by simp; omega
      have e3 : decide (x.site < 0) = false := by simp; omega
      have e4 : decide (x.site > 2) = false := by simp; omega
      rw [e1, e2, e3, e4]
      simp only [cond_false, Bool.true_and]
      cases (c.members.D.take i).all (fun y => !(y.node == x.node) && !(decide (y.site > x.site))) <;> simp
    · have hm' : member x = false := by simpa using hm
      rw [hm']
      have : x.node < 0 ∨ x.node > 5 ∨ x.site < 0 ∨ x.site > 2 := by
        have := mt (member_iff x).2 hm
        omega
      simp only [Bool.false_and, cond_false]
      by_cases e1 : x.node < 0
      · simp [e1]
      · by_cases e2 : x.node > 5
        · simp [e1, e2]
        · by_cases e3 : x.site < 0
          · simp [e1, e2, e3]
          · have e4 : x.site > 2 := by omega
            simp [e1, e2, e3, e4]
/-- What the program's loop knows of those ahead. -/
structure Inv (pre : List Member) (S : Nat) (site : Int) : Prop where
  lt : S < 18446744073709551616
  has : ∀ n : Nat, n < 6 → mHas (S : Int) (n : Int) = pre.any (fun y => y.node == (n : Int))
  le : ∀ y ∈ pre, y.site ≤ site
  at_ : site = 0 ∨ ∃ y ∈ pre, y.site = site
theorem check_l0_eq : ∀ (xs pre : List Member) (i S : Nat) (site : Int), Inv pre S site → check_l0 xs i (S : Int) site = bif okFrom pre xs then 0 else 80
  | [], _, _, _, _, _ => rfl
  | x :: xs, pre, i, S, site, inv => by
    simp only [check_l0, okFrom]
    by_cases hm : member x = true
    · obtain ⟨m1, m2, m3, m4⟩ := (member_iff x).1 hm
      rw [hm]
      simp only [Bool.not_true, cond_false, Bool.true_and]
      obtain ⟨k, hk⟩ : ∃ k : Nat, x.node = (k : Int) := ⟨x.node.toNat, by omega⟩
      have hk6 : k < 6 := by omega
      have hh := inv.has k hk6
      rw [hk, hh]
      cases ha : pre.any (fun y => y.node == (k : Int))
      · simp only [cond_false]
        by_cases hs : x.site < site
        · have : pre.all (fun y => !(y.node == (k : Int)) && !(decide (y.site > x.site))) = false := by
            rcases inv.at_ with h0 | ⟨y, hy, he⟩
            · omega
            · rw [Bool.eq_false_iff]
              intro hall
              have := List.all_eq_true.1 hall y hy
              simp at this
              omega
          simp [hs, this]
        · have hall : pre.all (fun y => !(y.node == (k : Int)) && !(decide (y.site > x.site))) = true := by
            rw [List.all_eq_true]
            intro y hy
            have h1 : (y.node == (k : Int)) = false := by
              rw [Bool.eq_false_iff]
              intro he
              rw [Bool.eq_false_iff] at ha
              exact ha (List.any_eq_true.2 ⟨y, hy, he⟩)
            have := inv.le y hy
            simp [h1]; omega
          have hs' : decide (x.site < site) = false := by simp; omega
          rw [hall, hs', with_nat inv.lt (by omega)]
          simp only [cond_false, Bool.true_and]
          refine check_l0_eq xs (pre ++ [x]) (i + 1) _ _ ⟨with_lt inv.lt (by omega), fun n hn => ?_, fun y hy => ?_, .inr ⟨x, by simp, rfl⟩⟩
          · rw [← with_nat inv.lt (by omega), has_with inv.lt (by omega) (by omega), inv.has n hn, List.any_append]
            congr 1
            simp only [List.any_cons, List.any_nil, Bool.or_false, hk]
            by_cases h : k = n
            · subst h; simp
            · have : ¬ ((k : Int) = (n : Int)) := by omega
              simp [h, this]
          · rcases List.mem_append.1 hy with hy | hy
            · have := inv.le y hy; omega
            · simp only [List.mem_singleton] at hy; subst hy; exact Int.le_refl _
      · simp only [cond_true]
        have : pre.all (fun y => !(y.node == (k : Int)) && !(decide (y.site > x.site))) = false := by
          obtain ⟨y, hy, he⟩ := List.any_eq_true.1 ha
          rw [Bool.eq_false_iff]
          intro hall
          have := List.all_eq_true.1 hall y hy
          simp at this he
          exact this.1 he
        simp [this]
    · have hm' : member x = false := by simpa using hm
      rw [hm']; rfl
def hasN (pre : List Member) (n : Int) : Nat := (pre.any fun y => y.node == n).toNat
def cnt (pre : List Member) : Nat := hasN pre 0 + hasN pre 1 + hasN pre 2 + hasN pre 3 + hasN pre 4 + hasN pre 5
theorem hasN_le (pre : List Member) (n : Int) : hasN pre n ≤ 1 := by unfold hasN; cases pre.any fun y => y.node == n <;> simp
theorem cnt_step {pre : List Member} {x : Member} (h0 : 0 ≤ x.node) (h5 : x.node ≤ 5) (ha : pre.any (fun y => y.node == x.node) = false) : cnt (pre ++ [x]) = cnt pre + 1 := by
  have key : ∀ n : Int, hasN (pre ++ [x]) n = if x.node = n then 1 else hasN pre n := fun n => by
    unfold hasN
    rw [List.any_append]
    simp only [List.any_cons, List.any_nil, Bool.or_false]
    by_cases h : x.node = n
    · subst h; simp
    · have : (x.node == n) = false := by simpa using h
      rw [this]; simp [h]
  have hz : hasN pre x.node = 0 := by unfold hasN; rw [ha]; rfl
  simp only [cnt, key]
  rcases (by omega : x.node = 0 ∨ x.node = 1 ∨ x.node = 2 ∨ x.node = 3 ∨ x.node = 4 ∨ x.node = 5) with h | h | h | h | h | h <;> rw [h] at hz ⊢ <;> simp [hz] <;> omega
theorem ok_len : ∀ (xs pre : List Member), okFrom pre xs = true → pre.length = cnt pre → pre.length + xs.length ≤ 6
  | [], pre, _, hc => by
    have := hasN_le pre 0; have := hasN_le pre 1; have := hasN_le pre 2; have := hasN_le pre 3; have := hasN_le pre 4; have := hasN_le pre 5
    simp only [List.length_nil, hc, cnt]; omega
  | x :: xs, pre, h, hc => by
    simp only [okFrom, Bool.and_eq_true] at h
    obtain ⟨⟨h1, h2⟩, h3⟩ := h
    obtain ⟨m1, m2, _, _⟩ := (member_iff x).1 h1
    have ha : pre.any (fun y => y.node == x.node) = false := by
      rw [Bool.eq_false_iff]
      intro he
      obtain ⟨y, hy, he⟩ := List.any_eq_true.1 he
      have := List.all_eq_true.1 h2 y hy
      rw [he] at this
      simp at this
    have := ok_len xs (pre ++ [x]) h3 (by rw [cnt_step m1 m2 ha, List.length_append, hc]; rfl)
    simp only [List.length_append, List.length_cons, List.length_nil] at this ⊢
    omega
theorem check_eq (c : Chain) : check c = rCheck c := by
  unfold check rCheck
  have h1 : check_l0 c.members.D 0 0 0 = bif okFrom [] c.members.D then 0 else 80 := check_l0_eq c.members.D [] 0 0 0 ⟨by decide, fun n hn => by
    have := has_nat (S := 0) (n := n) (by decide) (by omega)
    rw [this]; simp, fun y hy => (by cases hy), .inl rfl⟩
  have h2 : rCheck_l0 c c.members.D 0 = bif okFrom [] c.members.D then 0 else 80 := rCheck_l0_eq c c.members.D 0 rfl
  rw [h1, h2]
  cases decide (c.epoch < 1) <;> cases decide (c.epoch > 1099511627776) <;> cases ((c.members.D.length : Int) == 0) <;> simp only [cond_true, cond_false]
  cases hd : decide ((c.members.D.length : Int) > 6)
  · rfl
  · have hl : c.members.D.length > 6 := by have := of_decide_eq_true hd; omega
    cases ho : okFrom [] c.members.D
    · simp
    · have := ok_len c.members.D [] ho rfl
      simp at this; omega
theorem rCheck_le6 {c : Chain} (h : rCheck c = 0) : c.members.D.length ≤ 6 := by
  unfold rCheck at h
  obtain ⟨_, h⟩ := bif_const (by decide) h
  obtain ⟨_, h⟩ := bif_const (by decide) h
  obtain ⟨_, h⟩ := bif_const (by decide) h
  obtain ⟨h4, h⟩ := bif_const (by decide) h
  have := of_decide_eq_false h4
  omega
theorem check_le6 {c : Chain} (h : check c = 0) : c.members.D.length ≤ 6 := rCheck_le6 (by rw [← check_eq]; exact h)
theorem ok_of_check {c : Chain} (h : check c = 0) : okFrom [] c.members.D = true := by
  unfold check at h
  obtain ⟨_, h⟩ := bif_const (by decide) h
  obtain ⟨_, h⟩ := bif_const (by decide) h
  obtain ⟨_, h⟩ := bif_const (by decide) h
  obtain ⟨_, h⟩ := bif_const (by decide) h
  have h1 : check_l0 c.members.D 0 0 0 = bif okFrom [] c.members.D then 0 else 80 := check_l0_eq c.members.D [] 0 0 0 ⟨by decide, fun n hn => by
    have := has_nat (S := 0) (n := n) (by decide) (by omega)
    rw [this]; simp, fun y hy => (by cases hy), .inl rfl⟩
  rw [h1] at h
  cases ho : okFrom [] c.members.D
  · rw [ho] at h; cases h
  · rfl
theorem ok_member : ∀ (l pre : List Member), okFrom pre l = true → ∀ y ∈ l, member y = true
  | [], _, _, y, hy => by cases hy
  | x :: l, pre, h, y, hy => by
    simp only [okFrom, Bool.and_eq_true] at h
    cases hy with
    | head => exact h.1.1
    | tail _ hm => exact ok_member l (pre ++ [x]) h.2 y hm
theorem mem_ok {c : Chain} (hc : check c = 0) {x : Member} (hx : x ∈ c.members.D) : 0 ≤ x.node ∧ x.node ≤ 5 ∧ 0 ≤ x.site ∧ x.site ≤ 2 :=
  (member_iff x).1 (ok_member _ _ (ok_of_check hc) x hx)
end Go.Proofs.Ytihccnkegkkikaa
/- Places. No conditions. -/
namespace Go.Proofs.Ytihccnkegkkikaa
open Go.Am
def place0 (c : Chain) (node : Int) : Int :=
  (bif ((check c) != 0) then (-1) else (placeIn c node))
theorem place0_calls (c : Chain) (node : Int) (hl1 : c.members.D.length ≤ 9223372036854775807) : PCalls Try.prog 23 [.agg [.pv (.lit (.int .i64 c.epoch)), sS (some c.members.nil) eMember c.members.D], .pv (.lit (.int .i64 node))] (.pv (.lit (.int .i64 (place0 c node)))) := by
 generalize hR : place0 c node = R
 refine PCalls.of_body tabOk Try.func23 rfl rfl rfl rfl rfl mixed fun E hP C hI => ?_
 refine Awp.consP C ?_
 refine rvc_un (rexec_prim C (δ := { v := .ptr 2 0, new := [(2, .cells [.pv (.lit (.int .i64 c.epoch)), sS (some c.members.nil) eMember c.members.D])] }) rfl rfl rfl rfl trivial rfl ?_)
 refine rvP C (.pv (.lit (.int .i64 0))) ?_
 refine rvc_nil ?_
 refine Awp.seq ?_
 refine Awp.consP C ?_
 refine rvP C (.agg [.pv (.lit (.int .i64 c.epoch)), sS (some c.members.nil) eMember c.members.D]) ?_
 refine rvc_un (rexec_call hP C rfl rfl rfl (check_calls c hl1) ?_)
 refine rvP C (.pv (.lit (.bool ((check c) != 0)))) ?_
 refine rvc_nil ?_
 refine Awp.cond (b := ((check c) != 0)) rfl (fun h1 => ?_) (fun h1 => ?_)
 ·
  replace hR := of_true h1 hR
  refine Awp.consP C ?_
  refine rvP C (.pv (.lit (.int .i64 (-1)))) ?_
  refine rvc_nil ?_
  refine Awp.ret ?_
  subst hR
  exact ⟨.inl rfl, rfl⟩
 ·
  replace hR := of_false h1 hR
  refine Awp.skip ?_
  refine Awp.consP C ?_
  refine rvP C (.agg [.pv (.lit (.int .i64 c.epoch)), sS (some c.members.nil) eMember c.members.D]) ?_
  refine rvP C (.pv (.lit (.int .i64 node))) ?_
  refine rvc_un (rexec_call hP C rfl rfl rfl (placeIn_calls c node hl1) ?_)
  refine rvP C (.pv (.lit (.int .i64 (placeIn c node)))) ?_
  refine rvc_nil ?_
  refine Awp.ret ?_
  subst hR
  exact ⟨.inl rfl, rfl⟩
end Go.Proofs.Ytihccnkegkkikaa
/- An abstract machine over the kit's calls, part 29: calls that take a row of one's own and give one; contents of rows that are copied about in. No conditions. -/
namespace Go.Am
section lists
variable {α : Type} {e : Enc α}
end lists
section steps
variable {E : Env} {T : Tab} {cq : Oper → Cls} {n : Nat} {ops : Array Oper}
theorem CellsH.left {ι : Nat → Option (Nat × Nat)} {imm : Nat → Prop} {w : World} {c : Array Value} : ∀ {xs ys : List AV} {o : Nat}, CellsH ι imm w c (xs ++ ys) o → CellsH ι imm w c xs o
  | [], _, _, _ => trivial
  | _ :: _, _, _, h => ⟨h.1, CellsH.left h.2⟩
theorem WeakerR.ofLI {E : Env} {st : St} {τ : Nat → Nat} {S : List (Nat × AV)} {H : List (Nat × Blk)} {U Ks I : List Nat} (hI : E.I = I) (h1 : okS st.S τ U S) (h2 : okH st.H τ U Ks H) (h5 : (Ks.all fun x => Ks.all fun y => !(τ x == τ y) || x == y) = true) (h6 : (I.all fun b => U.contains b && τ b == b) = true) : WeakerR st τ S H U E.I :=
  ⟨fun x hx => (okS_mem h1 x hx).1, fun x hx => (h2 x hx).1, List.all_eq_true.2 fun x hx => (okS_mem h1 x hx).2, List.all_eq_true.2 fun x hx => by rw [Bool.and_eq_true]; exact ⟨(h2 x hx).2.2.1, (h2 x hx).2.2.2⟩, fun x hx y hy e => by
    have := List.all_eq_true.1 (List.all_eq_true.1 h5 x.1 (by simpa using (h2 x hx).2.1)) y.1 (by simpa using (h2 y hy).2.1)
    simpa [e] using this, by rw [hI]; exact h6⟩
/-- A call that takes a row (block 0) and gives one (block 1). -/
structure TCalls (P : Program) (f : FuncId) (avs : List AV) (k : Blk) (av : AV) (k' : Blk) : Prop where
  fn : ∃ fn, P.funcs[f]? = some fn ∧ (fn.name == "runtime.NumGoroutine") = false ∧ fn.body.isNone = false
  args : AV.withinL (fun b => b == 0) avs = true
  res : av.within (fun b => b == 1) = true
  blk : k.within (fun _ => false) = true
  blk' : k'.within (fun _ => false) = true
  calls : ACalls P f [0] avs [(0, k)] av [(1, k')]
theorem TCalls.of_body {P : Program} {T : Tab} (hT : TabOk P T) {f : FuncId} {fn : Func} {body : Code} (hf : P.funcs[f]? = some fn) (hb : fn.body = some body) (hn : (fn.name == "runtime.NumGoroutine") = false) {avs : List AV} {k k' : Blk} {av : AV} (hl : decide (avs.length ≤ fn.ntmps) = true) (ha : AV.withinL (fun b => b == 0) avs = true) (hr : av.within (fun b => b == 1) = true) (hk : k.within (fun _ => false) = true) (hk' : k'.within (fun _ => false) = true) (hm : P.follows .mixedOrders = true)
    (h : ∀ E : Env, E.P = P → Cx E T fn.ntmps → E.I = [0] → Awp E body (entry avs [(0, k)] [0]) fun e st => (e = .ret ∨ e = .normal) ∧ resAV T st fn.results.toList = some av ∧ st.H 1 = some k') : TCalls P f avs k av k' where
  fn := ⟨fn, hf, hn, by simp [hb]⟩
  args := ha
  res := hr
  blk := hk
  blk' := hk'
  calls := ACalls.of_body hT hf hb (by simpa using hl) fun E hP hE hI => (h E hP ⟨hP ▸ hT, hE, hP ▸ hm⟩ hI).mono fun e st ⟨h1, h2, h3⟩ => ⟨h1, h2, fun x hx => by
    simp only [List.mem_singleton] at hx
    subst hx; exact h3⟩
/-- A call that takes a row (block 0) and gives what does not change. -/
structure XCalls (P : Program) (f : FuncId) (avs : List AV) (k : Blk) (av : AV) : Prop where
  fn : ∃ fn, P.funcs[f]? = some fn ∧ (fn.name == "runtime.NumGoroutine") = false ∧ fn.body.isNone = false
  args : AV.withinL (fun b => b == 0) avs = true
  res : av.within (fun _ => false) = true
  blk : k.within (fun _ => false) = true
  calls : ACalls P f [0] avs [(0, k)] av []
theorem XCalls.of_body {P : Program} {T : Tab} (hT : TabOk P T) {f : FuncId} {fn : Func} {body : Code} (hf : P.funcs[f]? = some fn) (hb : fn.body = some body) (hn : (fn.name == "runtime.NumGoroutine") = false) {avs : List AV} {k : Blk} {av : AV} (hl : decide (avs.length ≤ fn.ntmps) = true) (ha : AV.withinL (fun b => b == 0) avs = true) (hr : av.within (fun _ => false) = true) (hk : k.within (fun _ => false) = true) (hm : P.follows .mixedOrders = true)
    (h : ∀ E : Env, E.P = P → Cx E T fn.ntmps → E.I = [0] → Awp E body (entry avs [(0, k)] [0]) fun e st => (e = .ret ∨ e = .normal) ∧ resAV T st fn.results.toList = some av) : XCalls P f avs k av where
  fn := ⟨fn, hf, hn, by simp [hb]⟩
  args := ha
  res := hr
  blk := hk
  calls := ACalls.of_body hT hf hb (by simpa using hl) fun E hP hE hI => (h E hP ⟨hP ▸ hT, hE, hP ▸ hm⟩ hI).mono fun e st ⟨h1, h2⟩ => ⟨h1, h2, fun x hx => by cases hx⟩
end steps
end Go.Am
/- An abstract machine over the kit's calls, part 33: calls that change a row of one's own in place. No conditions. -/
namespace Go.Am
theorem withinL0 {xs : List AV} (h : AV.withinL (fun _ => false) xs = true) : AV.withinL (fun b => b == 0) xs = true := AV.withinL_mono (fun _ hb => by cases hb) xs h
section steps
variable {E : Env} {T : Tab} {cq : Oper → Cls} {n : Nat} {ops : Array Oper}
/-- A call that takes a row (block 0), changes it in place, and gives what does not change. -/
structure MCalls (P : Program) (f : FuncId) (avs : List AV) (k : Blk) (av : AV) (k' : Blk) : Prop where
  fn : ∃ fn, P.funcs[f]? = some fn ∧ (fn.name == "runtime.NumGoroutine") = false ∧ fn.body.isNone = false
  args : AV.withinL (fun b => b == 0) avs = true
  res : av.within (fun _ => false) = true
  blk : k.within (fun _ => false) = true
  blk' : k'.within (fun _ => false) = true
  calls : ACalls P f [0] avs [(0, k)] av [(0, k')]
theorem MCalls.of_body {P : Program} {T : Tab} (hT : TabOk P T) {f : FuncId} {fn : Func} {body : Code} (hf : P.funcs[f]? = some fn) (hb : fn.body = some body) (hn : (fn.name == "runtime.NumGoroutine") = false) {avs : List AV} {k k' : Blk} {av : AV} (hl : decide (avs.length ≤ fn.ntmps) = true) (ha : AV.withinL (fun b => b == 0) avs = true) (hr : av.within (fun _ => false) = true) (hk : k.within (fun _ => false) = true) (hk' : k'.within (fun _ => false) = true) (hm : P.follows .mixedOrders = true)
    (h : ∀ E : Env, E.P = P → Cx E T fn.ntmps → E.I = [0] → Awp E body (entry avs [(0, k)] [0]) fun e st => (e = .ret ∨ e = .normal) ∧ resAV T st fn.results.toList = some av ∧ st.H 0 = some k') : MCalls P f avs k av k' where
  fn := ⟨fn, hf, hn, by simp [hb]⟩
  args := ha
  res := hr
  blk := hk
  blk' := hk'
  calls := ACalls.of_body hT hf hb (by simpa using hl) fun E hP hE hI => (h E hP ⟨hP ▸ hT, hE, hP ▸ hm⟩ hI).mono fun e st ⟨h1, h2, h3⟩ => ⟨h1, h2, fun x hx => by simp only [List.mem_singleton] at hx; subst hx; exact h3⟩
theorem rexec_callM {P : Program} (hP : E.P = P) (C : Cx E T n) {f : FuncId} {avs args : List AV} {av : AV} {k k' : Blk} {d : Option Nat} {b : Nat} {c : Call} {ty : TypeId} {pos : String} {af : Array Edge} {g : Option (Nat × Bool)} {st : St} {K : St → Prop} (h1 : dstB n ⟨d, .call c, ty, pos, af, g⟩ = true) (hc : c.callee = .value (.func f)) (hv : evls st.S c.args.toList = some args)
    (F : MCalls P f avs k av k') (ha : AV.renL (fun _ => b) avs = args) (hb : st.H b = some k) (h7 : K (st.after d { v := av, wr := [(b, some k')] })) (hreach : reachB (.fn f [] [] :: args) [] [(b, k)] = true := by rfl) (hbr : refs (.fn f [] [] :: args) [(b, k)] b = true := by rfl) (hp : clsOf cq ⟨d, .call c, ty, pos, af, g⟩ ≠ .pure := by decide) (hq : clsOf cq ⟨d, .call c, ty, pos, af, g⟩ ≠ .quiet := by decide) (hft : footB (clsOf cq ⟨d, .call c, ty, pos, af, g⟩) [(b, k)] { v := av, wr := [(b, some k')] } = true := by rfl) : rexec E cq n ⟨d, .call c, ty, pos, af, g⟩ st K := by
  subst hP
  obtain ⟨fn, q1, q2, q3⟩ := F.fn
  have hd : ∀ x, d = some x → x < E.n := fun x e => by
    simp only [dstB, e, decide_eq_true_eq] at h1
    exact C.n ▸ h1
  have hin : inI [0] = fun b => b == 0 := funext fun b => by cases b <;> rfl
  have hk0 : Names.knows ⟨fun _ => b, []⟩ [0] 0 = true := by simp [Names.knows, inI]
  have ok : CallOk ⟨fun _ => b, []⟩ [0] avs [(0, k)] [(0, k')] av := by
    refine { args := by rw [hin]; exact F.args, ids := ?_, blks := ?_, nodup := by simp, inj := ?_, nodupL := by simp, nodupR := by simp, fresh := ?_, res := ?_, res' := ?_, kept := ?_, all := ?_, used := ?_ }
    · intro x hx; simp only [List.mem_singleton] at hx; subst hx; rfl
    · intro x hx; simp only [List.mem_singleton] at hx; subst hx; exact Blk.within_mono (fun b hb => by cases hb) k F.blk
    · intro x y hx hy _; simp [inI] at hx hy; omega
    · intro x hx; cases hx
    · exact AV.within_mono (fun x hx => by cases hx) av F.res
    · intro x hx
      simp only [List.mem_singleton] at hx
      subst hx
      exact ⟨hk0, Blk.within_mono (fun b hb => by cases hb) k' F.blk'⟩
    · intro x hx _; simp only [List.mem_singleton] at hx; subst hx; exact ⟨k, List.mem_singleton.2 rfl⟩
    · intro x hx; cases hx
    · intro x hx
      have : x = 0 := by simpa [inI] using hx
      subst this; exact .inr rfl
  have hdo := does_call (E := E) (o := ⟨d, .call c, ty, pos, af, g⟩) (c := c) rfl hc hd q1 q2 q3 F.calls ok (args := args) (caps := []) (by simpa using ha)
  have he : Names.delta ⟨fun _ => b, []⟩ [0] [(0, k)] [(0, k')] av = { v := av, wr := [(b, some k')] } := by
    have e2 : heapOf [(0, k')] 0 = some k' := rfl
    simp only [Names.delta, List.map_nil, List.map_cons, AV.ren_none av F.res, e2, Option.map_some, Blk.ren_none F.blk']
  have hH : ([(0, k)] : List (Nat × Blk)).map (fun x => ((fun _ => b) x.1, x.2.ren (fun _ => b))) = [(b, k)] := by
    simp only [List.map_cons, List.map_nil, Blk.ren_none F.blk]
  rw [he] at hdo
  have hdo' : Does E ⟨d, .call c, ty, pos, af, g⟩ (.fn f [] [] :: args) [(b, k)] { v := av, wr := [(b, some k')] } := by
    rw [← hH]; exact hdo
  have hops : (Op.operands (.call c)).toList = .func f :: c.args.toList := by simp [Op.operands, Call.operands, hc]
  refine ⟨h1, .fn f [] [] :: args, [(b, k)], _, { vals := ?_, deps := ?_, fresh := fun _ h => (by cases h), does := hdo', reach := hreach, inV := ?_, inN := fun _ h => (by cases h), inW := ?_, wr := ?_, pure := fun h => ?_, quiet := fun h => ?_, foot := hft }, h7⟩
  · show evls st.S (Op.operands (.call c)).toList = _
    rw [hops]; simp only [evls, evl, hv]
  · intro x hx; simp only [List.mem_singleton] at hx; subst hx; exact hb
  · exact AV.within_mono (fun x hx => by cases hx) av F.res
  · intro x hx q hq
    simp only [List.mem_singleton] at hx
    subst hx
    obtain rfl := Option.some.inj hq
    exact Blk.within_mono (fun b hb => by cases hb) k' F.blk'
  · intro x hx
    simp only [List.mem_singleton] at hx
    subst hx
    rw [hbr]; simp
  · exact absurd h hp
  · exact absurd h hq
/-- A loop that is left in its first round. -/
theorem Awp.once {c : Code} {st : St} {Q : Exit → St → Prop} (h : Awp E c st fun e st' => match e with | .normal => False | e => Q e st') : Awp E (.loop c) st Q := by
  intro a w hat
  refine wp_loop_ghost (fun _ a w => At E st a w) 0 hat fun m a w hat => ?_
  refine wp_mono (h a w hat) ?_
  rintro e a' w' ⟨st', h1, h2⟩
  cases e <;> simp only [Exit.then]
  case normal => exact h1.elim
  all_goals exact ⟨st', h1, h2⟩
end steps
end Go.Am
/- Sorting by insertion, in place. No conditions. -/
namespace Go.Proofs.Ytihccnkegkkikaa
open Go.Am
def insSort_l1 (a : Int) (cmp : Member → Member → Int) (kk : Int → (List Member) → List Member) : Nat → Int → (List Member) → List Member
  | 0, _, _ => default
  | nn + 1, j, vc1 => (bif (decide (j > a)) then (bif (decide ((cmp (vc1[j.toNat]!) (vc1[(IntKind.i64.wrap (j - 1)).toNat]!)) < 0)) then insSort_l1 a cmp kk nn (IntKind.i64.wrap (j - 1)) ((vc1.set j.toNat (vc1[(IntKind.i64.wrap (j - 1)).toNat]!)).set ((IntKind.i64.wrap (j - 1)).toNat) (vc1[j.toNat]!)) else kk j vc1) else kk j vc1)
def insSort_l0 (a : Int) (b : Int) (cmp : Member → Member → Int) : Nat → Int → (List Member) → List Member
  | 0, _, _ => default
  | nn + 1, i, vc => (bif (decide (i < b)) then insSort_l1 a cmp (fun _ vc1 => insSort_l0 a b cmp nn (IntKind.i64.wrap (i + 1)) vc1) ((i - a).toNat + 1) i vc else vc)
def insSort (data : List Member) (a : Int) (b : Int) (cmp : Member → Member → Int) : List Member :=
  insSort_l0 a b cmp ((b - (IntKind.i64.wrap (a + 1))).toNat + 1) (IntKind.i64.wrap (a + 1)) data
theorem insSort_calls (data : List Member) (a : Int) (b : Int) (cmp : Member → Member → Int) (g3 : Nat) (caps3 : List AV) (hp3 : ∀ (x0 : Member) (x1 : Member), (0 ≤ x0.site ∧ x0.site < 3) → (0 ≤ x1.site ∧ x1.site < 3) → PCalls Try.prog g3 ([.agg [.pv (.lit (.int .i64 x0.node)), .pv (.lit (.int .i64 x0.site)), .pv (.lit (.bool x0.fresh))], .agg [.pv (.lit (.int .i64 x1.node)), .pv (.lit (.int .i64 x1.site)), .pv (.lit (.bool x1.fresh))]] ++ caps3) (.pv (.lit (.int .i64 (cmp x0 x1))))) (hw3 : AV.withinL (fun _ => false) caps3 = true) (hab : 0 ≤ a ∧ a ≤ b ∧ b ≤ (data.length : Int)) (hL : data.length ≤ 1000000) (hs : ∀ x ∈ data, 0 ≤ x.site ∧ x.site < 3) : MCalls Try.prog 59 [.sl 0 0 data.length 3 false, .pv (.lit (.int .i64 a)), .pv (.lit (.int .i64 b)), .fn g3 [] caps3] (.cells (encC eMember data)) (.tup []) (.cells (encC eMember (insSort data a b cmp))) := by
 generalize hR : insSort data a b cmp = R
 refine MCalls.of_body tabOk Try.func59 rfl rfl rfl (by simp [AV.withinL, AV.within, withinL0 hw3]) rfl (encC_within _ _) (encC_within _ _) mixed fun E hP C hI => ?_
 refine Awp.consP C ?_
 refine rvP C (.pv (.lit (.int .i64 a))) ?_
 refine rvP C (.pv (.lit (.int .i64 (IntKind.i64.wrap (a + 1))))) ?_
 refine rvP C (.pv (.lit (.int .i64 (IntKind.i64.wrap (a + 1))))) ?_
 refine rvc_nil ?_
 refine Awp.block ?_
 refine Awp.forM (σ := Int × ((List Member))) (fun v => [(0, .sl 0 0 data.length 3 false), (1, .pv (.lit (.int .i64 a))), (2, .pv (.lit (.int .i64 b))), (3, .fn g3 [] caps3), (8, .pv (.lit (.int .i64 v.1)))]) (fun v => [(0, .cells (encC eMember v.2))]) [0] (fun n v => n = (b - v.1).toNat ∧ insSort_l0 a b cmp ((b - v.1).toNat + 1) v.1 v.2 = R ∧ (a + 1 ≤ v.1 ∧ v.2.length = data.length ∧ ∀ x ∈ v.2, 0 ≤ x.site ∧ x.site < 3)) ((b - (IntKind.i64.wrap (a + 1))).toNat) ((IntKind.i64.wrap (a + 1)), data) ?_ ?_ (fun _ v h1 => ?_)
 · exact ⟨rfl, hR, ⟨(by show a + 1 ≤ IntKind.i64.wrap (a + 1); have := wrapI (a + 1); omega), rfl, hs⟩⟩
 · exact ⟨fun b => b, WeakerR.ofLI (I := [0]) (Ks := [0]) hI ⟨⟨rfl, rfl⟩, ⟨rfl, rfl⟩, ⟨rfl, rfl⟩, ⟨fn_to rfl hw3, fn_win hw3⟩, ⟨rfl, rfl⟩, trivial⟩ (okH_list rfl rfl rfl (okH_nil)) rfl rfl⟩
 obtain ⟨i, vc⟩ := v
 obtain ⟨rfl, hR, ⟨hVa, hVn, hVs⟩⟩ := h1
 replace hVa : a + 1 ≤ i := hVa
 replace hVn : vc.length = data.length := hVn
 replace hVs : ∀ x ∈ vc, 0 ≤ x.site ∧ x.site < 3 := hVs
 refine Awp.seq ?_
 refine Awp.consP C ?_
 refine rvP C (.pv (.lit (.int .i64 i))) ?_
 refine rvP C (.pv (.lit (.int .i64 b))) ?_
 refine rvP C (.pv (.lit (.bool (decide (i < b))))) ?_
 refine rvc_nil ?_
 refine Awp.cond (b := (decide (i < b))) rfl (fun h3 => ?_) (fun h3 => ?_)
 ·
  replace hR := of_true h3 hR
  refine Awp.skip ?_
  refine Awp.seq ?_
  refine Awp.block ?_
  refine Awp.consP C ?_
  refine rvP C (.pv (.lit (.int .i64 i))) ?_
  refine rvP C (.pv (.lit (.int .i64 i))) ?_
  refine rvc_nil ?_
  refine Awp.block ?_
  refine Awp.forM (σ := Int × ((List Member))) (fun v => [(0, .sl 0 0 data.length 3 false), (1, .pv (.lit (.int .i64 a))), (2, .pv (.lit (.int .i64 b))), (3, .fn g3 [] caps3), (8, .pv (.lit (.int .i64 i))), (9, .pv (.lit (.int .i64 v.1)))]) (fun v => [(0, .cells (encC eMember v.2))]) [0] (fun n v => n = (v.1 - a).toNat ∧ insSort_l1 a cmp (fun _ vc1 => insSort_l0 a b cmp ((b - i).toNat) (IntKind.i64.wrap (i + 1)) vc1) ((v.1 - a).toNat + 1) v.1 v.2 = R ∧ ((a ≤ v.1 ∧ v.1 < (data.length : Int)) ∧ v.2.length = data.length ∧ ∀ x ∈ v.2, 0 ≤ x.site ∧ x.site < 3)) ((i - a).toNat) (i, vc) ?_ ?_ (fun _ v h4 => ?_)
  · exact ⟨rfl, hR, ⟨(by have := of_decide_eq_true ‹decide (i < b) = true›; dsimp only; omega), hVn, hVs⟩⟩
  · exact ⟨fun b => b, WeakerR.ofLI (I := [0]) (Ks := [0]) hI ⟨⟨rfl, rfl⟩, ⟨rfl, rfl⟩, ⟨rfl, rfl⟩, ⟨fn_to rfl hw3, fn_win hw3⟩, ⟨rfl, rfl⟩, ⟨rfl, rfl⟩, trivial⟩ (okH_list rfl rfl rfl (okH_nil)) rfl rfl⟩
  obtain ⟨j, vc1⟩ := v
  obtain ⟨rfl, hR, ⟨hWa, hWn, hWs⟩⟩ := h4
  replace hWa : a ≤ j ∧ j < (data.length : Int) := hWa
  replace hWn : vc1.length = data.length := hWn
  replace hWs : ∀ x ∈ vc1, 0 ≤ x.site ∧ x.site < 3 := hWs
  refine Awp.seq ?_
  refine Awp.consP C ?_
  refine rvP C (.pv (.lit (.int .i64 j))) ?_
  refine rvP C (.pv (.lit (.int .i64 a))) ?_
  refine rvP C (.pv (.lit (.bool (decide (j > a))))) ?_
  refine rvP C (.pv (.lit (.bool (decide (j > a))))) ?_
  refine rvc_case 21 (decide (j > a)) rfl (fun h6 => ?_) (fun h6 => ?_)
  ·
   replace hR := of_true h6 hR
   refine rvO C (.fn g3 [] caps3) ?_
   refine rvO C (.sl 0 0 data.length 3 false) ?_
   refine rvO C (.pv (.lit (.int .i64 j))) ?_
   have h7 : vc1[j.toNat]? = some vc1[j.toNat]! := getE (by omega)
   refine rvc_open rfl rfl rfl (rexec_prim C (δ := { v := .ptr 0 (0 + j.toNat * 3) }) rfl rfl rfl rfl ⟨(by omega), (by omega)⟩ rfl ?_)
   refine rvc_open rfl rfl rfl (rexec_loadE C (e := eMember) j.toNat 0 (vc1[j.toNat]!) (.agg [.pv (.lit (.int .i64 (vc1[j.toNat]!.node))), .pv (.lit (.int .i64 (vc1[j.toNat]!.site))), .pv (.lit (.bool (vc1[j.toNat]!.fresh)))]) rfl rfl rfl rfl h7 (by simp [eMember]) (by decide) (by decide) rfl ?_)
   refine rvO C (.sl 0 0 data.length 3 false) ?_
   refine rvO C (.pv (.lit (.int .i64 j))) ?_
   refine rvO C (.pv (.lit (.int .i64 (IntKind.i64.wrap (j - 1))))) ?_
   have h8 : vc1[(IntKind.i64.wrap (j - 1)).toNat]? = some vc1[(IntKind.i64.wrap (j - 1)).toNat]! := getE (by have := wrapI (j - 1); have := of_decide_eq_true ‹decide (j > a) = true›; omega)
   refine rvc_open rfl rfl rfl (rexec_prim C (δ := { v := .ptr 0 (0 + (IntKind.i64.wrap (j - 1)).toNat * 3) }) rfl rfl rfl rfl ⟨(by have := wrapI (j - 1); have := of_decide_eq_true ‹decide (j > a) = true›; omega), (by have := wrapI (j - 1); have := of_decide_eq_true ‹decide (j > a) = true›; omega)⟩ rfl ?_)
   refine rvc_open rfl rfl rfl (rexec_loadE C (e := eMember) ((IntKind.i64.wrap (j - 1)).toNat) 0 (vc1[(IntKind.i64.wrap (j - 1)).toNat]!) (.agg [.pv (.lit (.int .i64 (vc1[(IntKind.i64.wrap (j - 1)).toNat]!.node))), .pv (.lit (.int .i64 (vc1[(IntKind.i64.wrap (j - 1)).toNat]!.site))), .pv (.lit (.bool (vc1[(IntKind.i64.wrap (j - 1)).toNat]!.fresh)))]) rfl rfl rfl rfl h8 (by simp [eMember]) (by decide) (by decide) rfl ?_)
   refine rvc_open rfl rfl rfl (rexec_callV hP C rfl rfl rfl rfl (hp3 (vc1[j.toNat]!) (vc1[(IntKind.i64.wrap (j - 1)).toNat]!) (hWs _ (at_mem (by omega))) (hWs _ (at_mem (by have := wrapI (j - 1); have := of_decide_eq_true ‹decide (j > a) = true›; omega)))) rfl ?_)
   refine rvO C (.pv (.lit (.bool (decide ((cmp (vc1[j.toNat]!) (vc1[(IntKind.i64.wrap (j - 1)).toNat]!)) < 0))))) ?_
   refine rvP C (.pv (.lit (.bool (decide ((cmp (vc1[j.toNat]!) (vc1[(IntKind.i64.wrap (j - 1)).toNat]!)) < 0))))) ?_
   refine rvc_nil ?_
   refine Awp.cond (b := (decide ((cmp (vc1[j.toNat]!) (vc1[(IntKind.i64.wrap (j - 1)).toNat]!)) < 0))) rfl (fun h9 => ?_) (fun h9 => ?_)
   ·
    replace hR := of_true h9 hR
    refine Awp.skip ?_
    refine Awp.seq ?_
    refine Awp.block ?_
    refine Awp.regionP C ?_
    refine rvP C (.sl 0 0 data.length 3 false) ?_
    refine rvP C (.pv (.lit (.int .i64 j))) ?_
    refine rvP C (.sl 0 0 data.length 3 false) ?_
    refine rvP C (.pv (.lit (.int .i64 j))) ?_
    refine rvP C (.pv (.lit (.int .i64 (IntKind.i64.wrap (j - 1))))) ?_
    refine rvP C (.sl 0 0 data.length 3 false) ?_
    refine rvP C (.pv (.lit (.int .i64 j))) ?_
    refine rvP C (.pv (.lit (.int .i64 (IntKind.i64.wrap (j - 1))))) ?_
    refine rvc_un (rexec_prim C (δ := { v := .ptr 0 (0 + (IntKind.i64.wrap (j - 1)).toNat * 3) }) rfl rfl rfl rfl ⟨(by have := wrapI (j - 1); have := of_decide_eq_true ‹decide (j > a) = true›; omega), (by have := wrapI (j - 1); have := of_decide_eq_true ‹decide (j > a) = true›; omega)⟩ rfl ?_)
    refine rvc_un (rexec_loadE C (e := eMember) ((IntKind.i64.wrap (j - 1)).toNat) 0 (vc1[(IntKind.i64.wrap (j - 1)).toNat]!) (.agg [.pv (.lit (.int .i64 (vc1[(IntKind.i64.wrap (j - 1)).toNat]!.node))), .pv (.lit (.int .i64 (vc1[(IntKind.i64.wrap (j - 1)).toNat]!.site))), .pv (.lit (.bool (vc1[(IntKind.i64.wrap (j - 1)).toNat]!.fresh)))]) rfl rfl rfl rfl h8 (by simp [eMember]) (by decide) (by decide) rfl ?_)
    refine rvP C (.sl 0 0 data.length 3 false) ?_
    refine rvP C (.pv (.lit (.int .i64 j))) ?_
    refine rvc_un (rexec_prim C (δ := { v := .ptr 0 (0 + j.toNat * 3) }) rfl rfl rfl rfl ⟨(by omega), (by omega)⟩ rfl ?_)
    refine rvc_un (rexec_loadE C (e := eMember) j.toNat 0 (vc1[j.toNat]!) (.agg [.pv (.lit (.int .i64 (vc1[j.toNat]!.node))), .pv (.lit (.int .i64 (vc1[j.toNat]!.site))), .pv (.lit (.bool (vc1[j.toNat]!.fresh)))]) rfl rfl rfl rfl h7 (by simp [eMember]) (by decide) (by decide) rfl ?_)
    refine rvc_un (rexec_prim C (δ := { v := .ptr 0 (0 + j.toNat * 3) }) rfl rfl rfl rfl ⟨(by omega), (by omega)⟩ rfl ?_)
    refine rvc_un (rexec_storeE C (e := eMember) j.toNat 0 (vc1[j.toNat]!) (vc1[(IntKind.i64.wrap (j - 1)).toNat]!) rfl rfl rfl rfl h7 (by simp [eMember]) rfl rfl rfl (of_decide_eq_true rfl) rfl ?_)
    have h10 : (vc1.set j.toNat (vc1[(IntKind.i64.wrap (j - 1)).toNat]!))[(IntKind.i64.wrap (j - 1)).toNat]? = some (vc1.set j.toNat (vc1[(IntKind.i64.wrap (j - 1)).toNat]!))[(IntKind.i64.wrap (j - 1)).toNat]! := getE (by rw [List.length_set]; have := wrapI (j - 1); have := of_decide_eq_true ‹decide (j > a) = true›; omega)
    refine rvc_un (rexec_prim C (δ := { v := .ptr 0 (0 + (IntKind.i64.wrap (j - 1)).toNat * 3) }) rfl rfl rfl rfl ⟨(by have := wrapI (j - 1); have := of_decide_eq_true ‹decide (j > a) = true›; omega), (by have := wrapI (j - 1); have := of_decide_eq_true ‹decide (j > a) = true›; omega)⟩ rfl ?_)
    refine rvc_un (rexec_storeE C (e := eMember) ((IntKind.i64.wrap (j - 1)).toNat) 0 ((vc1.set j.toNat (vc1[(IntKind.i64.wrap (j - 1)).toNat]!))[(IntKind.i64.wrap (j - 1)).toNat]!) (vc1[j.toNat]!) rfl rfl rfl rfl h10 (by simp [eMember]) rfl rfl rfl (of_decide_eq_true rfl) rfl ?_)
    refine rvc_nil ?_
    refine Awp.regionP C ?_
    refine rvP C (.pv (.lit (.int .i64 j))) ?_
    refine rvP C (.pv (.lit (.int .i64 (IntKind.i64.wrap (j - 1))))) ?_
    refine rvP C (.pv (.lit (.int .i64 (IntKind.i64.wrap (j - 1))))) ?_
    refine rvc_nil ?_
    refine ⟨_, ((IntKind.i64.wrap (j - 1)), ((vc1.set j.toNat (vc1[(IntKind.i64.wrap (j - 1)).toNat]!)).set ((IntKind.i64.wrap (j - 1)).toNat) (vc1[j.toNat]!))), ?_, ⟨rfl, (by rw [show (((IntKind.i64.wrap (j - 1)) - a).toNat) + 1 = ((j - a).toNat) by (have := wrapI (j - 1); have := of_decide_eq_true ‹decide (j > a) = true›; omega)]; exact hR), ⟨(by dsimp only; have := wrapI (j - 1); have := of_decide_eq_true ‹decide (j > a) = true›; omega), (by simpa using hWn), (swap_mem hWs (at_mem (by have := wrapI (j - 1); have := of_decide_eq_true ‹decide (j > a) = true›; omega)) (at_mem (by omega)))⟩⟩, ?_⟩
    · show ((IntKind.i64.wrap (j - 1)) - a).toNat < (j - a).toNat; (have := wrapI (j - 1); have := of_decide_eq_true ‹decide (j > a) = true›; omega)
    · exact ⟨fun b => b, WeakerR.ofLI (I := [0]) (Ks := [0]) hI ⟨⟨rfl, rfl⟩, ⟨rfl, rfl⟩, ⟨rfl, rfl⟩, ⟨fn_to rfl hw3, fn_win hw3⟩, ⟨rfl, rfl⟩, ⟨rfl, rfl⟩, trivial⟩ (okH_list rfl rfl rfl (okH_nil)) rfl rfl⟩
   ·
    replace hR := of_false h9 hR
    refine Awp.exit ?_
    refine Awp.regionP C ?_
    refine rvP C (.pv (.lit (.int .i64 i))) ?_
    refine rvP C (.pv (.lit (.int .i64 (IntKind.i64.wrap (i + 1))))) ?_
    refine rvP C (.pv (.lit (.int .i64 (IntKind.i64.wrap (i + 1))))) ?_
    refine rvc_nil ?_
    refine ⟨_, ((IntKind.i64.wrap (i + 1)), vc1), ?_, ⟨rfl, (by rw [show ((b - (IntKind.i64.wrap (i + 1))).toNat) + 1 = ((b - i).toNat) by (have := wrapI (i + 1); have := of_decide_eq_true ‹decide (i < b) = true›; omega)]; exact hR), ⟨(by dsimp only; have := wrapI (i + 1); have := of_decide_eq_true ‹decide (i < b) = true›; omega), hWn, hWs⟩⟩, ?_⟩
    · show (b - (IntKind.i64.wrap (i + 1))).toNat < (b - i).toNat; (have := wrapI (i + 1); have := of_decide_eq_true ‹decide (i < b) = true›; omega)
    · exact ⟨fun b => b, WeakerR.ofLI (I := [0]) (Ks := [0]) hI ⟨⟨rfl, rfl⟩, ⟨rfl, rfl⟩, ⟨rfl, rfl⟩, ⟨fn_to rfl hw3, fn_win hw3⟩, ⟨rfl, rfl⟩, trivial⟩ (okH_list rfl rfl rfl (okH_nil)) rfl rfl⟩
  ·
   replace hR := of_false h6 hR
   refine rvS ?_
   refine rvS ?_
   refine rvS ?_
   refine rvS ?_
   refine rvS ?_
   refine rvS ?_
   refine rvS ?_
   refine rvS ?_
   refine rvS ?_
   refine rvS ?_
   refine rvS ?_
   refine rvS ?_
   refine rvP C (.pv (.lit (.bool false))) ?_
   refine rvc_nil ?_
   refine Awp.condF (b := false) rfl rfl ?_
   refine Awp.exit ?_
   refine Awp.regionP C ?_
   refine rvP C (.pv (.lit (.int .i64 i))) ?_
   refine rvP C (.pv (.lit (.int .i64 (IntKind.i64.wrap (i + 1))))) ?_
   refine rvP C (.pv (.lit (.int .i64 (IntKind.i64.wrap (i + 1))))) ?_
   refine rvc_nil ?_
   refine ⟨_, ((IntKind.i64.wrap (i + 1)), vc1), ?_, ⟨rfl, (by rw [show ((b - (IntKind.i64.wrap (i + 1))).toNat) + 1 = ((b - i).toNat) by (have := wrapI (i + 1); have := of_decide_eq_true ‹decide (i < b) = true›; omega)]; exact hR), ⟨(by dsimp only; have := wrapI (i + 1); have := of_decide_eq_true ‹decide (i < b) = true›; omega), hWn, hWs⟩⟩, ?_⟩
   · show (b - (IntKind.i64.wrap (i + 1))).toNat < (b - i).toNat; (have := wrapI (i + 1); have := of_decide_eq_true ‹decide (i < b) = true›; omega)
   · exact ⟨fun b => b, WeakerR.ofLI (I := [0]) (Ks := [0]) hI ⟨⟨rfl, rfl⟩, ⟨rfl, rfl⟩, ⟨rfl, rfl⟩, ⟨fn_to rfl hw3, fn_win hw3⟩, ⟨rfl, rfl⟩, trivial⟩ (okH_list rfl rfl rfl (okH_nil)) rfl rfl⟩
 ·
  replace hR := of_false h3 hR
  refine Awp.exit ?_
  subst hR
  exact ⟨.inr rfl, rfl, rfl⟩
end Go.Proofs.Ytihccnkegkkikaa
/- Sorting; what is asked ahead. No conditions. -/
namespace Go.Proofs.Ytihccnkegkkikaa
open Go.Am
def stable (data : List Member) (n : Int) (cmp : Member → Member → Int) : List Member :=
  (insSort data 0 n cmp)
theorem stable_calls (data : List Member) (n : Int) (cmp : Member → Member → Int) (g2 : Nat) (caps2 : List AV) (hp2 : ∀ (x0 : Member) (x1 : Member), (0 ≤ x0.site ∧ x0.site < 3) → (0 ≤ x1.site ∧ x1.site < 3) → PCalls Try.prog g2 ([.agg [.pv (.lit (.int .i64 x0.node)), .pv (.lit (.int .i64 x0.site)), .pv (.lit (.bool x0.fresh))], .agg [.pv (.lit (.int .i64 x1.node)), .pv (.lit (.int .i64 x1.site)), .pv (.lit (.bool x1.fresh))]] ++ caps2) (.pv (.lit (.int .i64 (cmp x0 x1))))) (hw2 : AV.withinL (fun _ => false) caps2 = true) (hn : n = (data.length : Int)) (h20 : (decide ((20 : Int) ≤ n)) = false) (h21 : (decide ((20 : Int) < n)) = false) (hs : ∀ x ∈ data, 0 ≤ x.site ∧ x.site < 3) : MCalls Try.prog 53 [.sl 0 0 data.length 3 false, .pv (.lit (.int .i64 n)), .fn g2 [] caps2] (.cells (encC eMember data)) (.tup []) (.cells (encC eMember (stable data n cmp))) := by
 generalize hR : stable data n cmp = R
 refine MCalls.of_body tabOk Try.func53 rfl rfl rfl (by simp [AV.withinL, AV.within, withinL0 hw2]) rfl (encC_within _ _) (encC_within _ _) mixed fun E hP C hI => ?_
 refine Awp.consP C ?_
 refine rvP C (.pv (.lit (.int .i64 20))) ?_
 refine rvc_nil ?_
 refine Awp.consP C ?_
 refine rvP C (.pv (.lit (.int .i64 20))) ?_
 refine rvP C (.pv (.lit (.int .i64 0))) ?_
 refine rvP C (.pv (.lit (.int .i64 20))) ?_
 refine rvc_nil ?_
 refine Awp.seq ?_
 refine Awp.block ?_
 refine Awp.once ?_
 refine Awp.seq ?_
 refine Awp.consP C ?_
 refine rvP C (.pv (.lit (.int .i64 20))) ?_
 refine rvP C (.pv (.lit (.int .i64 n))) ?_
 refine rvP C (.pv (.lit (.bool (decide ((20 : Int) ≤ n))))) ?_
 refine rvc_nil ?_
 refine Awp.condF (b := (decide ((20 : Int) ≤ n))) rfl h20 ?_
 refine Awp.exit ?_
 refine Awp.cons C (fun _ => .writer) (by kernel_rfl) ?_
 refine rvP C (.sl 0 0 data.length 3 false) ?_
 refine rvP C (.pv (.lit (.int .i64 0))) ?_
 refine rvP C (.pv (.lit (.int .i64 n))) ?_
 refine rvP C (.fn g2 [] caps2) ?_
 refine rvc_un (rexec_callM hP C (b := 0) rfl rfl rfl (insSort_calls data 0 n cmp g2 caps2 hp2 hw2 ⟨Int.le_refl _, (by omega), (by omega)⟩ (by have := of_decide_eq_false h20; omega) hs) (by simp only [AV.renL, AV.ren, AV.renL_none _ hw2]) rfl ?_)
 refine rvc_nil ?_
 refine Awp.block ?_
 refine Awp.once ?_
 refine Awp.seq ?_
 refine Awp.consP C ?_
 refine rvP C (.pv (.lit (.int .i64 20))) ?_
 refine rvP C (.pv (.lit (.int .i64 n))) ?_
 refine rvP C (.pv (.lit (.bool (decide ((20 : Int) < n))))) ?_
 refine rvc_nil ?_
 refine Awp.condF (b := (decide ((20 : Int) < n))) rfl h21 ?_
 refine Awp.exit ?_
 subst hR
 exact ⟨.inr rfl, rfl, rfl⟩
def sortSF (x : List Member) (cmp : Member → Member → Int) : List Member :=
  (stable x (x.length : Int) cmp)
theorem sortSF_calls (x : List Member) (cmp : Member → Member → Int) (g1 : Nat) (caps1 : List AV) (hp1 : ∀ (x0 : Member) (x1 : Member), (0 ≤ x0.site ∧ x0.site < 3) → (0 ≤ x1.site ∧ x1.site < 3) → PCalls Try.prog g1 ([.agg [.pv (.lit (.int .i64 x0.node)), .pv (.lit (.int .i64 x0.site)), .pv (.lit (.bool x0.fresh))], .agg [.pv (.lit (.int .i64 x1.node)), .pv (.lit (.int .i64 x1.site)), .pv (.lit (.bool x1.fresh))]] ++ caps1) (.pv (.lit (.int .i64 (cmp x0 x1))))) (hw1 : AV.withinL (fun _ => false) caps1 = true) (h6 : x.length ≤ 6) (hs : ∀ y ∈ x, 0 ≤ y.site ∧ y.site < 3) : MCalls Try.prog 41 [.sl 0 0 x.length 3 false, .fn g1 [] caps1] (.cells (encC eMember x)) (.tup []) (.cells (encC eMember (sortSF x cmp))) := by
 generalize hR : sortSF x cmp = R
 refine MCalls.of_body tabOk Try.func41 rfl rfl rfl (by simp [AV.withinL, AV.within, withinL0 hw1]) rfl (encC_within _ _) (encC_within _ _) mixed fun E hP C hI => ?_
 refine Awp.region C (fun _ => .writer) (by kernel_rfl) ?_
 refine rvP C (.sl 0 0 x.length 3 false) ?_
 refine rvP C (.sl 0 0 x.length 3 false) ?_
 refine rvP C (.pv (.lit (.int .i64 (x.length : Int)))) ?_
 refine rvP C (.fn g1 [] caps1) ?_
 refine rvc_un (rexec_callM hP C (b := 0) rfl rfl rfl (stable_calls x (x.length : Int) cmp g1 caps1 hp1 hw1 rfl (decide_eq_false (by omega)) (decide_eq_false (by omega)) hs) (by simp only [AV.renL, AV.ren, AV.renL_none _ hw1]) rfl ?_)
 refine rvc_nil ?_
 subst hR
 exact ⟨.inr rfl, rfl, rfl⟩
def nearF (a : Member) (b : Member) (c0 : (Nat → (Nat → Int))) (c1 : Int) : Int :=
  (bif (!(a.fresh == b.fresh)) then (bif b.fresh then (-1) else 1) else (IntKind.i64.wrap (((c0 c1.toNat) a.site.toNat) - ((c0 c1.toNat) b.site.toNat))))
theorem nearF_calls (a : Member) (b : Member) (c0 : (Nat → (Nat → Int))) (c1 : Int) (ha : 0 ≤ a.site ∧ a.site < 3) (hb : 0 ≤ b.site ∧ b.site < 3) (hf : 0 ≤ c1 ∧ c1 < 3) : PCalls Try.prog 42 [.agg [.pv (.lit (.int .i64 a.node)), .pv (.lit (.int .i64 a.site)), .pv (.lit (.bool a.fresh))], .agg [.pv (.lit (.int .i64 b.node)), .pv (.lit (.int .i64 b.site)), .pv (.lit (.bool b.fresh))], .rp [.lit (.int .i64 ((c0 0) 0)), .lit (.int .i64 ((c0 0) 1)), .lit (.int .i64 ((c0 0) 2)), .lit (.int .i64 ((c0 1) 0)), .lit (.int .i64 ((c0 1) 1)), .lit (.int .i64 ((c0 1) 2)), .lit (.int .i64 ((c0 2) 0)), .lit (.int .i64 ((c0 2) 1)), .lit (.int .i64 ((c0 2) 2))], .rp [.lit (.int .i64 c1)]] (.pv (.lit (.int .i64 (nearF a b c0 c1)))) := by
 generalize hR : nearF a b c0 c1 = R
 refine PCalls.of_body tabOk Try.func42 rfl rfl rfl rfl rfl mixed fun E hP C hI => ?_
 refine Awp.consP C ?_
 refine rvc_un (rexec_prim C (δ := { v := .ptr 4 0, new := [(4, .cells [.pv (.lit (.int .i64 a.node)), .pv (.lit (.int .i64 a.site)), .pv (.lit (.bool a.fresh))])] }) rfl rfl rfl rfl trivial rfl ?_)
 refine rvc_un (rexec_prim C (δ := { v := .ptr 5 0, new := [(5, .cells [.pv (.lit (.int .i64 b.node)), .pv (.lit (.int .i64 b.site)), .pv (.lit (.bool b.fresh))])] }) rfl rfl rfl rfl trivial rfl ?_)
 refine rvP C (.pv (.lit (.int .i64 0))) ?_
 refine rvc_nil ?_
 refine Awp.seq ?_
 refine Awp.block ?_
 refine Awp.consP C ?_
 refine rvP C (.ptr 4 2) ?_
 refine rvP C (.pv (.lit (.bool a.fresh))) ?_
 refine rvP C (.ptr 5 2) ?_
 refine rvP C (.pv (.lit (.bool b.fresh))) ?_
 refine rvP C (.pv (.lit (.bool (!(a.fresh == b.fresh))))) ?_
 refine rvP C (.pv (.lit (.bool (!(a.fresh == b.fresh))))) ?_
 refine rvc_case 13 (!(a.fresh == b.fresh)) rfl (fun h1 => ?_) (fun h1 => ?_)
 ·
  replace hR := of_true h1 hR
  refine rvO C (.ptr 5 2) ?_
  refine rvO C (.pv (.lit (.bool b.fresh))) ?_
  refine rvP C (.pv (.lit (.bool b.fresh))) ?_
  refine rvP C (.pv (.lit (.bool b.fresh))) ?_
  refine rvc_nil ?_
  refine Awp.cond (b := b.fresh) rfl (fun h2 => ?_) (fun h2 => ?_)
  ·
   replace hR := of_true h2 hR
   refine Awp.consP C ?_
   refine rvP C (.pv (.lit (.int .i64 (-1)))) ?_
   refine rvc_nil ?_
   refine Awp.ret ?_
   subst hR
   exact ⟨.inl rfl, rfl⟩
  ·
   replace hR := of_false h2 hR
   refine Awp.consP C ?_
   refine rvP C (.ptr 4 2) ?_
   refine rvP C (.pv (.lit (.bool a.fresh))) ?_
   refine rvP C (.ptr 5 2) ?_
   refine rvP C (.pv (.lit (.bool b.fresh))) ?_
   refine rvP C (.pv (.lit (.bool (!(a.fresh == b.fresh))))) ?_
   refine rvP C (.pv (.lit (.bool (!(a.fresh == b.fresh))))) ?_
   refine rvc_nil ?_
   refine Awp.condT (b := (!(a.fresh == b.fresh))) rfl h1 ?_
   refine Awp.consP C ?_
   refine rvP C (.pv (.lit (.int .i64 1))) ?_
   refine rvc_nil ?_
   refine Awp.ret ?_
   subst hR
   exact ⟨.inl rfl, rfl⟩
 ·
  replace hR := of_false h1 hR
  refine rvS ?_
  refine rvS ?_
  refine rvP C (.pv (.lit (.bool false))) ?_
  refine rvP C (.pv (.lit (.bool false))) ?_
  refine rvc_nil ?_
  refine Awp.condF (b := false) rfl rfl ?_
  refine Awp.consP C ?_
  refine rvP C (.ptr 4 2) ?_
  refine rvP C (.pv (.lit (.bool a.fresh))) ?_
  refine rvP C (.ptr 5 2) ?_
  refine rvP C (.pv (.lit (.bool b.fresh))) ?_
  refine rvP C (.pv (.lit (.bool (!(a.fresh == b.fresh))))) ?_
  refine rvP C (.pv (.lit (.bool (!(a.fresh == b.fresh))))) ?_
  refine rvc_nil ?_
  refine Awp.condF (b := (!(a.fresh == b.fresh))) rfl h1 ?_
  refine Awp.skip ?_
  refine Awp.consP C ?_
  refine rvP C (.pv (.lit (.int .i64 c1))) ?_
  refine rvP C (.ptr 4 1) ?_
  refine rvP C (.pv (.lit (.int .i64 a.site))) ?_
  refine rvc_un (rexec_idxRp C (fun p q => .lit (.int .i64 ((c0 p) q))) [.lit (.int .i64 ((c0 c1.toNat) 0)), .lit (.int .i64 ((c0 c1.toNat) 1)), .lit (.int .i64 ((c0 c1.toNat) 2))] rfl rfl rfl rfl rfl rfl rfl ⟨(by omega), (by omega)⟩ rfl ?_)
  refine rvc_un (rexec_idxRp1 C (fun p => .lit (.int .i64 ((c0 c1.toNat) p))) (.lit (.int .i64 ((c0 c1.toNat) a.site.toNat))) rfl rfl rfl rfl rfl rfl rfl ⟨(by omega), (by omega)⟩ rfl ?_)
  refine rvP C (.pv (.lit (.int .i64 ((c0 c1.toNat) a.site.toNat)))) ?_
  refine rvP C (.pv (.lit (.int .i64 c1))) ?_
  refine rvP C (.ptr 5 1) ?_
  refine rvP C (.pv (.lit (.int .i64 b.site))) ?_
  refine rvc_un (rexec_idxRp C (fun p q => .lit (.int .i64 ((c0 p) q))) [.lit (.int .i64 ((c0 c1.toNat) 0)), .lit (.int .i64 ((c0 c1.toNat) 1)), .lit (.int .i64 ((c0 c1.toNat) 2))] rfl rfl rfl rfl rfl rfl rfl ⟨(by omega), (by omega)⟩ rfl ?_)
  refine rvc_un (rexec_idxRp1 C (fun p => .lit (.int .i64 ((c0 c1.toNat) p))) (.lit (.int .i64 ((c0 c1.toNat) b.site.toNat))) rfl rfl rfl rfl rfl rfl rfl ⟨(by omega), (by omega)⟩ rfl ?_)
  refine rvP C (.pv (.lit (.int .i64 ((c0 c1.toNat) b.site.toNat)))) ?_
  refine rvP C (.pv (.lit (.int .i64 (IntKind.i64.wrap (((c0 c1.toNat) a.site.toNat) - ((c0 c1.toNat) b.site.toNat)))))) ?_
  refine rvP C (.pv (.lit (.int .i64 (IntKind.i64.wrap (((c0 c1.toNat) a.site.toNat) - ((c0 c1.toNat) b.site.toNat)))))) ?_
  refine rvc_nil ?_
  refine Awp.ret ?_
  subst hR
  exact ⟨.inl rfl, rfl⟩
def able (c : Chain) (w : (Nat → (Nat → Int))) (from_ : Int) : Int :=
  (bif ((check c) != 0) then (check c) else (bif ((wayCheck w) != 0) then 1 else (bif (!(siteOk from_)) then 1 else 0)))
theorem able_calls (c : Chain) (w : (Nat → (Nat → Int))) (from_ : Int) (hl1 : c.members.D.length ≤ 1000000) : PCalls Try.prog 37 [.agg [.pv (.lit (.int .i64 c.epoch)), sS (some c.members.nil) eMember c.members.D], .agg [.pv (.lit (.int .i64 ((w 0) 0))), .pv (.lit (.int .i64 ((w 0) 1))), .pv (.lit (.int .i64 ((w 0) 2))), .pv (.lit (.int .i64 ((w 1) 0))), .pv (.lit (.int .i64 ((w 1) 1))), .pv (.lit (.int .i64 ((w 1) 2))), .pv (.lit (.int .i64 ((w 2) 0))), .pv (.lit (.int .i64 ((w 2) 1))), .pv (.lit (.int .i64 ((w 2) 2)))], .pv (.lit (.int .i64 from_))] (.pv (.lit (.int .i64 (able c w from_)))) := by
 generalize hR : able c w from_ = R
 refine PCalls.of_body tabOk Try.func37 rfl rfl rfl rfl rfl mixed fun E hP C hI => ?_
 refine Awp.consP C ?_
 refine rvc_un (rexec_prim C (δ := { v := .ptr 3 0, new := [(3, .cells [.pv (.lit (.int .i64 c.epoch)), sS (some c.members.nil) eMember c.members.D])] }) rfl rfl rfl rfl trivial rfl ?_)
 refine rvc_un (rexec_prim C (δ := { v := .ptr 4 0, new := [(4, .cells [.pv (.lit (.int .i64 ((w 0) 0))), .pv (.lit (.int .i64 ((w 0) 1))), .pv (.lit (.int .i64 ((w 0) 2))), .pv (.lit (.int .i64 ((w 1) 0))), .pv (.lit (.int .i64 ((w 1) 1))), .pv (.lit (.int .i64 ((w 1) 2))), .pv (.lit (.int .i64 ((w 2) 0))), .pv (.lit (.int .i64 ((w 2) 1))), .pv (.lit (.int .i64 ((w 2) 2)))])] }) rfl rfl rfl rfl trivial rfl ?_)
 refine rvP C (.pv (.lit (.int .i64 0))) ?_
 refine rvc_nil ?_
 refine Awp.seq ?_
 refine Awp.consP C ?_
 refine rvP C (.agg [.pv (.lit (.int .i64 c.epoch)), sS (some c.members.nil) eMember c.members.D]) ?_
 refine rvc_un (rexec_call hP C rfl rfl rfl (check_calls c (Nat.le_trans hl1 (by decide))) ?_)
 refine rvP C (.pv (.lit (.int .i64 (check c)))) ?_
 refine rvc_nil ?_
 refine Awp.consP C ?_
 refine rvP C (.pv (.lit (.int .i64 (check c)))) ?_
 refine rvP C (.pv (.lit (.bool ((check c) != 0)))) ?_
 refine rvc_nil ?_
 refine Awp.cond (b := ((check c) != 0)) rfl (fun h1 => ?_) (fun h1 => ?_)
 ·
  replace hR := of_true h1 hR
  refine Awp.consP C ?_
  refine rvP C (.pv (.lit (.int .i64 (check c)))) ?_
  refine rvP C (.pv (.lit (.int .i64 (check c)))) ?_
  refine rvc_nil ?_
  refine Awp.ret ?_
  subst hR
  exact ⟨.inl rfl, rfl⟩
 ·
  replace hR := of_false h1 hR
  refine Awp.skip ?_
  refine Awp.seq ?_
  refine Awp.consP C ?_
  refine rvP C (.agg [.pv (.lit (.int .i64 ((w 0) 0))), .pv (.lit (.int .i64 ((w 0) 1))), .pv (.lit (.int .i64 ((w 0) 2))), .pv (.lit (.int .i64 ((w 1) 0))), .pv (.lit (.int .i64 ((w 1) 1))), .pv (.lit (.int .i64 ((w 1) 2))), .pv (.lit (.int .i64 ((w 2) 0))), .pv (.lit (.int .i64 ((w 2) 1))), .pv (.lit (.int .i64 ((w 2) 2)))]) ?_
  refine rvc_un (rexec_call hP C rfl rfl rfl (wayCheck_calls w) ?_)
  refine rvP C (.pv (.lit (.bool ((wayCheck w) != 0)))) ?_
  refine rvP C (.pv (.lit (.bool ((wayCheck w) != 0)))) ?_
  refine rvc_case 16 ((wayCheck w) != 0) rfl (fun h2 => ?_) (fun h2 => ?_)
  ·
   replace hR := of_true h2 hR
   refine rvS ?_
   refine rvS ?_
   refine rvS ?_
   refine rvP C (.pv (.lit (.bool true))) ?_
   refine rvc_nil ?_
   refine Awp.condT (b := true) rfl rfl ?_
   refine Awp.consP C ?_
   refine rvP C (.pv (.lit (.int .i64 1))) ?_
   refine rvc_nil ?_
   refine Awp.ret ?_
   subst hR
   exact ⟨.inl rfl, rfl⟩
  ·
   replace hR := of_false h2 hR
   refine rvO C (.pv (.lit (.int .i64 from_))) ?_
   refine rvc_open rfl rfl rfl (rexec_call hP C rfl rfl rfl (siteOk_calls from_) ?_)
   refine rvO C (.pv (.lit (.bool (!(siteOk from_))))) ?_
   refine rvP C (.pv (.lit (.bool (!(siteOk from_))))) ?_
   refine rvc_nil ?_
   refine Awp.cond (b := (!(siteOk from_))) rfl (fun h3 => ?_) (fun h3 => ?_)
   ·
    replace hR := of_true h3 hR
    refine Awp.consP C ?_
    refine rvP C (.pv (.lit (.int .i64 1))) ?_
    refine rvc_nil ?_
    refine Awp.ret ?_
    subst hR
    exact ⟨.inl rfl, rfl⟩
   ·
    replace hR := of_false h3 hR
    refine Awp.skip ?_
    refine Awp.consP C ?_
    refine rvP C (.pv (.lit (.int .i64 0))) ?_
    refine rvc_nil ?_
    refine Awp.ret ?_
    subst hR
    exact ⟨.inl rfl, rfl⟩
end Go.Proofs.Ytihccnkegkkikaa
/- What is asked ahead of ways. No conditions. -/
namespace Go.Proofs.Ytihccnkegkkikaa
open Go.Am
theorem bif0 {a : Bool} {x y : Int} (hx : x ≠ 0) (h : (bif a then x else y) = 0) : a = false ∧ y = 0 := bif_const hx h
theorem site_ok {n : Int} (h : siteOk n = true) : 0 ≤ n ∧ n < 3 := by
  unfold siteOk at h
  cases h1 : decide (n ≥ 0)
  · rw [h1] at h; cases h
  · rw [h1] at h
    have h2 : decide (n < 3) = true := h
    exact ⟨of_decide_eq_true h1, of_decide_eq_true h2⟩
theorem able_ok {c : Chain} {w : Nat → Nat → Int} {f : Int} (h : able c w f = 0) : check c = 0 ∧ wayCheck w = 0 ∧ 0 ≤ f ∧ f < 3 := by
  unfold able at h
  cases hc : check c != 0
  · rw [hc, cond_false] at h
    obtain ⟨h1, h⟩ := bif0 (by decide) h
    cases hs : siteOk f
    · rw [hs] at h; cases h
    · exact ⟨eq_of_bne_false hc, eq_of_bne_false h1, site_ok hs⟩
  · rw [hc, cond_true] at h
    rw [h] at hc; cases hc
theorem sites_ok {c : Chain} (h : check c = 0) : ∀ x ∈ c.members.D, 0 ≤ x.site ∧ x.site < 3 := fun x hx => by
  have := mem_ok h hx
  omega
end Go.Proofs.Ytihccnkegkkikaa
/- Sorting by insertion, in plain Lean: what the code's way gives is each key's members, one behind the other. No conditions. -/
namespace Go.Proofs.Ytihccnkegkkikaa
open Go.Am
section ins
variable {α : Type} (lt : α → α → Bool)
/-- An element is put ahead of all those at the end that are greater. -/
def ins (l : List α) (x : α) : List α := (l.reverse.dropWhile (lt x)).reverse ++ x :: (l.reverse.takeWhile (lt x)).reverse
theorem ins_len (l : List α) (x : α) : (ins lt l x).length = l.length + 1 := by
  unfold ins
  have : (l.reverse.takeWhile (lt x)).length + (l.reverse.dropWhile (lt x)).length = l.length := by
    rw [← List.length_append, List.takeWhile_append_dropWhile, List.length_reverse]
  simp only [List.length_append, List.length_cons, List.length_reverse]
  omega
theorem ins_nil (x : α) : ins lt [] x = [x] := rfl
theorem ins_snoc (l : List α) (y x : α) : ins lt (l ++ [y]) x = if lt x y then ins lt l x ++ [y] else l ++ [y] ++ [x] := by
  unfold ins
  rw [List.reverse_append]
  show ((y :: l.reverse).dropWhile (lt x)).reverse ++ x :: ((y :: l.reverse).takeWhile (lt x)).reverse = _
  rw [List.dropWhile_cons, List.takeWhile_cons]
  cases lt x y
  · simp
  · simp
end ins
def ltI (cmp : Member → Member → Int) (x y : Member) : Bool := decide (cmp x y < 0)
theorem get_mid {P T : List Member} {x : Member} {z : Nat} (h : z = P.length) : (P ++ x :: T)[z]! = x := by subst h; simp
theorem set_mid2 {P T : List Member} {x y : Member} {z : Nat} (h : z = P.length) : (P ++ x :: T).set z y = P ++ y :: T := by subst h; simp
theorem insSort_l1_eq (cmp : Member → Member → Int) (kk : Int → List Member → List Member) : ∀ (P : List Member) (x : Member) (T : List Member) (n : Nat), P.length < 1000000 → P.length < n → ∃ j, insSort_l1 0 cmp kk n (P.length : Int) (P ++ x :: T) = kk j (ins (ltI cmp) P x ++ T) := by
  intro P
  induction hm : P.length generalizing P with
  | zero =>
    intro x T n _ hn
    obtain rfl := List.eq_nil_of_length_eq_zero hm
    obtain ⟨m, rfl⟩ : ∃ m, n = m + 1 := ⟨n - 1, by omega⟩
    exact ⟨0, rfl⟩
  | succ q ih =>
    intro x T n hP hn
    obtain ⟨P', y, rfl⟩ : ∃ P' y, P = P' ++ [y] := by
      rcases List.eq_nil_or_concat P with h | ⟨L, b, h⟩
      · rw [h] at hm; cases hm
      · exact ⟨L, b, by simpa using h⟩
    have hq : P'.length = q := by simpa using hm
    subst hq
    have ih := ih P' rfl
    revert ih hP hn
    generalize P' = P
    intro hP hn ih
    obtain ⟨m, rfl⟩ : ∃ m, n = m + 1 := ⟨n - 1, by omega⟩
    have hw : IntKind.i64.wrap (((P.length + 1 : Nat) : Int) - 1) = (P.length : Int) := by rw [wrapI _ (by omega)]; omega
    unfold insSort_l1
    rw [decide_eq_true (show ((P.length + 1 : Nat) : Int) > 0 by omega), cond_true, hw, Int.toNat_natCast, Int.toNat_natCast]
    have g1 : (P ++ [y] ++ x :: T)[P.length + 1]! = x := get_mid (P := P ++ [y]) (by simp)
    have g2 : (P ++ [y] ++ x :: T)[P.length]! = y := by rw [List.append_assoc]; exact get_mid rfl
    have s1 : ((P ++ [y] ++ x :: T).set (P.length + 1) y).set P.length x = P ++ x :: (y :: T) := by
      rw [set_mid2 (P := P ++ [y]) (by simp), List.append_assoc]
      exact set_mid2 rfl
    rw [g1, g2, s1]
    have e : ins (ltI cmp) (P ++ [y]) x = if ltI cmp x y then ins (ltI cmp) P x ++ [y] else P ++ [y] ++ [x] := ins_snoc _ _ _ _
    rw [e]
    cases hc : decide (cmp x y < 0)
    · rw [cond_false, show ltI cmp x y = false from hc]
      refine ⟨((P.length + 1 : Nat) : Int), ?_⟩
      congr 1
      simp
    · rw [cond_true, show ltI cmp x y = true from hc]
      obtain ⟨j, hj⟩ := ih x (y :: T) m (by omega) (by omega)
      refine ⟨j, ?_⟩
      rw [hj]
      congr 1
      simp
theorem insSort_l0_eq (cmp : Member → Member → Int) : ∀ (R Q : List Member) (n : Nat), Q ≠ [] → Q.length + R.length < 1000000 → R.length < n → insSort_l0 0 ((Q.length + R.length : Nat) : Int) cmp n (Q.length : Int) (Q ++ R) = R.foldl (ins (ltI cmp)) Q
  | [], Q, n, _, _, hn => by
    obtain ⟨m, rfl⟩ : ∃ m, n = m + 1 := ⟨n - 1, by simp at hn; omega⟩
    unfold insSort_l0
    rw [decide_eq_false (by simp), cond_false, List.append_nil]; rfl
  | x :: R, Q, n, hQ, hl, hn => by
    obtain ⟨m, rfl⟩ : ∃ m, n = m + 1 := ⟨n - 1, by simp at hn; omega⟩
    rw [List.length_cons] at hl hn ⊢
    unfold insSort_l0
    rw [decide_eq_true (by omega), cond_true]
    obtain ⟨j, hj⟩ := insSort_l1_eq cmp (fun _ vc1 => insSort_l0 0 ((Q.length + (R.length + 1) : Nat) : Int) cmp m (IntKind.i64.wrap ((Q.length : Int) + 1)) vc1) Q x R (((Q.length : Int) - 0).toNat + 1) (by omega) (by omega)
    rw [hj]
    have hlen := ins_len (ltI cmp) Q x
    have hw : IntKind.i64.wrap ((Q.length : Int) + 1) = ((ins (ltI cmp) Q x).length : Int) := by rw [wrapI _ (by omega), hlen]; omega
    have ih := insSort_l0_eq cmp R (ins (ltI cmp) Q x) m (fun h => by rw [h] at hlen; simp at hlen) (by omega) (by omega)
    rw [hw, List.foldl_cons, ← ih]
    congr 2
    omega
theorem insSort_eq (cmp : Member → Member → Int) (D : List Member) (h : D.length < 1000000) : insSort D 0 (D.length : Int) cmp = D.foldl (ins (ltI cmp)) [] := by
  unfold insSort
  cases D with
  | nil => rfl
  | cons x R =>
    have hw : IntKind.i64.wrap (0 + 1) = (([x] : List Member).length : Int) := by rw [List.length_singleton]; decide
    rw [List.length_cons] at h ⊢
    have := insSort_l0_eq cmp R [x] ((((R.length + 1 : Nat) : Int) - (([x] : List Member).length : Int)).toNat + 1) (by simp) (by simp; omega) (by simp)
    rw [hw, List.foldl_cons, ins_nil, ← this]
    congr 2
    simp; omega
theorem foldl_ins_len (lt : Member → Member → Bool) : ∀ (l Q : List Member), (l.foldl (ins lt) Q).length = Q.length + l.length
  | [], _ => rfl
  | x :: l, Q => by rw [List.foldl_cons, foldl_ins_len lt l, ins_len, List.length_cons]; omega
theorem sortSF_eq (cmp : Member → Member → Int) (D : List Member) (h : D.length < 1000000) : sortSF D cmp = D.foldl (ins (ltI cmp)) [] := by
  unfold sortSF stable
  exact insSort_eq cmp D h
theorem sortSF_len (D : List Member) (cmp : Member → Member → Int) (h : D.length < 1000000) : (sortSF D cmp).length = D.length := by
  rw [sortSF_eq cmp D h, foldl_ins_len]; simp
end Go.Proofs.Ytihccnkegkkikaa
/- Who is near; how far a write goes. No conditions. -/
namespace Go.Proofs.Ytihccnkegkkikaa
open Go.Am
def cloneO (s : (Sl Member)) : List Member :=
  s.D
theorem cloneO_calls (s : (Sl Member)) (hn : s.nil = false) (hl1 : s.D.length ≤ 1000000) : OCalls Try.prog 14 [sS (some s.nil) eMember s.D] (.sl 0 0 (cloneO s).length 3 false) (.cells (encC eMember (cloneO s))) := by
 generalize hR : cloneO s = R
 refine OCalls.of_body tabOk Try.func14 rfl rfl rfl rfl rfl (encC_within _ _) mixed fun E hP C hI => ?_
 refine Awp.consP C ?_
 refine rvP C (sS (some true) eMember []) ?_
 refine rvc_nil ?_
 refine Awp.seq ?_
 refine Awp.consP C ?_
 refine rvP C (sS (some s.nil) eMember s.D) ?_
 refine rvc_un (rexec_eqNil C (f := s.nil) rfl rfl rfl rfl ?_)
 refine rvc_nil ?_
 refine Awp.condF (b := s.nil) rfl hn ?_
 refine Awp.skip ?_
 refine Awp.consP C ?_
 refine rvc_un (rexec_prim C (δ := { v := .sl 5 0 0 3 true, new := [(5, .cells (encC eMember []))] }) rfl rfl rfl rfl trivial rfl ?_)
 refine rvP C (sS (some s.nil) eMember s.D) ?_
 refine rvc_un (rexec_append C rfl rfl rfl rfl rfl rfl rfl rfl (fun _ h => by cases h) rfl (en := eMember) (D0 := []) (D := s.D) rfl rfl rfl rfl (by first | omega | (simp <;> omega)) (by decide) (nn := s.D.length) (by simp) ?_)
 refine rvP C (.sl 7 0 s.D.length 3 false) ?_
 refine rvc_nil ?_
 refine Awp.weakenR (S := [(2, .sl 0 0 s.D.length 3 false)]) (H := [(0, .cells (encC eMember s.D))]) (U := [0]) (fun x => bif x == 0 then 7 else x) (WeakerR.ofL (Ks := [0]) hI ⟨⟨rfl, rfl⟩, trivial⟩ (okH_list rfl rfl rfl okH_nil) rfl) ?_
 refine Awp.ret ?_
 subst hR
 exact ⟨.inl rfl, rfl, rfl⟩
def near_l0 : List Member → Nat → (List Int) → (Sl Int) × Int
  | [], _, out => ((Sl.mk out.isEmpty out), 0)
  | x :: xs, i, out => near_l0 xs (i + 1) (out ++ [x.node])
def near (c : Chain) (w : (Nat → (Nat → Int))) (from_ : Int) : (Sl Int) × Int :=
  (bif ((able c w from_) != 0) then ((Sl.mk true []), (able c w from_)) else near_l0 (sortSF c.members.D (fun x0 x1 => nearF x0 x1 w from_)) 0 [])
theorem near_calls (c : Chain) (w : (Nat → (Nat → Int))) (from_ : Int) (hn : c.members.nil = true → c.members.D = []) (hl1 : c.members.D.length ≤ 1000000) : PCalls Try.prog 15 [.agg [.pv (.lit (.int .i64 c.epoch)), sS (some c.members.nil) eMember c.members.D], .agg [.pv (.lit (.int .i64 ((w 0) 0))), .pv (.lit (.int .i64 ((w 0) 1))), .pv (.lit (.int .i64 ((w 0) 2))), .pv (.lit (.int .i64 ((w 1) 0))), .pv (.lit (.int .i64 ((w 1) 1))), .pv (.lit (.int .i64 ((w 1) 2))), .pv (.lit (.int .i64 ((w 2) 0))), .pv (.lit (.int .i64 ((w 2) 1))), .pv (.lit (.int .i64 ((w 2) 2)))], .pv (.lit (.int .i64 from_))] (.tup [sS (some (near c w from_).1.nil) (eI .i64) ((near c w from_).1.D), .pv (.lit (.int .i64 ((near c w from_).2)))]) := by
 generalize hR : near c w from_ = R
 refine PCalls.of_body tabOk Try.func15 rfl rfl rfl rfl rfl mixed fun E hP C hI => ?_
 refine Awp.consP C ?_
 refine rvc_un (rexec_prim C (δ := { v := .ptr 3 0, new := [(3, .cells [.pv (.lit (.int .i64 c.epoch)), sS (some c.members.nil) eMember c.members.D])] }) rfl rfl rfl rfl trivial rfl ?_)
 refine rvc_un (rexec_boxF C [.lit (.int .i64 ((w 0) 0)), .lit (.int .i64 ((w 0) 1)), .lit (.int .i64 ((w 0) 2)), .lit (.int .i64 ((w 1) 0)), .lit (.int .i64 ((w 1) 1)), .lit (.int .i64 ((w 1) 2)), .lit (.int .i64 ((w 2) 0)), .lit (.int .i64 ((w 2) 1)), .lit (.int .i64 ((w 2) 2))] rfl rfl rfl rfl ?_)
 refine rvc_un (rexec_boxF C [.lit (.int .i64 from_)] rfl rfl rfl rfl ?_)
 refine rvP C (sS (some true) (eI .i64) []) ?_
 refine rvP C (.pv (.lit (.int .i64 0))) ?_
 refine rvc_nil ?_
 refine Awp.seq ?_
 refine Awp.consP C ?_
 refine rvP C (.agg [.pv (.lit (.int .i64 c.epoch)), sS (some c.members.nil) eMember c.members.D]) ?_
 refine rvP C (.agg [.pv (.lit (.int .i64 ((w 0) 0))), .pv (.lit (.int .i64 ((w 0) 1))), .pv (.lit (.int .i64 ((w 0) 2))), .pv (.lit (.int .i64 ((w 1) 0))), .pv (.lit (.int .i64 ((w 1) 1))), .pv (.lit (.int .i64 ((w 1) 2))), .pv (.lit (.int .i64 ((w 2) 0))), .pv (.lit (.int .i64 ((w 2) 1))), .pv (.lit (.int .i64 ((w 2) 2)))]) ?_
 refine rvP C (.pv (.lit (.int .i64 from_))) ?_
 refine rvc_un (rexec_call hP C rfl rfl rfl (able_calls c w from_ hl1) ?_)
 refine rvP C (.pv (.lit (.int .i64 (able c w from_)))) ?_
 refine rvc_nil ?_
 refine Awp.consP C ?_
 refine rvP C (.pv (.lit (.int .i64 (able c w from_)))) ?_
 refine rvP C (.pv (.lit (.bool ((able c w from_) != 0)))) ?_
 refine rvc_nil ?_
 refine Awp.cond (b := ((able c w from_) != 0)) rfl (fun h1 => ?_) (fun h1 => ?_)
 ·
  replace hR := of_true h1 hR
  refine Awp.consP C ?_
  refine rvP C (.pv (.lit (.int .i64 (able c w from_)))) ?_
  refine rvP C (sS (some true) (eI .i64) []) ?_
  refine rvP C (.pv (.lit (.int .i64 (able c w from_)))) ?_
  refine rvc_nil ?_
  refine Awp.ret ?_
  subst hR
  exact ⟨.inl rfl, rfl⟩
 ·
  replace hR := of_false h1 hR
  refine Awp.skip ?_
  refine Awp.cons C (fun _ => .quiet) (by kernel_rfl) ?_
  refine rvP C (.ptr 3 1) ?_
  refine rvP C (sS (some c.members.nil) eMember c.members.D) ?_
  refine rvc_un (rexec_callO hP C rfl rfl rfl rfl (cloneO_calls c.members (nil_false hn (check_len (able_ok (eq_of_bne_false h1)).1)) hl1) ?_)
  refine rvP C (.sl 22 0 c.members.D.length 3 false) ?_
  refine rvc_nil ?_
  refine Awp.cons C (fun _ => .writer) (by kernel_rfl) ?_
  refine rvP C (.sl 22 0 c.members.D.length 3 false) ?_
  refine rvP C (.fn 42 [] [.rp [.lit (.int .i64 ((w 0) 0)), .lit (.int .i64 ((w 0) 1)), .lit (.int .i64 ((w 0) 2)), .lit (.int .i64 ((w 1) 0)), .lit (.int .i64 ((w 1) 1)), .lit (.int .i64 ((w 1) 2)), .lit (.int .i64 ((w 2) 0)), .lit (.int .i64 ((w 2) 1)), .lit (.int .i64 ((w 2) 2))], .rp [.lit (.int .i64 from_)]]) ?_
  have hsl_ := sortSF_len c.members.D (fun x0 x1 => nearF x0 x1 w from_) (by have := check_le6 (able_ok (eq_of_bne_false h1)).1; omega)
  refine rvc_un (rexec_callM hP C (b := 22) rfl rfl rfl (sortSF_calls c.members.D (fun x0 x1 => nearF x0 x1 w from_) 42 [.rp [.lit (.int .i64 ((w 0) 0)), .lit (.int .i64 ((w 0) 1)), .lit (.int .i64 ((w 0) 2)), .lit (.int .i64 ((w 1) 0)), .lit (.int .i64 ((w 1) 1)), .lit (.int .i64 ((w 1) 2)), .lit (.int .i64 ((w 2) 0)), .lit (.int .i64 ((w 2) 1)), .lit (.int .i64 ((w 2) 2))], .rp [.lit (.int .i64 from_)]] (fun x0 x1 h0_ h1_ => nearF_calls x0 x1 w from_ h0_ h1_ (able_ok (eq_of_bne_false h1)).2.2) rfl (check_le6 (able_ok (eq_of_bne_false h1)).1) (sites_ok (able_ok (eq_of_bne_false h1)).1)) rfl rfl ?_)
  refine rvc_nil ?_
  refine Awp.consP C ?_
  refine rvP C (sS (some true) (eI .i64) []) ?_
  refine rvc_nil ?_
  refine Awp.seq ?_
  refine Awp.consP C ?_
  refine rvP C (.sl 22 0 c.members.D.length 3 false) ?_
  refine rvP C (.pv (.lit (.int .i64 (c.members.D.length : Int)))) ?_
  refine rvP C (.pv (.lit (.int .i64 0))) ?_
  refine rvc_nil ?_
  refine Awp.block ?_
  refine Awp.forR (σ := ((List Int))) ((sortSF c.members.D (fun x0 x1 => nearF x0 x1 w from_)).length) (fun i v => [(10, grow 900 (eI .i64) v), (26, .sl 22 0 c.members.D.length 3 false), (27, .pv (.lit (.int .i64 (c.members.D.length : Int)))), (28, .pv (.lit (.int .i64 (i : Int))))]) (fun i v => (growH 900 (eI .i64) v ++ ([(22, .cells (encC eMember (sortSF c.members.D (fun x0 x1 => nearF x0 x1 w from_))))]))) [22, 900] (fun i v => (near_l0 ((sortSF c.members.D (fun x0 x1 => nearF x0 x1 w from_)).drop i) i v = R) ∧ (v.length ≤ i)) [] ?_ ?_ (fun i out h2 hR => ?_)
  · exact ⟨hR, (by first | omega | (simp <;> omega))⟩
  · exact ⟨fun b => b, WeakerR.ofL (Ks := [22, 900]) hI ⟨⟨rfl, rfl⟩, ⟨rfl, rfl⟩, ⟨rfl, rfl⟩, ⟨rfl, rfl⟩, trivial⟩ (okH_grow (fun hne => absurd rfl hne) rfl rfl (okH_list rfl rfl rfl (okH_nil))) rfl⟩
  obtain ⟨hR, hi_out⟩ := hR
  replace hi_out : out.length ≤ i := hi_out
  by_cases h3 : out = []
  ·
   refine Awp.wordsR [(10, sS (some out.isEmpty) (eI .i64) out), (26, .sl 22 0 c.members.D.length 3 false), (27, .pv (.lit (.int .i64 (c.members.D.length : Int)))), (28, .pv (.lit (.int .i64 (i : Int))))] [(22, .cells (encC eMember (sortSF c.members.D (fun x0 x1 => nearF x0 x1 w from_))))] [22] (WeakerR.ofL (Ks := [22]) hI ⟨⟨(by exact grow_at_nil (b := 900) (e := (eI .i64)) (l := out) rfl h3), rfl⟩, ⟨rfl, rfl⟩, ⟨rfl, rfl⟩, ⟨rfl, rfl⟩, trivial⟩ (okH_list (look_nil h3 rfl) rfl rfl (okH_nil)) rfl) ?_
   refine Awp.consP C ?_
   refine rvP C (.pv (.lit (.bool (decide ((i : Int) < (c.members.D.length : Int)))))) ?_
   refine rvc_nil ?_
   refine Awp.seq ?_
   refine Awp.cond (b := (decide ((i : Int) < (c.members.D.length : Int)))) rfl (fun h4 => ?_) (fun h4 => ?_)
   ·
    have h5 : i < (sortSF c.members.D (fun x0 x1 => nearF x0 x1 w from_)).length := by have := of_decide_eq_true h4; omega
    obtain ⟨x, h6⟩ := getX h5
    rw [drop_at h6] at hR
    refine Awp.skip ?_
    refine Awp.seq ?_
    refine Awp.block ?_
    refine Awp.consP C ?_
    refine rvc_un (rexec_prim C (δ := { v := .ptr 22 (0 + i * 3) }) rfl rfl rfl rfl ⟨(by have := eq_of_bne_false h1; have := of_decide_eq_true h4; omega), getlt h6 (by first | rfl | omega | (have := eq_of_bne_false h1; have := of_decide_eq_true h4; omega)) (by first | rfl | omega | simp)⟩ rfl ?_)
    refine rvc_un (rexec_loadE C (e := eMember) i 0 x (.agg [.pv (.lit (.int .i64 x.node)), .pv (.lit (.int .i64 x.site)), .pv (.lit (.bool x.fresh))]) rfl rfl rfl rfl h6 (by simp [eMember]) (by decide) (by decide) rfl ?_)
    refine rvc_un (rexec_prim C (δ := { v := .ptr 12 0, new := [(12, .cells [.pv (.lit (.int .i64 0)), .pv (.lit (.int .i64 0)), .pv (.lit (.bool false))])] }) rfl rfl rfl rfl trivial rfl ?_)
    refine rvc_un (rexec_prim C (δ := { v := .undef, wr := [(12, some (.cells [.pv (.lit (.int .i64 x.node)), .pv (.lit (.int .i64 x.site)), .pv (.lit (.bool x.fresh))]))] }) rfl rfl rfl rfl trivial rfl ?_)
    refine rvc_nil ?_
    refine Awp.regionP C ?_
    refine rvP C (sS (some out.isEmpty) (eI .i64) out) ?_
    refine rvP C (.ptr 12 0) ?_
    refine rvP C (.pv (.lit (.int .i64 x.node))) ?_
    refine rvc_un (rexec_buildSliceF C (eI .i64) [x.node] rfl rfl rfl rfl rfl rfl rfl (by decide) rfl ?_)
    refine rvc_un (rexec_appendG C rfl rfl rfl rfl rfl rfl rfl rfl (fun _ h => by cases h) rfl (en := (eI .i64)) (l := out) (D := [x.node]) rfl rfl h3 (by rw [h3]; rfl) (by simp) (by have := eq_of_bne_false h1; have := of_decide_eq_true h4; first | omega | (simp <;> omega)) (by decide) (nn := (out ++ [x.node]).length) (by simp) ?_)
    refine rvP C (.sl 36 0 ((out ++ [x.node]).length) 1 false) ?_
    refine rvc_nil ?_
    refine Awp.regionP C ?_
    refine rvP C (.pv (.lit (.int .i64 (IntKind.i64.wrap ((i : Int) + 1))))) ?_
    refine rvP C (.pv (.lit (.int .i64 (IntKind.i64.wrap ((i : Int) + 1))))) ?_
    refine rvc_nil ?_
    refine ⟨h5, (out ++ [x.node]), ?_, ?_⟩
    · exact ⟨hR, (by first | omega | (simp <;> omega))⟩
    · exact ⟨fun b => bif b == 900 then 36 else (fun b => b) b, WeakerR.ofL (Ks := [22, 900]) hI ⟨⟨grow_to rfl rfl app_ne rfl rfl, grow_within rfl⟩, ⟨rfl, rfl⟩, ⟨rfl, rfl⟩, ⟨lit_cast (wrap_i64 (by omega) (by omega)), rfl⟩, trivial⟩ (okH_grow (fun _ => rfl) rfl rfl (okH_list rfl rfl rfl (okH_nil))) rfl⟩
   ·
    have h5 : ¬ i < (sortSF c.members.D (fun x0 x1 => nearF x0 x1 w from_)).length := by have := of_decide_eq_false h4; omega
    rw [drop_end h5] at hR
    refine Awp.exit ?_
    refine Awp.consP C ?_
    refine rvP C (sS (some out.isEmpty) (eI .i64) out) ?_
    refine rvP C (sS (some out.isEmpty) (eI .i64) out) ?_
    refine rvP C (.pv (.lit (.int .i64 0))) ?_
    refine rvc_nil ?_
    refine Awp.ret ?_
    subst hR
    exact ⟨.inl rfl, rfl⟩
  ·
   refine Awp.wordsR [(10, .sl 900 0 out.length 1 false), (26, .sl 22 0 c.members.D.length 3 false), (27, .pv (.lit (.int .i64 (c.members.D.length : Int)))), (28, .pv (.lit (.int .i64 (i : Int))))] [(900, .cells (encC (eI .i64) out)), (22, .cells (encC eMember (sortSF c.members.D (fun x0 x1 => nearF x0 x1 w from_))))] [22, 900] (WeakerR.ofL (Ks := [22, 900]) hI ⟨⟨(by exact grow_at_cons (b := 900) (b' := 900) (e := (eI .i64)) (l := out) rfl h3 rfl rfl rfl), rfl⟩, ⟨rfl, rfl⟩, ⟨rfl, rfl⟩, ⟨rfl, rfl⟩, trivial⟩ (okH_list (look_cons h3 rfl) rfl rfl (okH_list (look_cons h3 rfl) rfl rfl (okH_nil))) rfl) ?_
   refine Awp.consP C ?_
   refine rvP C (.pv (.lit (.bool (decide ((i : Int) < (c.members.D.length : Int)))))) ?_
   refine rvc_nil ?_
   refine Awp.seq ?_
   refine Awp.cond (b := (decide ((i : Int) < (c.members.D.length : Int)))) rfl (fun h7 => ?_) (fun h7 => ?_)
   ·
    have h8 : i < (sortSF c.members.D (fun x0 x1 => nearF x0 x1 w from_)).length := by have := of_decide_eq_true h7; omega
    obtain ⟨x, h9⟩ := getX h8
    rw [drop_at h9] at hR
    refine Awp.skip ?_
    refine Awp.seq ?_
    refine Awp.block ?_
    refine Awp.consP C ?_
    refine rvc_un (rexec_prim C (δ := { v := .ptr 22 (0 + i * 3) }) rfl rfl rfl rfl ⟨(by have := eq_of_bne_false h1; have := of_decide_eq_true h7; omega), getlt h9 (by first | rfl | omega | (have := eq_of_bne_false h1; have := of_decide_eq_true h7; omega)) (by first | rfl | omega | simp)⟩ rfl ?_)
    refine rvc_un (rexec_loadE C (e := eMember) i 0 x (.agg [.pv (.lit (.int .i64 x.node)), .pv (.lit (.int .i64 x.site)), .pv (.lit (.bool x.fresh))]) rfl rfl rfl rfl h9 (by simp [eMember]) (by decide) (by decide) rfl ?_)
    refine rvc_un (rexec_prim C (δ := { v := .ptr 12 0, new := [(12, .cells [.pv (.lit (.int .i64 0)), .pv (.lit (.int .i64 0)), .pv (.lit (.bool false))])] }) rfl rfl rfl rfl trivial rfl ?_)
    refine rvc_un (rexec_prim C (δ := { v := .undef, wr := [(12, some (.cells [.pv (.lit (.int .i64 x.node)), .pv (.lit (.int .i64 x.site)), .pv (.lit (.bool x.fresh))]))] }) rfl rfl rfl rfl trivial rfl ?_)
    refine rvc_nil ?_
    refine Awp.regionP C ?_
    refine rvP C (.sl 900 0 out.length 1 false) ?_
    refine rvP C (.ptr 12 0) ?_
    refine rvP C (.pv (.lit (.int .i64 x.node))) ?_
    refine rvc_un (rexec_buildSliceF C (eI .i64) [x.node] rfl rfl rfl rfl rfl rfl rfl (by decide) rfl ?_)
    refine rvc_un (rexec_append C rfl rfl rfl rfl rfl rfl rfl rfl (fun _ h => by cases h) rfl (en := (eI .i64)) (D0 := out) (D := [x.node]) rfl rfl rfl rfl (by have := eq_of_bne_false h1; have := of_decide_eq_true h7; first | omega | (simp <;> omega)) (by decide) (nn := (out ++ [x.node]).length) (by simp) ?_)
    refine rvP C (.sl 36 0 ((out ++ [x.node]).length) 1 false) ?_
    refine rvc_nil ?_
    refine Awp.regionP C ?_
    refine rvP C (.pv (.lit (.int .i64 (IntKind.i64.wrap ((i : Int) + 1))))) ?_
    refine rvP C (.pv (.lit (.int .i64 (IntKind.i64.wrap ((i : Int) + 1))))) ?_
    refine rvc_nil ?_
    refine ⟨h8, (out ++ [x.node]), ?_, ?_⟩
    · exact ⟨hR, (by first | omega | (simp <;> omega))⟩
    · exact ⟨fun b => bif b == 900 then 36 else (fun b => b) b, WeakerR.ofL (Ks := [22, 900]) hI ⟨⟨grow_to rfl rfl app_ne rfl rfl, grow_within rfl⟩, ⟨rfl, rfl⟩, ⟨rfl, rfl⟩, ⟨lit_cast (wrap_i64 (by omega) (by omega)), rfl⟩, trivial⟩ (okH_grow (fun _ => rfl) rfl rfl (okH_list rfl rfl rfl (okH_nil))) rfl⟩
   ·
    have h8 : ¬ i < (sortSF c.members.D (fun x0 x1 => nearF x0 x1 w from_)).length := by have := of_decide_eq_false h7; omega
    rw [drop_end h8] at hR
    refine Awp.exit ?_
    refine Awp.consP C ?_
    refine rvP C (.sl 900 0 out.length 1 false) ?_
    refine rvP C (.sl 900 0 out.length 1 false) ?_
    refine rvP C (.pv (.lit (.int .i64 0))) ?_
    refine rvc_nil ?_
    refine Awp.freezeW 900 (encL (eI .i64) out) ?_ [(6, sS (some out.isEmpty) (eI .i64) out), (7, .pv (.lit (.int .i64 0)))] [(22, .cells (encC eMember (sortSF c.members.D (fun x0 x1 => nearF x0 x1 w from_))))] ?_ ?_ ?_
    · rfl
    · exact ⟨⟨_, rfl, .inl (.inr ⟨_, _, _, rfl, by rw [ne_isEmpty h3]; rfl⟩)⟩, ⟨_, rfl, .inl (.inl rfl)⟩, trivial⟩
    · exact ⟨⟨(by show (22 : Nat) ≠ 900; decide), .inl rfl⟩, trivial⟩
    refine Awp.ret ?_
    subst hR
    exact ⟨.inl rfl, rfl⟩
def writeW (c : Chain) (w : (Nat → (Nat → Int))) (from_ : Int) : Int × Int :=
  (bif ((able c w from_) != 0) then (0, (able c w from_)) else ((IntKind.i64.wrap ((IntKind.i64.wrap (2 * ((w from_.toNat) (c.members.D[0]!.site).toNat))) + (IntKind.i64.wrap (2 * (down c w))))), 0))
theorem writeW_calls (c : Chain) (w : (Nat → (Nat → Int))) (from_ : Int) (hl1 : c.members.D.length ≤ 1000000) : PCalls Try.prog 17 [.agg [.pv (.lit (.int .i64 c.epoch)), sS (some c.members.nil) eMember c.members.D], .agg [.pv (.lit (.int .i64 ((w 0) 0))), .pv (.lit (.int .i64 ((w 0) 1))), .pv (.lit (.int .i64 ((w 0) 2))), .pv (.lit (.int .i64 ((w 1) 0))), .pv (.lit (.int .i64 ((w 1) 1))), .pv (.lit (.int .i64 ((w 1) 2))), .pv (.lit (.int .i64 ((w 2) 0))), .pv (.lit (.int .i64 ((w 2) 1))), .pv (.lit (.int .i64 ((w 2) 2)))], .pv (.lit (.int .i64 from_))] (.tup [.pv (.lit (.int .i64 ((writeW c w from_).1))), .pv (.lit (.int .i64 ((writeW c w from_).2)))]) := by
 generalize hR : writeW c w from_ = R
 refine PCalls.of_body tabOk Try.func17 rfl rfl rfl rfl rfl mixed fun E hP C hI => ?_
 refine Awp.consP C ?_
 refine rvc_un (rexec_prim C (δ := { v := .ptr 3 0, new := [(3, .cells [.pv (.lit (.int .i64 c.epoch)), sS (some c.members.nil) eMember c.members.D])] }) rfl rfl rfl rfl trivial rfl ?_)
 refine rvc_un (rexec_prim C (δ := { v := .ptr 4 0, new := [(4, .cells [.pv (.lit (.int .i64 ((w 0) 0))), .pv (.lit (.int .i64 ((w 0) 1))), .pv (.lit (.int .i64 ((w 0) 2))), .pv (.lit (.int .i64 ((w 1) 0))), .pv (.lit (.int .i64 ((w 1) 1))), .pv (.lit (.int .i64 ((w 1) 2))), .pv (.lit (.int .i64 ((w 2) 0))), .pv (.lit (.int .i64 ((w 2) 1))), .pv (.lit (.int .i64 ((w 2) 2)))])] }) rfl rfl rfl rfl trivial rfl ?_)
 refine rvP C (.pv (.lit (.int .i64 0))) ?_
 refine rvP C (.pv (.lit (.int .i64 0))) ?_
 refine rvc_nil ?_
 refine Awp.seq ?_
 refine Awp.consP C ?_
 refine rvP C (.agg [.pv (.lit (.int .i64 c.epoch)), sS (some c.members.nil) eMember c.members.D]) ?_
 refine rvP C (.agg [.pv (.lit (.int .i64 ((w 0) 0))), .pv (.lit (.int .i64 ((w 0) 1))), .pv (.lit (.int .i64 ((w 0) 2))), .pv (.lit (.int .i64 ((w 1) 0))), .pv (.lit (.int .i64 ((w 1) 1))), .pv (.lit (.int .i64 ((w 1) 2))), .pv (.lit (.int .i64 ((w 2) 0))), .pv (.lit (.int .i64 ((w 2) 1))), .pv (.lit (.int .i64 ((w 2) 2)))]) ?_
 refine rvP C (.pv (.lit (.int .i64 from_))) ?_
 refine rvc_un (rexec_call hP C rfl rfl rfl (able_calls c w from_ hl1) ?_)
 refine rvP C (.pv (.lit (.int .i64 (able c w from_)))) ?_
 refine rvc_nil ?_
 refine Awp.consP C ?_
 refine rvP C (.pv (.lit (.int .i64 (able c w from_)))) ?_
 refine rvP C (.pv (.lit (.bool ((able c w from_) != 0)))) ?_
 refine rvc_nil ?_
 refine Awp.cond (b := ((able c w from_) != 0)) rfl (fun h1 => ?_) (fun h1 => ?_)
 ·
  replace hR := of_true h1 hR
  refine Awp.consP C ?_
  refine rvP C (.pv (.lit (.int .i64 (able c w from_)))) ?_
  refine rvP C (.pv (.lit (.int .i64 0))) ?_
  refine rvP C (.pv (.lit (.int .i64 (able c w from_)))) ?_
  refine rvc_nil ?_
  refine Awp.ret ?_
  subst hR
  exact ⟨.inl rfl, rfl⟩
 ·
  replace hR := of_false h1 hR
  refine Awp.skip ?_
  refine Awp.consP C ?_
  refine rvP C (.pv (.lit (.int .i64 from_))) ?_
  refine rvP C (.ptr 3 1) ?_
  refine rvP C (sS (some c.members.nil) eMember c.members.D) ?_
  have h2 : c.members.D[0]? = some c.members.D[0]! := getE (check_len (able_ok (eq_of_bne_false h1)).1)
  refine rvc_un (rexec_idxS C rfl rfl rfl rfl rfl rfl (c.members.D[0]!) (Int.natCast_nonneg _) h2 ?_)
  refine rvP C (.rp [.lit (.int .i64 (c.members.D[0]!.site))]) ?_
  refine rvP C (.pv (.lit (.int .i64 (c.members.D[0]!.site)))) ?_
  refine rvc_un (rexec_prim C (δ := { v := .ptr 4 (0 + from_.toNat * 3) }) rfl rfl rfl rfl ⟨(by have := (able_ok (eq_of_bne_false h1)).2.2; omega), (by have := (able_ok (eq_of_bne_false h1)).2.2; omega)⟩ rfl ?_)
  refine rvc_un (rexec_prim C (δ := { v := .ptr 4 (0 + from_.toNat * 3 + (c.members.D[0]!.site).toNat * 1) }) rfl rfl rfl rfl ⟨(by have := sites_ok (able_ok (eq_of_bne_false h1)).1 _ (at_mem (D := c.members.D) (n := 0) (check_len (able_ok (eq_of_bne_false h1)).1)); omega), (by have := sites_ok (able_ok (eq_of_bne_false h1)).1 _ (at_mem (D := c.members.D) (n := 0) (check_len (able_ok (eq_of_bne_false h1)).1)); omega)⟩ rfl ?_)
  refine rvc_un (rexec_load33 C (fun p q => .pv (.lit (.int .i64 ((w p) q)))) from_.toNat (c.members.D[0]!.site).toNat (.pv (.lit (.int .i64 ((w from_.toNat) (c.members.D[0]!.site).toNat)))) rfl rfl rfl rfl rfl rfl rfl (by have := (able_ok (eq_of_bne_false h1)).2.2; omega) (by have := sites_ok (able_ok (eq_of_bne_false h1)).1 _ (at_mem (D := c.members.D) (n := 0) (check_len (able_ok (eq_of_bne_false h1)).1)); omega) rfl ?_)
  refine rvP C (.pv (.lit (.int .i64 (IntKind.i64.wrap (2 * ((w from_.toNat) (c.members.D[0]!.site).toNat)))))) ?_
  refine rvP C (.agg [.pv (.lit (.int .i64 c.epoch)), sS (some c.members.nil) eMember c.members.D]) ?_
  refine rvP C (.agg [.pv (.lit (.int .i64 ((w 0) 0))), .pv (.lit (.int .i64 ((w 0) 1))), .pv (.lit (.int .i64 ((w 0) 2))), .pv (.lit (.int .i64 ((w 1) 0))), .pv (.lit (.int .i64 ((w 1) 1))), .pv (.lit (.int .i64 ((w 1) 2))), .pv (.lit (.int .i64 ((w 2) 0))), .pv (.lit (.int .i64 ((w 2) 1))), .pv (.lit (.int .i64 ((w 2) 2)))]) ?_
  refine rvc_un (rexec_call hP C rfl rfl rfl (down_calls c w (check_len (able_ok (eq_of_bne_false h1)).1) (by have := check_le6 (able_ok (eq_of_bne_false h1)).1; omega) (sites_ok (able_ok (eq_of_bne_false h1)).1)) ?_)
  refine rvP C (.pv (.lit (.int .i64 (IntKind.i64.wrap (2 * (down c w)))))) ?_
  refine rvP C (.pv (.lit (.int .i64 (IntKind.i64.wrap ((IntKind.i64.wrap (2 * ((w from_.toNat) (c.members.D[0]!.site).toNat))) + (IntKind.i64.wrap (2 * (down c w)))))))) ?_
  refine rvP C (.pv (.lit (.int .i64 (IntKind.i64.wrap ((IntKind.i64.wrap (2 * ((w from_.toNat) (c.members.D[0]!.site).toNat))) + (IntKind.i64.wrap (2 * (down c w)))))))) ?_
  refine rvP C (.pv (.lit (.int .i64 0))) ?_
  refine rvc_nil ?_
  refine Awp.ret ?_
  subst hR
  exact ⟨.inl rfl, rfl⟩
end Go.Proofs.Ytihccnkegkkikaa
/- Chains in plain Lean: what chapter 8 shows of them. No conditions. -/
namespace Go.Proofs.Ytihccnkegkkikaa
open Go.Am
theorem place0_lt (c : Chain) (n : Int) : place0 c n < (c.members.D.length : Int) ∧ -1 ≤ place0 c n ∧ (0 ≤ place0 c n → 0 < c.members.D.length) := by
  have := placeIn_lt c n
  unfold place0
  cases check c != 0 <;> simp only [cond_true, cond_false] <;> omega
end Go.Proofs.Ytihccnkegkkikaa
/- How far a read goes; direct ways. No conditions. -/
namespace Go.Proofs.Ytihccnkegkkikaa
open Go.Am
def readW (c : Chain) (w : (Nat → (Nat → Int))) (from_ : Int) (node : Int) (tail : Bool) (masters : Int) : Int × Int :=
  (bif ((able c w from_) != 0) then (0, (able c w from_)) else (bif (decide ((place0 c node) < 0)) then (0, 81) else (bif (!(siteOk masters)) then (0, 81) else (bif tail then ((IntKind.i64.wrap ((IntKind.i64.wrap ((IntKind.i64.wrap (2 * ((w from_.toNat) (c.members.D[(place0 c node).toNat]!.site).toNat))) + (IntKind.i64.wrap (2 * ((w (c.members.D[(place0 c node).toNat]!.site).toNat) masters.toNat))))) + (IntKind.i64.wrap (2 * ((w (c.members.D[(place0 c node).toNat]!.site).toNat) (c.members.D[(IntKind.i64.wrap ((c.members.D.length : Int) - 1)).toNat]!.site).toNat))))), 0) else ((IntKind.i64.wrap ((IntKind.i64.wrap (2 * ((w from_.toNat) (c.members.D[(place0 c node).toNat]!.site).toNat))) + (IntKind.i64.wrap (2 * ((w (c.members.D[(place0 c node).toNat]!.site).toNat) masters.toNat))))), 0)))))
theorem readW_calls (c : Chain) (w : (Nat → (Nat → Int))) (from_ : Int) (node : Int) (tail : Bool) (masters : Int) (hl1 : c.members.D.length ≤ 1000000) : PCalls Try.prog 12 [.agg [.pv (.lit (.int .i64 c.epoch)), sS (some c.members.nil) eMember c.members.D], .agg [.pv (.lit (.int .i64 ((w 0) 0))), .pv (.lit (.int .i64 ((w 0) 1))), .pv (.lit (.int .i64 ((w 0) 2))), .pv (.lit (.int .i64 ((w 1) 0))), .pv (.lit (.int .i64 ((w 1) 1))), .pv (.lit (.int .i64 ((w 1) 2))), .pv (.lit (.int .i64 ((w 2) 0))), .pv (.lit (.int .i64 ((w 2) 1))), .pv (.lit (.int .i64 ((w 2) 2)))], .pv (.lit (.int .i64 from_)), .pv (.lit (.int .i64 node)), .pv (.lit (.bool tail)), .pv (.lit (.int .i64 masters))] (.tup [.pv (.lit (.int .i64 ((readW c w from_ node tail masters).1))), .pv (.lit (.int .i64 ((readW c w from_ node tail masters).2)))]) := by
 generalize hR : readW c w from_ node tail masters = R
 refine PCalls.of_body tabOk Try.func12 rfl rfl rfl rfl rfl mixed fun E hP C hI => ?_
 refine Awp.consP C ?_
 refine rvc_un (rexec_prim C (δ := { v := .ptr 6 0, new := [(6, .cells [.pv (.lit (.int .i64 c.epoch)), sS (some c.members.nil) eMember c.members.D])] }) rfl rfl rfl rfl trivial rfl ?_)
 refine rvc_un (rexec_prim C (δ := { v := .ptr 7 0, new := [(7, .cells [.pv (.lit (.int .i64 ((w 0) 0))), .pv (.lit (.int .i64 ((w 0) 1))), .pv (.lit (.int .i64 ((w 0) 2))), .pv (.lit (.int .i64 ((w 1) 0))), .pv (.lit (.int .i64 ((w 1) 1))), .pv (.lit (.int .i64 ((w 1) 2))), .pv (.lit (.int .i64 ((w 2) 0))), .pv (.lit (.int .i64 ((w 2) 1))), .pv (.lit (.int .i64 ((w 2) 2)))])] }) rfl rfl rfl rfl trivial rfl ?_)
 refine rvP C (.pv (.lit (.int .i64 0))) ?_
 refine rvP C (.pv (.lit (.int .i64 0))) ?_
 refine rvc_nil ?_
 refine Awp.seq ?_
 refine Awp.consP C ?_
 refine rvP C (.agg [.pv (.lit (.int .i64 c.epoch)), sS (some c.members.nil) eMember c.members.D]) ?_
 refine rvP C (.agg [.pv (.lit (.int .i64 ((w 0) 0))), .pv (.lit (.int .i64 ((w 0) 1))), .pv (.lit (.int .i64 ((w 0) 2))), .pv (.lit (.int .i64 ((w 1) 0))), .pv (.lit (.int .i64 ((w 1) 1))), .pv (.lit (.int .i64 ((w 1) 2))), .pv (.lit (.int .i64 ((w 2) 0))), .pv (.lit (.int .i64 ((w 2) 1))), .pv (.lit (.int .i64 ((w 2) 2)))]) ?_
 refine rvP C (.pv (.lit (.int .i64 from_))) ?_
 refine rvc_un (rexec_call hP C rfl rfl rfl (able_calls c w from_ hl1) ?_)
 refine rvP C (.pv (.lit (.int .i64 (able c w from_)))) ?_
 refine rvc_nil ?_
 refine Awp.consP C ?_
 refine rvP C (.pv (.lit (.int .i64 (able c w from_)))) ?_
 refine rvP C (.pv (.lit (.bool ((able c w from_) != 0)))) ?_
 refine rvc_nil ?_
 refine Awp.cond (b := ((able c w from_) != 0)) rfl (fun h1 => ?_) (fun h1 => ?_)
 ·
  replace hR := of_true h1 hR
  refine Awp.consP C ?_
  refine rvP C (.pv (.lit (.int .i64 (able c w from_)))) ?_
  refine rvP C (.pv (.lit (.int .i64 0))) ?_
  refine rvP C (.pv (.lit (.int .i64 (able c w from_)))) ?_
  refine rvc_nil ?_
  refine Awp.ret ?_
  subst hR
  exact ⟨.inl rfl, rfl⟩
 ·
  replace hR := of_false h1 hR
  refine Awp.skip ?_
  refine Awp.consP C ?_
  refine rvP C (.agg [.pv (.lit (.int .i64 c.epoch)), sS (some c.members.nil) eMember c.members.D]) ?_
  refine rvP C (.pv (.lit (.int .i64 node))) ?_
  refine rvc_un (rexec_call hP C rfl rfl rfl (place0_calls c node (Nat.le_trans hl1 (by decide))) ?_)
  refine rvP C (.pv (.lit (.int .i64 (place0 c node)))) ?_
  refine rvc_nil ?_
  refine Awp.seq ?_
  refine Awp.consP C ?_
  refine rvP C (.pv (.lit (.int .i64 (place0 c node)))) ?_
  refine rvP C (.pv (.lit (.bool (decide ((place0 c node) < 0))))) ?_
  refine rvP C (.pv (.lit (.bool (decide ((place0 c node) < 0))))) ?_
  refine rvc_case 30 (decide ((place0 c node) < 0)) rfl (fun h2 => ?_) (fun h2 => ?_)
  ·
   replace hR := of_true h2 hR
   refine rvS ?_
   refine rvS ?_
   refine rvS ?_
   refine rvP C (.pv (.lit (.bool true))) ?_
   refine rvc_nil ?_
   refine Awp.condT (b := true) rfl rfl ?_
   refine Awp.consP C ?_
   refine rvP C (.pv (.lit (.int .i64 0))) ?_
   refine rvP C (.pv (.lit (.int .i64 81))) ?_
   refine rvc_nil ?_
   refine Awp.ret ?_
   subst hR
   exact ⟨.inl rfl, rfl⟩
  ·
   replace hR := of_false h2 hR
   refine rvO C (.pv (.lit (.int .i64 masters))) ?_
   refine rvc_open rfl rfl rfl (rexec_call hP C rfl rfl rfl (siteOk_calls masters) ?_)
   refine rvO C (.pv (.lit (.bool (!(siteOk masters))))) ?_
   refine rvP C (.pv (.lit (.bool (!(siteOk masters))))) ?_
   refine rvc_nil ?_
   refine Awp.cond (b := (!(siteOk masters))) rfl (fun h3 => ?_) (fun h3 => ?_)
   ·
    replace hR := of_true h3 hR
    refine Awp.consP C ?_
    refine rvP C (.pv (.lit (.int .i64 0))) ?_
    refine rvP C (.pv (.lit (.int .i64 81))) ?_
    refine rvc_nil ?_
    refine Awp.ret ?_
    subst hR
    exact ⟨.inl rfl, rfl⟩
   ·
    replace hR := of_false h3 hR
    refine Awp.skip ?_
    refine Awp.consP C ?_
    refine rvP C (.ptr 6 1) ?_
    refine rvP C (sS (some c.members.nil) eMember c.members.D) ?_
    refine rvP C (.pv (.lit (.int .i64 (place0 c node)))) ?_
    have h4 : c.members.D[(place0 c node).toNat]? = some c.members.D[(place0 c node).toNat]! := getE (by have hAB_ := (able_ok (eq_of_bne_false h1)); have hp_ := place0_lt c node; have hl_ := check_len hAB_.1; have h6_ := check_le6 hAB_.1; have hq_ := of_decide_eq_false ‹decide (place0 c node < 0) = false›; have hw_ := wrapI ((c.members.D.length : Int) - 1); have hs1_ := sites_ok hAB_.1 _ (at_mem (D := c.members.D) (n := (place0 c node).toNat) (by omega)); have hs2_ := sites_ok hAB_.1 _ (at_mem (D := c.members.D) (n := (IntKind.i64.wrap ((c.members.D.length : Int) - 1)).toNat) (by omega)); have hm_ := site_ok (n := masters) (by simpa using ‹(!siteOk masters) = false›); omega)
    refine rvc_un (rexec_idxS C rfl rfl rfl rfl rfl rfl (c.members.D[(place0 c node).toNat]!) (by have hAB_ := (able_ok (eq_of_bne_false h1)); have hp_ := place0_lt c node; have hl_ := check_len hAB_.1; have h6_ := check_le6 hAB_.1; have hq_ := of_decide_eq_false ‹decide (place0 c node < 0) = false›; have hw_ := wrapI ((c.members.D.length : Int) - 1); have hs1_ := sites_ok hAB_.1 _ (at_mem (D := c.members.D) (n := (place0 c node).toNat) (by omega)); have hs2_ := sites_ok hAB_.1 _ (at_mem (D := c.members.D) (n := (IntKind.i64.wrap ((c.members.D.length : Int) - 1)).toNat) (by omega)); have hm_ := site_ok (n := masters) (by simpa using ‹(!siteOk masters) = false›); omega) h4 ?_)
    refine rvP C (.rp [.lit (.int .i64 (c.members.D[(place0 c node).toNat]!.site))]) ?_
    refine rvP C (.pv (.lit (.int .i64 (c.members.D[(place0 c node).toNat]!.site)))) ?_
    refine rvP C (.pv (.lit (.int .i64 (c.members.D[(place0 c node).toNat]!.site)))) ?_
    refine rvc_nil ?_
    refine Awp.consP C ?_
    refine rvP C (.pv (.lit (.int .i64 from_))) ?_
    refine rvP C (.pv (.lit (.int .i64 (c.members.D[(place0 c node).toNat]!.site)))) ?_
    refine rvc_un (rexec_prim C (δ := { v := .ptr 7 (0 + from_.toNat * 3) }) rfl rfl rfl rfl ⟨(by have hAB_ := (able_ok (eq_of_bne_false h1)); have hp_ := place0_lt c node; have hl_ := check_len hAB_.1; have h6_ := check_le6 hAB_.1; have hq_ := of_decide_eq_false ‹decide (place0 c node < 0) = false›; have hw_ := wrapI ((c.members.D.length : Int) - 1); have hs1_ := sites_ok hAB_.1 _ (at_mem (D := c.members.D) (n := (place0 c node).toNat) (by omega)); have hs2_ := sites_ok hAB_.1 _ (at_mem (D := c.members.D) (n := (IntKind.i64.wrap ((c.members.D.length : Int) - 1)).toNat) (by omega)); have hm_ := site_ok (n := masters) (by simpa using ‹(!siteOk masters) = false›); omega), (by have hAB_ := (able_ok (eq_of_bne_false h1)); have hp_ := place0_lt c node; have hl_ := check_len hAB_.1; have h6_ := check_le6 hAB_.1; have hq_ := of_decide_eq_false ‹decide (place0 c node < 0) = false›; have hw_ := wrapI ((c.members.D.length : Int) - 1); have hs1_ := sites_ok hAB_.1 _ (at_mem (D := c.members.D) (n := (place0 c node).toNat) (by omega)); have hs2_ := sites_ok hAB_.1 _ (at_mem (D := c.members.D) (n := (IntKind.i64.wrap ((c.members.D.length : Int) - 1)).toNat) (by omega)); have hm_ := site_ok (n := masters) (by simpa using ‹(!siteOk masters) = false›); omega)⟩ rfl ?_)
    refine rvc_un (rexec_prim C (δ := { v := .ptr 7 (0 + from_.toNat * 3 + (c.members.D[(place0 c node).toNat]!.site).toNat * 1) }) rfl rfl rfl rfl ⟨(by have hAB_ := (able_ok (eq_of_bne_false h1)); have hp_ := place0_lt c node; have hl_ := check_len hAB_.1; have h6_ := check_le6 hAB_.1; have hq_ := of_decide_eq_false ‹decide (place0 c node < 0) = false›; have hw_ := wrapI ((c.members.D.length : Int) - 1); have hs1_ := sites_ok hAB_.1 _ (at_mem (D := c.members.D) (n := (place0 c node).toNat) (by omega)); have hs2_ := sites_ok hAB_.1 _ (at_mem (D := c.members.D) (n := (IntKind.i64.wrap ((c.members.D.length : Int) - 1)).toNat) (by omega)); have hm_ := site_ok (n := masters) (by simpa using ‹(!siteOk masters) = false›); omega), (by have hAB_ := (able_ok (eq_of_bne_false h1)); have hp_ := place0_lt c node; have hl_ := check_len hAB_.1; have h6_ := check_le6 hAB_.1; have hq_ := of_decide_eq_false ‹decide (place0 c node < 0) = false›; have hw_ := wrapI ((c.members.D.length : Int) - 1); have hs1_ := sites_ok hAB_.1 _ (at_mem (D := c.members.D) (n := (place0 c node).toNat) (by omega)); have hs2_ := sites_ok hAB_.1 _ (at_mem (D := c.members.D) (n := (IntKind.i64.wrap ((c.members.D.length : Int) - 1)).toNat) (by omega)); have hm_ := site_ok (n := masters) (by simpa using ‹(!siteOk masters) = false›); omega)⟩ rfl ?_)
    refine rvc_un (rexec_load33 C (fun p q => .pv (.lit (.int .i64 ((w p) q)))) from_.toNat (c.members.D[(place0 c node).toNat]!.site).toNat (.pv (.lit (.int .i64 ((w from_.toNat) (c.members.D[(place0 c node).toNat]!.site).toNat)))) rfl rfl rfl rfl rfl rfl rfl (by have hAB_ := (able_ok (eq_of_bne_false h1)); have hp_ := place0_lt c node; have hl_ := check_len hAB_.1; have h6_ := check_le6 hAB_.1; have hq_ := of_decide_eq_false ‹decide (place0 c node < 0) = false›; have hw_ := wrapI ((c.members.D.length : Int) - 1); have hs1_ := sites_ok hAB_.1 _ (at_mem (D := c.members.D) (n := (place0 c node).toNat) (by omega)); have hs2_ := sites_ok hAB_.1 _ (at_mem (D := c.members.D) (n := (IntKind.i64.wrap ((c.members.D.length : Int) - 1)).toNat) (by omega)); have hm_ := site_ok (n := masters) (by simpa using ‹(!siteOk masters) = false›); omega) (by have hAB_ := (able_ok (eq_of_bne_false h1)); have hp_ := place0_lt c node; have hl_ := check_len hAB_.1; have h6_ := check_le6 hAB_.1; have hq_ := of_decide_eq_false ‹decide (place0 c node < 0) = false›; have hw_ := wrapI ((c.members.D.length : Int) - 1); have hs1_ := sites_ok hAB_.1 _ (at_mem (D := c.members.D) (n := (place0 c node).toNat) (by omega)); have hs2_ := sites_ok hAB_.1 _ (at_mem (D := c.members.D) (n := (IntKind.i64.wrap ((c.members.D.length : Int) - 1)).toNat) (by omega)); have hm_ := site_ok (n := masters) (by simpa using ‹(!siteOk masters) = false›); omega) rfl ?_)
    refine rvP C (.pv (.lit (.int .i64 (IntKind.i64.wrap (2 * ((w from_.toNat) (c.members.D[(place0 c node).toNat]!.site).toNat)))))) ?_
    refine rvP C (.pv (.lit (.int .i64 (c.members.D[(place0 c node).toNat]!.site)))) ?_
    refine rvP C (.pv (.lit (.int .i64 masters))) ?_
    refine rvc_un (rexec_prim C (δ := { v := .ptr 7 (0 + (c.members.D[(place0 c node).toNat]!.site).toNat * 3) }) rfl rfl rfl rfl ⟨(by have hAB_ := (able_ok (eq_of_bne_false h1)); have hp_ := place0_lt c node; have hl_ := check_len hAB_.1; have h6_ := check_le6 hAB_.1; have hq_ := of_decide_eq_false ‹decide (place0 c node < 0) = false›; have hw_ := wrapI ((c.members.D.length : Int) - 1); have hs1_ := sites_ok hAB_.1 _ (at_mem (D := c.members.D) (n := (place0 c node).toNat) (by omega)); have hs2_ := sites_ok hAB_.1 _ (at_mem (D := c.members.D) (n := (IntKind.i64.wrap ((c.members.D.length : Int) - 1)).toNat) (by omega)); have hm_ := site_ok (n := masters) (by simpa using ‹(!siteOk masters) = false›); omega), (by have hAB_ := (able_ok (eq_of_bne_false h1)); have hp_ := place0_lt c node; have hl_ := check_len hAB_.1; have h6_ := check_le6 hAB_.1; have hq_ := of_decide_eq_false ‹decide (place0 c node < 0) = false›; have hw_ := wrapI ((c.members.D.length : Int) - 1); have hs1_ := sites_ok hAB_.1 _ (at_mem (D := c.members.D) (n := (place0 c node).toNat) (by omega)); have hs2_ := sites_ok hAB_.1 _ (at_mem (D := c.members.D) (n := (IntKind.i64.wrap ((c.members.D.length : Int) - 1)).toNat) (by omega)); have hm_ := site_ok (n := masters) (by simpa using ‹(!siteOk masters) = false›); omega)⟩ rfl ?_)
    refine rvc_un (rexec_prim C (δ := { v := .ptr 7 (0 + (c.members.D[(place0 c node).toNat]!.site).toNat * 3 + masters.toNat * 1) }) rfl rfl rfl rfl ⟨(by have hAB_ := (able_ok (eq_of_bne_false h1)); have hp_ := place0_lt c node; have hl_ := check_len hAB_.1; have h6_ := check_le6 hAB_.1; have hq_ := of_decide_eq_false ‹decide (place0 c node < 0) = false›; have hw_ := wrapI ((c.members.D.length : Int) - 1); have hs1_ := sites_ok hAB_.1 _ (at_mem (D := c.members.D) (n := (place0 c node).toNat) (by omega)); have hs2_ := sites_ok hAB_.1 _ (at_mem (D := c.members.D) (n := (IntKind.i64.wrap ((c.members.D.length : Int) - 1)).toNat) (by omega)); have hm_ := site_ok (n := masters) (by simpa using ‹(!siteOk masters) = false›); omega), (by have hAB_ := (able_ok (eq_of_bne_false h1)); have hp_ := place0_lt c node; have hl_ := check_len hAB_.1; have h6_ := check_le6 hAB_.1; have hq_ := of_decide_eq_false ‹decide (place0 c node < 0) = false›; have hw_ := wrapI ((c.members.D.length : Int) - 1); have hs1_ := sites_ok hAB_.1 _ (at_mem (D := c.members.D) (n := (place0 c node).toNat) (by omega)); have hs2_ := sites_ok hAB_.1 _ (at_mem (D := c.members.D) (n := (IntKind.i64.wrap ((c.members.D.length : Int) - 1)).toNat) (by omega)); have hm_ := site_ok (n := masters) (by simpa using ‹(!siteOk masters) = false›); omega)⟩ rfl ?_)
    refine rvc_un (rexec_load33 C (fun p q => .pv (.lit (.int .i64 ((w p) q)))) (c.members.D[(place0 c node).toNat]!.site).toNat masters.toNat (.pv (.lit (.int .i64 ((w (c.members.D[(place0 c node).toNat]!.site).toNat) masters.toNat)))) rfl rfl rfl rfl rfl rfl rfl (by have hAB_ := (able_ok (eq_of_bne_false h1)); have hp_ := place0_lt c node; have hl_ := check_len hAB_.1; have h6_ := check_le6 hAB_.1; have hq_ := of_decide_eq_false ‹decide (place0 c node < 0) = false›; have hw_ := wrapI ((c.members.D.length : Int) - 1); have hs1_ := sites_ok hAB_.1 _ (at_mem (D := c.members.D) (n := (place0 c node).toNat) (by omega)); have hs2_ := sites_ok hAB_.1 _ (at_mem (D := c.members.D) (n := (IntKind.i64.wrap ((c.members.D.length : Int) - 1)).toNat) (by omega)); have hm_ := site_ok (n := masters) (by simpa using ‹(!siteOk masters) = false›); omega) (by have hAB_ := (able_ok (eq_of_bne_false h1)); have hp_ := place0_lt c node; have hl_ := check_len hAB_.1; have h6_ := check_le6 hAB_.1; have hq_ := of_decide_eq_false ‹decide (place0 c node < 0) = false›; have hw_ := wrapI ((c.members.D.length : Int) - 1); have hs1_ := sites_ok hAB_.1 _ (at_mem (D := c.members.D) (n := (place0 c node).toNat) (by omega)); have hs2_ := sites_ok hAB_.1 _ (at_mem (D := c.members.D) (n := (IntKind.i64.wrap ((c.members.D.length : Int) - 1)).toNat) (by omega)); have hm_ := site_ok (n := masters) (by simpa using ‹(!siteOk masters) = false›); omega) rfl ?_)
    refine rvP C (.pv (.lit (.int .i64 (IntKind.i64.wrap (2 * ((w (c.members.D[(place0 c node).toNat]!.site).toNat) masters.toNat)))))) ?_
    refine rvP C (.pv (.lit (.int .i64 (IntKind.i64.wrap ((IntKind.i64.wrap (2 * ((w from_.toNat) (c.members.D[(place0 c node).toNat]!.site).toNat))) + (IntKind.i64.wrap (2 * ((w (c.members.D[(place0 c node).toNat]!.site).toNat) masters.toNat)))))))) ?_
    refine rvP C (.pv (.lit (.int .i64 (IntKind.i64.wrap ((IntKind.i64.wrap (2 * ((w from_.toNat) (c.members.D[(place0 c node).toNat]!.site).toNat))) + (IntKind.i64.wrap (2 * ((w (c.members.D[(place0 c node).toNat]!.site).toNat) masters.toNat)))))))) ?_
    refine rvc_nil ?_
    refine Awp.seq ?_
    refine Awp.consP C ?_
    refine rvP C (.pv (.lit (.bool tail))) ?_
    refine rvc_nil ?_
    refine Awp.cond (b := tail) rfl (fun h5 => ?_) (fun h5 => ?_)
    ·
     replace hR := of_true h5 hR
     refine Awp.regionP C ?_
     refine rvP C (.pv (.lit (.int .i64 (IntKind.i64.wrap ((IntKind.i64.wrap (2 * ((w from_.toNat) (c.members.D[(place0 c node).toNat]!.site).toNat))) + (IntKind.i64.wrap (2 * ((w (c.members.D[(place0 c node).toNat]!.site).toNat) masters.toNat)))))))) ?_
     refine rvP C (.pv (.lit (.int .i64 (c.members.D[(place0 c node).toNat]!.site)))) ?_
     refine rvP C (.ptr 6 1) ?_
     refine rvP C (sS (some c.members.nil) eMember c.members.D) ?_
     refine rvP C (.ptr 6 1) ?_
     refine rvP C (sS (some c.members.nil) eMember c.members.D) ?_
     refine rvP C (.pv (.lit (.int .i64 (c.members.D.length : Int)))) ?_
     refine rvP C (.pv (.lit (.int .i64 (IntKind.i64.wrap ((c.members.D.length : Int) - 1))))) ?_
     have h6 : c.members.D[(IntKind.i64.wrap ((c.members.D.length : Int) - 1)).toNat]? = some c.members.D[(IntKind.i64.wrap ((c.members.D.length : Int) - 1)).toNat]! := getE (by have hAB_ := (able_ok (eq_of_bne_false h1)); have hp_ := place0_lt c node; have hl_ := check_len hAB_.1; have h6_ := check_le6 hAB_.1; have hq_ := of_decide_eq_false ‹decide (place0 c node < 0) = false›; have hw_ := wrapI ((c.members.D.length : Int) - 1); have hs1_ := sites_ok hAB_.1 _ (at_mem (D := c.members.D) (n := (place0 c node).toNat) (by omega)); have hs2_ := sites_ok hAB_.1 _ (at_mem (D := c.members.D) (n := (IntKind.i64.wrap ((c.members.D.length : Int) - 1)).toNat) (by omega)); have hm_ := site_ok (n := masters) (by simpa using ‹(!siteOk masters) = false›); omega)
     refine rvc_un (rexec_idxS C rfl rfl rfl rfl rfl rfl (c.members.D[(IntKind.i64.wrap ((c.members.D.length : Int) - 1)).toNat]!) (by have hAB_ := (able_ok (eq_of_bne_false h1)); have hp_ := place0_lt c node; have hl_ := check_len hAB_.1; have h6_ := check_le6 hAB_.1; have hq_ := of_decide_eq_false ‹decide (place0 c node < 0) = false›; have hw_ := wrapI ((c.members.D.length : Int) - 1); have hs1_ := sites_ok hAB_.1 _ (at_mem (D := c.members.D) (n := (place0 c node).toNat) (by omega)); have hs2_ := sites_ok hAB_.1 _ (at_mem (D := c.members.D) (n := (IntKind.i64.wrap ((c.members.D.length : Int) - 1)).toNat) (by omega)); have hm_ := site_ok (n := masters) (by simpa using ‹(!siteOk masters) = false›); omega) h6 ?_)
     refine rvP C (.rp [.lit (.int .i64 (c.members.D[(IntKind.i64.wrap ((c.members.D.length : Int) - 1)).toNat]!.site))]) ?_
     refine rvP C (.pv (.lit (.int .i64 (c.members.D[(IntKind.i64.wrap ((c.members.D.length : Int) - 1)).toNat]!.site)))) ?_
     refine rvc_un (rexec_prim C (δ := { v := .ptr 7 (0 + (c.members.D[(place0 c node).toNat]!.site).toNat * 3) }) rfl rfl rfl rfl ⟨(by have hAB_ := (able_ok (eq_of_bne_false h1)); have hp_ := place0_lt c node; have hl_ := check_len hAB_.1; have h6_ := check_le6 hAB_.1; have hq_ := of_decide_eq_false ‹decide (place0 c node < 0) = false›; have hw_ := wrapI ((c.members.D.length : Int) - 1); have hs1_ := sites_ok hAB_.1 _ (at_mem (D := c.members.D) (n := (place0 c node).toNat) (by omega)); have hs2_ := sites_ok hAB_.1 _ (at_mem (D := c.members.D) (n := (IntKind.i64.wrap ((c.members.D.length : Int) - 1)).toNat) (by omega)); have hm_ := site_ok (n := masters) (by simpa using ‹(!siteOk masters) = false›); omega), (by have hAB_ := (able_ok (eq_of_bne_false h1)); have hp_ := place0_lt c node; have hl_ := check_len hAB_.1; have h6_ := check_le6 hAB_.1; have hq_ := of_decide_eq_false ‹decide (place0 c node < 0) = false›; have hw_ := wrapI ((c.members.D.length : Int) - 1); have hs1_ := sites_ok hAB_.1 _ (at_mem (D := c.members.D) (n := (place0 c node).toNat) (by omega)); have hs2_ := sites_ok hAB_.1 _ (at_mem (D := c.members.D) (n := (IntKind.i64.wrap ((c.members.D.length : Int) - 1)).toNat) (by omega)); have hm_ := site_ok (n := masters) (by simpa using ‹(!siteOk masters) = false›); omega)⟩ rfl ?_)
     refine rvc_un (rexec_prim C (δ := { v := .ptr 7 (0 + (c.members.D[(place0 c node).toNat]!.site).toNat * 3 + (c.members.D[(IntKind.i64.wrap ((c.members.D.length : Int) - 1)).toNat]!.site).toNat * 1) }) rfl rfl rfl rfl ⟨(by have hAB_ := (able_ok (eq_of_bne_false h1)); have hp_ := place0_lt c node; have hl_ := check_len hAB_.1; have h6_ := check_le6 hAB_.1; have hq_ := of_decide_eq_false ‹decide (place0 c node < 0) = false›; have hw_ := wrapI ((c.members.D.length : Int) - 1); have hs1_ := sites_ok hAB_.1 _ (at_mem (D := c.members.D) (n := (place0 c node).toNat) (by omega)); have hs2_ := sites_ok hAB_.1 _ (at_mem (D := c.members.D) (n := (IntKind.i64.wrap ((c.members.D.length : Int) - 1)).toNat) (by omega)); have hm_ := site_ok (n := masters) (by simpa using ‹(!siteOk masters) = false›); omega), (by have hAB_ := (able_ok (eq_of_bne_false h1)); have hp_ := place0_lt c node; have hl_ := check_len hAB_.1; have h6_ := check_le6 hAB_.1; have hq_ := of_decide_eq_false ‹decide (place0 c node < 0) = false›; have hw_ := wrapI ((c.members.D.length : Int) - 1); have hs1_ := sites_ok hAB_.1 _ (at_mem (D := c.members.D) (n := (place0 c node).toNat) (by omega)); have hs2_ := sites_ok hAB_.1 _ (at_mem (D := c.members.D) (n := (IntKind.i64.wrap ((c.members.D.length : Int) - 1)).toNat) (by omega)); have hm_ := site_ok (n := masters) (by simpa using ‹(!siteOk masters) = false›); omega)⟩ rfl ?_)
     refine rvc_un (rexec_load33 C (fun p q => .pv (.lit (.int .i64 ((w p) q)))) (c.members.D[(place0 c node).toNat]!.site).toNat (c.members.D[(IntKind.i64.wrap ((c.members.D.length : Int) - 1)).toNat]!.site).toNat (.pv (.lit (.int .i64 ((w (c.members.D[(place0 c node).toNat]!.site).toNat) (c.members.D[(IntKind.i64.wrap ((c.members.D.length : Int) - 1)).toNat]!.site).toNat)))) rfl rfl rfl rfl rfl rfl rfl (by have hAB_ := (able_ok (eq_of_bne_false h1)); have hp_ := place0_lt c node; have hl_ := check_len hAB_.1; have h6_ := check_le6 hAB_.1; have hq_ := of_decide_eq_false ‹decide (place0 c node < 0) = false›; have hw_ := wrapI ((c.members.D.length : Int) - 1); have hs1_ := sites_ok hAB_.1 _ (at_mem (D := c.members.D) (n := (place0 c node).toNat) (by omega)); have hs2_ := sites_ok hAB_.1 _ (at_mem (D := c.members.D) (n := (IntKind.i64.wrap ((c.members.D.length : Int) - 1)).toNat) (by omega)); have hm_ := site_ok (n := masters) (by simpa using ‹(!siteOk masters) = false›); omega) (by have hAB_ := (able_ok (eq_of_bne_false h1)); have hp_ := place0_lt c node; have hl_ := check_len hAB_.1; have h6_ := check_le6 hAB_.1; have hq_ := of_decide_eq_false ‹decide (place0 c node < 0) = false›; have hw_ := wrapI ((c.members.D.length : Int) - 1); have hs1_ := sites_ok hAB_.1 _ (at_mem (D := c.members.D) (n := (place0 c node).toNat) (by omega)); have hs2_ := sites_ok hAB_.1 _ (at_mem (D := c.members.D) (n := (IntKind.i64.wrap ((c.members.D.length : Int) - 1)).toNat) (by omega)); have hm_ := site_ok (n := masters) (by simpa using ‹(!siteOk masters) = false›); omega) rfl ?_)
     refine rvP C (.pv (.lit (.int .i64 (IntKind.i64.wrap (2 * ((w (c.members.D[(place0 c node).toNat]!.site).toNat) (c.members.D[(IntKind.i64.wrap ((c.members.D.length : Int) - 1)).toNat]!.site).toNat)))))) ?_
     refine rvP C (.pv (.lit (.int .i64 (IntKind.i64.wrap ((IntKind.i64.wrap ((IntKind.i64.wrap (2 * ((w from_.toNat) (c.members.D[(place0 c node).toNat]!.site).toNat))) + (IntKind.i64.wrap (2 * ((w (c.members.D[(place0 c node).toNat]!.site).toNat) masters.toNat))))) + (IntKind.i64.wrap (2 * ((w (c.members.D[(place0 c node).toNat]!.site).toNat) (c.members.D[(IntKind.i64.wrap ((c.members.D.length : Int) - 1)).toNat]!.site).toNat)))))))) ?_
     refine rvP C (.pv (.lit (.int .i64 (IntKind.i64.wrap ((IntKind.i64.wrap ((IntKind.i64.wrap (2 * ((w from_.toNat) (c.members.D[(place0 c node).toNat]!.site).toNat))) + (IntKind.i64.wrap (2 * ((w (c.members.D[(place0 c node).toNat]!.site).toNat) masters.toNat))))) + (IntKind.i64.wrap (2 * ((w (c.members.D[(place0 c node).toNat]!.site).toNat) (c.members.D[(IntKind.i64.wrap ((c.members.D.length : Int) - 1)).toNat]!.site).toNat)))))))) ?_
     refine rvc_nil ?_
     refine Awp.consP C ?_
     refine rvP C (.pv (.lit (.int .i64 (IntKind.i64.wrap ((IntKind.i64.wrap ((IntKind.i64.wrap (2 * ((w from_.toNat) (c.members.D[(place0 c node).toNat]!.site).toNat))) + (IntKind.i64.wrap (2 * ((w (c.members.D[(place0 c node).toNat]!.site).toNat) masters.toNat))))) + (IntKind.i64.wrap (2 * ((w (c.members.D[(place0 c node).toNat]!.site).toNat) (c.members.D[(IntKind.i64.wrap ((c.members.D.length : Int) - 1)).toNat]!.site).toNat)))))))) ?_
     refine rvP C (.pv (.lit (.int .i64 (IntKind.i64.wrap ((IntKind.i64.wrap ((IntKind.i64.wrap (2 * ((w from_.toNat) (c.members.D[(place0 c node).toNat]!.site).toNat))) + (IntKind.i64.wrap (2 * ((w (c.members.D[(place0 c node).toNat]!.site).toNat) masters.toNat))))) + (IntKind.i64.wrap (2 * ((w (c.members.D[(place0 c node).toNat]!.site).toNat) (c.members.D[(IntKind.i64.wrap ((c.members.D.length : Int) - 1)).toNat]!.site).toNat)))))))) ?_
     refine rvP C (.pv (.lit (.int .i64 0))) ?_
     refine rvc_nil ?_
     refine Awp.ret ?_
     subst hR
     exact ⟨.inl rfl, rfl⟩
    ·
     replace hR := of_false h5 hR
     refine Awp.skip ?_
     refine Awp.consP C ?_
     refine rvP C (.pv (.lit (.int .i64 (IntKind.i64.wrap ((IntKind.i64.wrap (2 * ((w from_.toNat) (c.members.D[(place0 c node).toNat]!.site).toNat))) + (IntKind.i64.wrap (2 * ((w (c.members.D[(place0 c node).toNat]!.site).toNat) masters.toNat)))))))) ?_
     refine rvP C (.pv (.lit (.int .i64 (IntKind.i64.wrap ((IntKind.i64.wrap (2 * ((w from_.toNat) (c.members.D[(place0 c node).toNat]!.site).toNat))) + (IntKind.i64.wrap (2 * ((w (c.members.D[(place0 c node).toNat]!.site).toNat) masters.toNat)))))))) ?_
     refine rvP C (.pv (.lit (.int .i64 0))) ?_
     refine rvc_nil ?_
     refine Awp.ret ?_
     subst hR
     exact ⟨.inl rfl, rfl⟩
def direct_l2 (i : Nat) (i1 : Nat) (kk : (Nat → (Nat → Int)) → ((Nat → (Nat → Int)) × Int)) : Nat → Nat → (Nat → (Nat → Int)) → (Nat → (Nat → Int)) × Int
  | 0, _, vc2 => kk vc2
  | k2 + 1, i2, vc2 => direct_l2 i i1 kk k2 (i2 + 1) (upd33 vc2 i1 i2 (bif (decide ((IntKind.i64.wrap (((vc2 i1) i) + ((vc2 i) i2))) < ((vc2 i1) i2))) then (IntKind.i64.wrap (((vc2 i1) i) + ((vc2 i) i2))) else ((vc2 i1) i2)))
def direct_l1 (i : Nat) (kk : (Nat → (Nat → Int)) → ((Nat → (Nat → Int)) × Int)) : Nat → Nat → (Nat → (Nat → Int)) → (Nat → (Nat → Int)) × Int
  | 0, _, vc1 => kk vc1
  | k1 + 1, i1, vc1 => direct_l2 i i1 (fun vc2 => direct_l1 i kk k1 (i1 + 1) vc2) 3 0 vc1
def direct_l0 : Nat → Nat → (Nat → (Nat → Int)) → (Nat → (Nat → Int)) × Int
  | 0, _, vc => (vc, 0)
  | k + 1, i, vc => direct_l1 i (fun vc1 => direct_l0 k (i + 1) vc1) 3 0 vc
def direct (w : (Nat → (Nat → Int))) : (Nat → (Nat → Int)) × Int :=
  (bif ((wayCheck w) != 0) then ((ofL [(ofL [0, 0, 0]), (ofL [0, 0, 0]), (ofL [0, 0, 0])]), (wayCheck w)) else direct_l0 3 0 w)
theorem direct_calls (w : (Nat → (Nat → Int)))  : PCalls Try.prog 26 [.agg [.pv (.lit (.int .i64 ((w 0) 0))), .pv (.lit (.int .i64 ((w 0) 1))), .pv (.lit (.int .i64 ((w 0) 2))), .pv (.lit (.int .i64 ((w 1) 0))), .pv (.lit (.int .i64 ((w 1) 1))), .pv (.lit (.int .i64 ((w 1) 2))), .pv (.lit (.int .i64 ((w 2) 0))), .pv (.lit (.int .i64 ((w 2) 1))), .pv (.lit (.int .i64 ((w 2) 2)))]] (.tup [.agg [.pv (.lit (.int .i64 (((direct w).1 0) 0))), .pv (.lit (.int .i64 (((direct w).1 0) 1))), .pv (.lit (.int .i64 (((direct w).1 0) 2))), .pv (.lit (.int .i64 (((direct w).1 1) 0))), .pv (.lit (.int .i64 (((direct w).1 1) 1))), .pv (.lit (.int .i64 (((direct w).1 1) 2))), .pv (.lit (.int .i64 (((direct w).1 2) 0))), .pv (.lit (.int .i64 (((direct w).1 2) 1))), .pv (.lit (.int .i64 (((direct w).1 2) 2)))], .pv (.lit (.int .i64 ((direct w).2)))]) := by
 generalize hR : direct w = R
 refine PCalls.of_body tabOk Try.func26 rfl rfl rfl rfl rfl mixed fun E hP C hI => ?_
 refine Awp.consP C ?_
 refine rvc_un (rexec_prim C (δ := { v := .ptr 1 0, new := [(1, .cells [.pv (.lit (.int .i64 ((w 0) 0))), .pv (.lit (.int .i64 ((w 0) 1))), .pv (.lit (.int .i64 ((w 0) 2))), .pv (.lit (.int .i64 ((w 1) 0))), .pv (.lit (.int .i64 ((w 1) 1))), .pv (.lit (.int .i64 ((w 1) 2))), .pv (.lit (.int .i64 ((w 2) 0))), .pv (.lit (.int .i64 ((w 2) 1))), .pv (.lit (.int .i64 ((w 2) 2)))])] }) rfl rfl rfl rfl trivial rfl ?_)
 refine rvc_un (rexec_prim C (δ := { v := .ptr 2 0, new := [(2, .cells [.pv (.lit (.int .i64 0)), .pv (.lit (.int .i64 0)), .pv (.lit (.int .i64 0)), .pv (.lit (.int .i64 0)), .pv (.lit (.int .i64 0)), .pv (.lit (.int .i64 0)), .pv (.lit (.int .i64 0)), .pv (.lit (.int .i64 0)), .pv (.lit (.int .i64 0))])] }) rfl rfl rfl rfl trivial rfl ?_)
 refine rvP C (.pv (.lit (.int .i64 0))) ?_
 refine rvc_nil ?_
 refine Awp.seq ?_
 refine Awp.consP C ?_
 refine rvP C (.agg [.pv (.lit (.int .i64 ((w 0) 0))), .pv (.lit (.int .i64 ((w 0) 1))), .pv (.lit (.int .i64 ((w 0) 2))), .pv (.lit (.int .i64 ((w 1) 0))), .pv (.lit (.int .i64 ((w 1) 1))), .pv (.lit (.int .i64 ((w 1) 2))), .pv (.lit (.int .i64 ((w 2) 0))), .pv (.lit (.int .i64 ((w 2) 1))), .pv (.lit (.int .i64 ((w 2) 2)))]) ?_
 refine rvc_un (rexec_call hP C rfl rfl rfl (wayCheck_calls w) ?_)
 refine rvP C (.pv (.lit (.int .i64 (wayCheck w)))) ?_
 refine rvc_nil ?_
 refine Awp.consP C ?_
 refine rvP C (.pv (.lit (.int .i64 (wayCheck w)))) ?_
 refine rvP C (.pv (.lit (.bool ((wayCheck w) != 0)))) ?_
 refine rvc_nil ?_
 refine Awp.cond (b := ((wayCheck w) != 0)) rfl (fun h1 => ?_) (fun h1 => ?_)
 ·
  replace hR := of_true h1 hR
  refine Awp.consP C ?_
  refine rvP C (.agg [.pv (.lit (.int .i64 0)), .pv (.lit (.int .i64 0)), .pv (.lit (.int .i64 0)), .pv (.lit (.int .i64 0)), .pv (.lit (.int .i64 0)), .pv (.lit (.int .i64 0)), .pv (.lit (.int .i64 0)), .pv (.lit (.int .i64 0)), .pv (.lit (.int .i64 0))]) ?_
  refine rvP C (.pv (.lit (.int .i64 (wayCheck w)))) ?_
  refine rvc_un (rexec_prim C (δ := { v := .undef, wr := [(2, some (.cells [.pv (.lit (.int .i64 0)), .pv (.lit (.int .i64 0)), .pv (.lit (.int .i64 0)), .pv (.lit (.int .i64 0)), .pv (.lit (.int .i64 0)), .pv (.lit (.int .i64 0)), .pv (.lit (.int .i64 0)), .pv (.lit (.int .i64 0)), .pv (.lit (.int .i64 0))]))] }) rfl rfl rfl rfl trivial rfl ?_)
  refine rvP C (.pv (.lit (.int .i64 (wayCheck w)))) ?_
  refine rvc_nil ?_
  refine Awp.ret ?_
  subst hR
  exact ⟨.inl rfl, rfl⟩
 ·
  replace hR := of_false h1 hR
  refine Awp.skip ?_
  refine Awp.seq ?_
  refine Awp.consP C ?_
  refine rvP C (.pv (.lit (.int .i64 0))) ?_
  refine rvc_nil ?_
  refine Awp.block ?_
  refine Awp.forR (σ := ((Nat → (Nat → Int)))) (3) (fun i v => [(1, .ptr 1 0), (2, .ptr 2 0), (14, .pv (.lit (.int .i64 (i : Int))))]) (fun i v => [(1, .cells [.pv (.lit (.int .i64 ((v 0) 0))), .pv (.lit (.int .i64 ((v 0) 1))), .pv (.lit (.int .i64 ((v 0) 2))), .pv (.lit (.int .i64 ((v 1) 0))), .pv (.lit (.int .i64 ((v 1) 1))), .pv (.lit (.int .i64 ((v 1) 2))), .pv (.lit (.int .i64 ((v 2) 0))), .pv (.lit (.int .i64 ((v 2) 1))), .pv (.lit (.int .i64 ((v 2) 2)))]), (2, .cells [.pv (.lit (.int .i64 0)), .pv (.lit (.int .i64 0)), .pv (.lit (.int .i64 0)), .pv (.lit (.int .i64 0)), .pv (.lit (.int .i64 0)), .pv (.lit (.int .i64 0)), .pv (.lit (.int .i64 0)), .pv (.lit (.int .i64 0)), .pv (.lit (.int .i64 0))])]) [1, 2] (fun i v => direct_l0 (3 - i) i v = R) w ?_ ?_ (fun i vc h2 hR => ?_)
  · exact hR
  · exact ⟨fun b => b, WeakerR.ofL (Ks := [1, 2]) hI ⟨⟨rfl, rfl⟩, ⟨rfl, rfl⟩, ⟨rfl, rfl⟩, trivial⟩ (okH_cons rfl rfl rfl rfl (okH_cons rfl rfl rfl rfl (okH_nil))) rfl⟩
  refine Awp.consP C ?_
  refine rvP C (.pv (.lit (.bool (decide ((i : Int) < 3))))) ?_
  refine rvc_nil ?_
  refine Awp.seq ?_
  refine Awp.cond (b := (decide ((i : Int) < 3))) rfl (fun h3 => ?_) (fun h3 => ?_)
  ·
   have h4 : i < 3 := by have := of_decide_eq_true h3; omega
   obtain ⟨k, h5⟩ : ∃ k, 3 - i = k + 1 := ⟨3 - i - 1, by omega⟩
   rw [h5] at hR
   refine Awp.skip ?_
   refine Awp.seq ?_
   refine Awp.block ?_
   refine Awp.consP C ?_
   refine rvP C (.pv (.lit (.int .i64 (i : Int)))) ?_
   refine rvP C (.pv (.lit (.int .i64 (i : Int)))) ?_
   refine rvc_nil ?_
   refine Awp.consP C ?_
   refine rvP C (.pv (.lit (.int .i64 0))) ?_
   refine rvc_nil ?_
   refine Awp.block ?_
   refine Awp.forR (σ := ((Nat → (Nat → Int)))) (3) (fun i1 v => [(1, .ptr 1 0), (2, .ptr 2 0), (5, .pv (.lit (.int .i64 (i : Int)))), (14, .pv (.lit (.int .i64 (i : Int)))), (17, .pv (.lit (.int .i64 (i1 : Int))))]) (fun i1 v => [(1, .cells [.pv (.lit (.int .i64 ((v 0) 0))), .pv (.lit (.int .i64 ((v 0) 1))), .pv (.lit (.int .i64 ((v 0) 2))), .pv (.lit (.int .i64 ((v 1) 0))), .pv (.lit (.int .i64 ((v 1) 1))), .pv (.lit (.int .i64 ((v 1) 2))), .pv (.lit (.int .i64 ((v 2) 0))), .pv (.lit (.int .i64 ((v 2) 1))), .pv (.lit (.int .i64 ((v 2) 2)))]), (2, .cells [.pv (.lit (.int .i64 0)), .pv (.lit (.int .i64 0)), .pv (.lit (.int .i64 0)), .pv (.lit (.int .i64 0)), .pv (.lit (.int .i64 0)), .pv (.lit (.int .i64 0)), .pv (.lit (.int .i64 0)), .pv (.lit (.int .i64 0)), .pv (.lit (.int .i64 0))])]) [1, 2] (fun i1 v => direct_l1 i (fun vc1 => direct_l0 k (i + 1) vc1) (3 - i1) i1 v = R) vc ?_ ?_ (fun i1 vc1 h6 hR => ?_)
   · exact hR
   · exact ⟨fun b => b, WeakerR.ofL (Ks := [1, 2]) hI ⟨⟨rfl, rfl⟩, ⟨rfl, rfl⟩, ⟨rfl, rfl⟩, ⟨rfl, rfl⟩, ⟨rfl, rfl⟩, trivial⟩ (okH_cons rfl rfl rfl rfl (okH_cons rfl rfl rfl rfl (okH_nil))) rfl⟩
   refine Awp.consP C ?_
   refine rvP C (.pv (.lit (.bool (decide ((i1 : Int) < 3))))) ?_
   refine rvc_nil ?_
   refine Awp.seq ?_
   refine Awp.cond (b := (decide ((i1 : Int) < 3))) rfl (fun h7 => ?_) (fun h7 => ?_)
   ·
    have h8 : i1 < 3 := by have := of_decide_eq_true h7; omega
    obtain ⟨k1, h9⟩ : ∃ k, 3 - i1 = k + 1 := ⟨3 - i1 - 1, by omega⟩
    rw [h9] at hR
    refine Awp.skip ?_
    refine Awp.seq ?_
    refine Awp.block ?_
    refine Awp.consP C ?_
    refine rvP C (.pv (.lit (.int .i64 (i1 : Int)))) ?_
    refine rvP C (.pv (.lit (.int .i64 (i1 : Int)))) ?_
    refine rvc_nil ?_
    refine Awp.consP C ?_
    refine rvP C (.pv (.lit (.int .i64 0))) ?_
    refine rvc_nil ?_
    refine Awp.block ?_
    refine Awp.forR (σ := ((Nat → (Nat → Int)))) (3) (fun i2 v => [(1, .ptr 1 0), (2, .ptr 2 0), (5, .pv (.lit (.int .i64 (i : Int)))), (6, .pv (.lit (.int .i64 (i1 : Int)))), (14, .pv (.lit (.int .i64 (i : Int)))), (17, .pv (.lit (.int .i64 (i1 : Int)))), (20, .pv (.lit (.int .i64 (i2 : Int))))]) (fun i2 v => [(1, .cells [.pv (.lit (.int .i64 ((v 0) 0))), .pv (.lit (.int .i64 ((v 0) 1))), .pv (.lit (.int .i64 ((v 0) 2))), .pv (.lit (.int .i64 ((v 1) 0))), .pv (.lit (.int .i64 ((v 1) 1))), .pv (.lit (.int .i64 ((v 1) 2))), .pv (.lit (.int .i64 ((v 2) 0))), .pv (.lit (.int .i64 ((v 2) 1))), .pv (.lit (.int .i64 ((v 2) 2)))]), (2, .cells [.pv (.lit (.int .i64 0)), .pv (.lit (.int .i64 0)), .pv (.lit (.int .i64 0)), .pv (.lit (.int .i64 0)), .pv (.lit (.int .i64 0)), .pv (.lit (.int .i64 0)), .pv (.lit (.int .i64 0)), .pv (.lit (.int .i64 0)), .pv (.lit (.int .i64 0))])]) [1, 2] (fun i2 v => direct_l2 i i1 (fun vc2 => direct_l1 i (fun vc1 => direct_l0 k (i + 1) vc1) k1 (i1 + 1) vc2) (3 - i2) i2 v = R) vc1 ?_ ?_ (fun i2 vc2 h10 hR => ?_)
    · exact hR
    · exact ⟨fun b => b, WeakerR.ofL (Ks := [1, 2]) hI ⟨⟨rfl, rfl⟩, ⟨rfl, rfl⟩, ⟨rfl, rfl⟩, ⟨rfl, rfl⟩, ⟨rfl, rfl⟩, ⟨rfl, rfl⟩, ⟨rfl, rfl⟩, trivial⟩ (okH_cons rfl rfl rfl rfl (okH_cons rfl rfl rfl rfl (okH_nil))) rfl⟩
    refine Awp.consP C ?_
    refine rvP C (.pv (.lit (.bool (decide ((i2 : Int) < 3))))) ?_
    refine rvc_nil ?_
    refine Awp.seq ?_
    refine Awp.cond (b := (decide ((i2 : Int) < 3))) rfl (fun h11 => ?_) (fun h11 => ?_)
    ·
     have h12 : i2 < 3 := by have := of_decide_eq_true h11; omega
     obtain ⟨k2, h13⟩ : ∃ k, 3 - i2 = k + 1 := ⟨3 - i2 - 1, by omega⟩
     rw [h13] at hR
     refine Awp.skip ?_
     refine Awp.seq ?_
     refine Awp.block ?_
     refine Awp.consP C ?_
     refine rvP C (.pv (.lit (.int .i64 (i2 : Int)))) ?_
     refine rvP C (.pv (.lit (.int .i64 (i2 : Int)))) ?_
     refine rvc_nil ?_
     refine Awp.regionP C ?_
     refine rvP C (.pv (.lit (.int .i64 (i1 : Int)))) ?_
     refine rvP C (.pv (.lit (.int .i64 (i2 : Int)))) ?_
     refine rvP C (.pv (.lit (.int .i64 (i1 : Int)))) ?_
     refine rvP C (.pv (.lit (.int .i64 (i2 : Int)))) ?_
     refine rvc_un (rexec_prim C (δ := { v := .ptr 1 (0 + i1 * 3) }) rfl rfl rfl rfl ⟨(by have := eq_of_bne_false h1; have := of_decide_eq_true h3; have := of_decide_eq_true h7; have := of_decide_eq_true h11; omega), (by have := eq_of_bne_false h1; have := of_decide_eq_true h3; have := of_decide_eq_true h7; have := of_decide_eq_true h11; omega)⟩ rfl ?_)
     refine rvc_un (rexec_prim C (δ := { v := .ptr 1 (0 + i1 * 3 + i2 * 1) }) rfl rfl rfl rfl ⟨(by have := eq_of_bne_false h1; have := of_decide_eq_true h3; have := of_decide_eq_true h7; have := of_decide_eq_true h11; omega), (by have := eq_of_bne_false h1; have := of_decide_eq_true h3; have := of_decide_eq_true h7; have := of_decide_eq_true h11; omega)⟩ rfl ?_)
     refine rvc_un (rexec_load33 C (fun p q => .pv (.lit (.int .i64 ((vc2 p) q)))) i1 i2 (.pv (.lit (.int .i64 ((vc2 i1) i2)))) rfl rfl rfl rfl rfl rfl rfl (by have := eq_of_bne_false h1; have := of_decide_eq_true h3; have := of_decide_eq_true h7; have := of_decide_eq_true h11; omega) (by have := eq_of_bne_false h1; have := of_decide_eq_true h3; have := of_decide_eq_true h7; have := of_decide_eq_true h11; omega) rfl ?_)
     refine rvP C (.pv (.lit (.int .i64 (i1 : Int)))) ?_
     refine rvP C (.pv (.lit (.int .i64 (i : Int)))) ?_
     refine rvc_un (rexec_prim C (δ := { v := .ptr 1 (0 + i1 * 3) }) rfl rfl rfl rfl ⟨(by have := eq_of_bne_false h1; have := of_decide_eq_true h3; have := of_decide_eq_true h7; have := of_decide_eq_true h11; omega), (by have := eq_of_bne_false h1; have := of_decide_eq_true h3; have := of_decide_eq_true h7; have := of_decide_eq_true h11; omega)⟩ rfl ?_)
     refine rvc_un (rexec_prim C (δ := { v := .ptr 1 (0 + i1 * 3 + i * 1) }) rfl rfl rfl rfl ⟨(by have := eq_of_bne_false h1; have := of_decide_eq_true h3; have := of_decide_eq_true h7; have := of_decide_eq_true h11; omega), (by have := eq_of_bne_false h1; have := of_decide_eq_true h3; have := of_decide_eq_true h7; have := of_decide_eq_true h11; omega)⟩ rfl ?_)
     refine rvc_un (rexec_load33 C (fun p q => .pv (.lit (.int .i64 ((vc2 p) q)))) i1 i (.pv (.lit (.int .i64 ((vc2 i1) i)))) rfl rfl rfl rfl rfl rfl rfl (by have := eq_of_bne_false h1; have := of_decide_eq_true h3; have := of_decide_eq_true h7; have := of_decide_eq_true h11; omega) (by have := eq_of_bne_false h1; have := of_decide_eq_true h3; have := of_decide_eq_true h7; have := of_decide_eq_true h11; omega) rfl ?_)
     refine rvP C (.pv (.lit (.int .i64 (i : Int)))) ?_
     refine rvP C (.pv (.lit (.int .i64 (i2 : Int)))) ?_
     refine rvc_un (rexec_prim C (δ := { v := .ptr 1 (0 + i * 3) }) rfl rfl rfl rfl ⟨(by have := eq_of_bne_false h1; have := of_decide_eq_true h3; have := of_decide_eq_true h7; have := of_decide_eq_true h11; omega), (by have := eq_of_bne_false h1; have := of_decide_eq_true h3; have := of_decide_eq_true h7; have := of_decide_eq_true h11; omega)⟩ rfl ?_)
     refine rvc_un (rexec_prim C (δ := { v := .ptr 1 (0 + i * 3 + i2 * 1) }) rfl rfl rfl rfl ⟨(by have := eq_of_bne_false h1; have := of_decide_eq_true h3; have := of_decide_eq_true h7; have := of_decide_eq_true h11; omega), (by have := eq_of_bne_false h1; have := of_decide_eq_true h3; have := of_decide_eq_true h7; have := of_decide_eq_true h11; omega)⟩ rfl ?_)
     refine rvc_un (rexec_load33 C (fun p q => .pv (.lit (.int .i64 ((vc2 p) q)))) i i2 (.pv (.lit (.int .i64 ((vc2 i) i2)))) rfl rfl rfl rfl rfl rfl rfl (by have := eq_of_bne_false h1; have := of_decide_eq_true h3; have := of_decide_eq_true h7; have := of_decide_eq_true h11; omega) (by have := eq_of_bne_false h1; have := of_decide_eq_true h3; have := of_decide_eq_true h7; have := of_decide_eq_true h11; omega) rfl ?_)
     refine rvP C (.pv (.lit (.int .i64 (IntKind.i64.wrap (((vc2 i1) i) + ((vc2 i) i2)))))) ?_
     refine rvc_un (rexec_min C rfl rfl rfl ?_)
     refine rvc_un (rexec_prim C (δ := { v := .ptr 1 (0 + i1 * 3) }) rfl rfl rfl rfl ⟨(by have := eq_of_bne_false h1; have := of_decide_eq_true h3; have := of_decide_eq_true h7; have := of_decide_eq_true h11; omega), (by have := eq_of_bne_false h1; have := of_decide_eq_true h3; have := of_decide_eq_true h7; have := of_decide_eq_true h11; omega)⟩ rfl ?_)
     refine rvc_un (rexec_prim C (δ := { v := .ptr 1 (0 + i1 * 3 + i2 * 1) }) rfl rfl rfl rfl ⟨(by have := eq_of_bne_false h1; have := of_decide_eq_true h3; have := of_decide_eq_true h7; have := of_decide_eq_true h11; omega), (by have := eq_of_bne_false h1; have := of_decide_eq_true h3; have := of_decide_eq_true h7; have := of_decide_eq_true h11; omega)⟩ rfl ?_)
     refine rvc_un (rexec_store33 C (fun z => .lit (.int .i64 z)) vc2 i1 i2 (bif (decide ((IntKind.i64.wrap (((vc2 i1) i) + ((vc2 i) i2))) < ((vc2 i1) i2))) then (IntKind.i64.wrap (((vc2 i1) i) + ((vc2 i) i2))) else ((vc2 i1) i2)) [.pv (.lit (.int .i64 (((upd33 vc2 i1 i2 (bif (decide ((IntKind.i64.wrap (((vc2 i1) i) + ((vc2 i) i2))) < ((vc2 i1) i2))) then (IntKind.i64.wrap (((vc2 i1) i) + ((vc2 i) i2))) else ((vc2 i1) i2))) 0) 0))), .pv (.lit (.int .i64 (((upd33 vc2 i1 i2 (bif (decide ((IntKind.i64.wrap (((vc2 i1) i) + ((vc2 i) i2))) < ((vc2 i1) i2))) then (IntKind.i64.wrap (((vc2 i1) i) + ((vc2 i) i2))) else ((vc2 i1) i2))) 0) 1))), .pv (.lit (.int .i64 (((upd33 vc2 i1 i2 (bif (decide ((IntKind.i64.wrap (((vc2 i1) i) + ((vc2 i) i2))) < ((vc2 i1) i2))) then (IntKind.i64.wrap (((vc2 i1) i) + ((vc2 i) i2))) else ((vc2 i1) i2))) 0) 2))), .pv (.lit (.int .i64 (((upd33 vc2 i1 i2 (bif (decide ((IntKind.i64.wrap (((vc2 i1) i) + ((vc2 i) i2))) < ((vc2 i1) i2))) then (IntKind.i64.wrap (((vc2 i1) i) + ((vc2 i) i2))) else ((vc2 i1) i2))) 1) 0))), .pv (.lit (.int .i64 (((upd33 vc2 i1 i2 (bif (decide ((IntKind.i64.wrap (((vc2 i1) i) + ((vc2 i) i2))) < ((vc2 i1) i2))) then (IntKind.i64.wrap (((vc2 i1) i) + ((vc2 i) i2))) else ((vc2 i1) i2))) 1) 1))), .pv (.lit (.int .i64 (((upd33 vc2 i1 i2 (bif (decide ((IntKind.i64.wrap (((vc2 i1) i) + ((vc2 i) i2))) < ((vc2 i1) i2))) then (IntKind.i64.wrap (((vc2 i1) i) + ((vc2 i) i2))) else ((vc2 i1) i2))) 1) 2))), .pv (.lit (.int .i64 (((upd33 vc2 i1 i2 (bif (decide ((IntKind.i64.wrap (((vc2 i1) i) + ((vc2 i) i2))) < ((vc2 i1) i2))) then (IntKind.i64.wrap (((vc2 i1) i) + ((vc2 i) i2))) else ((vc2 i1) i2))) 2) 0))), .pv (.lit (.int .i64 (((upd33 vc2 i1 i2 (bif (decide ((IntKind.i64.wrap (((vc2 i1) i) + ((vc2 i) i2))) < ((vc2 i1) i2))) then (IntKind.i64.wrap (((vc2 i1) i) + ((vc2 i) i2))) else ((vc2 i1) i2))) 2) 1))), .pv (.lit (.int .i64 (((upd33 vc2 i1 i2 (bif (decide ((IntKind.i64.wrap (((vc2 i1) i) + ((vc2 i) i2))) < ((vc2 i1) i2))) then (IntKind.i64.wrap (((vc2 i1) i) + ((vc2 i) i2))) else ((vc2 i1) i2))) 2) 2)))] rfl rfl rfl rfl rfl rfl (by have := eq_of_bne_false h1; have := of_decide_eq_true h3; have := of_decide_eq_true h7; have := of_decide_eq_true h11; omega) (by have := eq_of_bne_false h1; have := of_decide_eq_true h3; have := of_decide_eq_true h7; have := of_decide_eq_true h11; omega) rfl ?_)
     refine rvc_nil ?_
     refine Awp.regionP C ?_
     refine rvP C (.pv (.lit (.int .i64 (IntKind.i64.wrap ((i2 : Int) + 1))))) ?_
     refine rvP C (.pv (.lit (.int .i64 (IntKind.i64.wrap ((i2 : Int) + 1))))) ?_
     refine rvc_nil ?_
     refine ⟨h12, (upd33 vc2 i1 i2 (bif (decide ((IntKind.i64.wrap (((vc2 i1) i) + ((vc2 i) i2))) < ((vc2 i1) i2))) then (IntKind.i64.wrap (((vc2 i1) i) + ((vc2 i) i2))) else ((vc2 i1) i2))), ?_, ?_⟩
     · exact (by rw [show 3 - (i2 + 1) = k2 by omega]; exact hR)
     · exact ⟨fun b => b, WeakerR.ofL (Ks := [1, 2]) hI ⟨⟨rfl, rfl⟩, ⟨rfl, rfl⟩, ⟨rfl, rfl⟩, ⟨rfl, rfl⟩, ⟨rfl, rfl⟩, ⟨rfl, rfl⟩, ⟨lit_cast (wrap_i64 (by omega) (by omega)), rfl⟩, trivial⟩ (okH_cons rfl rfl rfl rfl (okH_cons rfl rfl rfl rfl (okH_nil))) rfl⟩
    ·
     rw [show 3 - i2 = 0 by have := of_decide_eq_false h11; omega] at hR
     refine Awp.exit ?_
     refine Awp.regionP C ?_
     refine rvP C (.pv (.lit (.int .i64 (IntKind.i64.wrap ((i1 : Int) + 1))))) ?_
     refine rvP C (.pv (.lit (.int .i64 (IntKind.i64.wrap ((i1 : Int) + 1))))) ?_
     refine rvc_nil ?_
     refine ⟨h8, vc2, ?_, ?_⟩
     · exact (by rw [show 3 - (i1 + 1) = k1 by omega]; exact hR)
     · exact ⟨fun b => b, WeakerR.ofL (Ks := [1, 2]) hI ⟨⟨rfl, rfl⟩, ⟨rfl, rfl⟩, ⟨rfl, rfl⟩, ⟨rfl, rfl⟩, ⟨lit_cast (wrap_i64 (by omega) (by omega)), rfl⟩, trivial⟩ (okH_cons rfl rfl rfl rfl (okH_cons rfl rfl rfl rfl (okH_nil))) rfl⟩
   ·
    rw [show 3 - i1 = 0 by have := of_decide_eq_false h7; omega] at hR
    refine Awp.exit ?_
    refine Awp.regionP C ?_
    refine rvP C (.pv (.lit (.int .i64 (IntKind.i64.wrap ((i : Int) + 1))))) ?_
    refine rvP C (.pv (.lit (.int .i64 (IntKind.i64.wrap ((i : Int) + 1))))) ?_
    refine rvc_nil ?_
    refine ⟨h4, vc1, ?_, ?_⟩
    · exact (by rw [show 3 - (i + 1) = k by omega]; exact hR)
    · exact ⟨fun b => b, WeakerR.ofL (Ks := [1, 2]) hI ⟨⟨rfl, rfl⟩, ⟨rfl, rfl⟩, ⟨lit_cast (wrap_i64 (by omega) (by omega)), rfl⟩, trivial⟩ (okH_cons rfl rfl rfl rfl (okH_cons rfl rfl rfl rfl (okH_nil))) rfl⟩
  ·
   rw [show 3 - i = 0 by have := of_decide_eq_false h3; omega] at hR
   refine Awp.exit ?_
   refine Awp.consP C ?_
   refine rvP C (.agg [.pv (.lit (.int .i64 ((vc 0) 0))), .pv (.lit (.int .i64 ((vc 0) 1))), .pv (.lit (.int .i64 ((vc 0) 2))), .pv (.lit (.int .i64 ((vc 1) 0))), .pv (.lit (.int .i64 ((vc 1) 1))), .pv (.lit (.int .i64 ((vc 1) 2))), .pv (.lit (.int .i64 ((vc 2) 0))), .pv (.lit (.int .i64 ((vc 2) 1))), .pv (.lit (.int .i64 ((vc 2) 2)))]) ?_
   refine rvc_un (rexec_prim C (δ := { v := .undef, wr := [(2, some (.cells [.pv (.lit (.int .i64 ((vc 0) 0))), .pv (.lit (.int .i64 ((vc 0) 1))), .pv (.lit (.int .i64 ((vc 0) 2))), .pv (.lit (.int .i64 ((vc 1) 0))), .pv (.lit (.int .i64 ((vc 1) 1))), .pv (.lit (.int .i64 ((vc 1) 2))), .pv (.lit (.int .i64 ((vc 2) 0))), .pv (.lit (.int .i64 ((vc 2) 1))), .pv (.lit (.int .i64 ((vc 2) 2)))]))] }) rfl rfl rfl rfl trivial rfl ?_)
   refine rvP C (.pv (.lit (.int .i64 0))) ?_
   refine rvc_nil ?_
   refine Awp.ret ?_
   subst hR
   exact ⟨.inl rfl, rfl⟩
end Go.Proofs.Ytihccnkegkkikaa
/- The reference: who is near, how far a write goes. No conditions. -/
namespace Go.Proofs.Ytihccnkegkkikaa
open Go.Am
end Go.Proofs.Ytihccnkegkkikaa
/- Ways in plain Lean: the code's answers are the document's. No conditions. -/
namespace Go.Proofs.Ytihccnkegkkikaa
open Go.Am
def okA (w : Nat → Nat → Int) (i j : Nat) : Bool := decide (0 ≤ w i j) && decide (w i j ≤ 1000) && (w i j == w j i) && (!(i == j) || w i j == 0)
theorem wayCheck_l1_eq (w : Nat → Nat → Int) (i : Nat) (kk : Int) : ∀ (k j : Nat), wayCheck_l1 w i kk k j = bif (List.range' j k).all (okA w i) then kk else 1
  | 0, _ => rfl
  | k + 1, j => by
    unfold wayCheck_l1
    rw [List.range'_succ, List.all_cons, wayCheck_l1_eq w i kk k (j + 1)]
    unfold okA
    have e1 : decide (0 ≤ w i j) = !decide (w i j < 0) := by rw [← decide_not]; exact decide_eq_decide.2 (by omega)
    have e2 : decide (w i j ≤ 1000) = !decide (w i j > 1000) := by rw [← decide_not]; exact decide_eq_decide.2 (by omega)
    have e3 : ((i : Int) == (j : Int)) = (i == j) := by rw [Bool.eq_iff_iff]; simp; omega
    rw [e1, e2, e3]
    cases decide (w i j < 0)
    case true => rfl
    cases decide (w i j > 1000)
    case true => rfl
    have e4 : (w i j != w j i) = !(w i j == w j i) := rfl
    have e5 : (w i j != 0) = !(w i j == 0) := rfl
    rw [e4, e5]
    cases w i j == w j i
    case false => rfl
    cases i == j
    case false => rfl
    cases w i j == 0 <;> rfl
theorem wayCheck_l0_eq (w : Nat → Nat → Int) : ∀ (k i : Nat), wayCheck_l0 w k i = bif (List.range' i k).all (fun i => (List.range' 0 3).all (okA w i)) then 0 else 1
  | 0, _ => rfl
  | k + 1, i => by
    unfold wayCheck_l0
    rw [wayCheck_l1_eq, wayCheck_l0_eq w k (i + 1), show List.range' i (k + 1) = i :: List.range' (i + 1) k from List.range'_succ .., List.all_cons]
    cases (List.range' 0 3).all (okA w i) <;> rfl
theorem all_all {p : Nat → Nat → Bool} : ((List.range' 0 3).all fun i => (List.range' 0 3).all (p i)) = true ↔ ∀ i j, i < 3 → j < 3 → p i j = true := by
  rw [List.all_eq_true]
  constructor
  · intro h i j hi hj
    exact List.all_eq_true.1 (h i (List.mem_range'_1.2 ⟨Nat.zero_le _, by omega⟩)) j (List.mem_range'_1.2 ⟨Nat.zero_le _, by omega⟩)
  · intro h i hi
    refine List.all_eq_true.2 fun j hj => h i j ?_ ?_
    · have := (List.mem_range'_1.1 hi).2; omega
    · have := (List.mem_range'_1.1 hj).2; omega
theorem okA_iff {w : Nat → Nat → Int} {i j : Nat} : okA w i j = true ↔ 0 ≤ w i j ∧ w i j ≤ 1000 ∧ w i j = w j i ∧ (i = j → w i j = 0) := by
  unfold okA
  simp only [Bool.and_eq_true, Bool.or_eq_true, decide_eq_true_eq, beq_iff_eq, Bool.not_eq_true', beq_eq_false_iff_ne]
  constructor
  · rintro ⟨⟨⟨h1, h2⟩, h3⟩, h4⟩
    exact ⟨h1, h2, h3, fun e => h4.resolve_left fun h => h e⟩
  · rintro ⟨h1, h2, h3, h4⟩
    refine ⟨⟨⟨h1, h2⟩, h3⟩, ?_⟩
    by_cases e : i = j
    · exact .inr (h4 e)
    · exact .inl e
/-- What ways are. -/
def Ways (w : Nat → Nat → Int) : Prop := ∀ i j, i < 3 → j < 3 → 0 ≤ w i j ∧ w i j ≤ 1000 ∧ w i j = w j i ∧ w i i = 0
theorem wayCheck_iff (w : Nat → Nat → Int) : (wayCheck w = 0 ↔ Ways w) ∧ (wayCheck w = 0 ∨ wayCheck w = 1) := by
  unfold wayCheck
  rw [wayCheck_l0_eq]
  cases h : (List.range' 0 3).all fun i => (List.range' 0 3).all (okA w i)
  · refine ⟨⟨fun h => (by cases h), fun hw => ?_⟩, .inr rfl⟩
    have := all_all.2 fun i j hi hj => okA_iff.2 ⟨(hw i j hi hj).1, (hw i j hi hj).2.1, (hw i j hi hj).2.2.1, fun e => by subst e; exact (hw i i hi hi).2.2.2⟩
    rw [h] at this; cases this
  · refine ⟨⟨fun _ i j hi hj => ?_, fun _ => rfl⟩, .inl rfl⟩
    have h1 := okA_iff.1 (all_all.1 h i j hi hj)
    exact ⟨h1.1, h1.2.1, h1.2.2.1, (okA_iff.1 (all_all.1 h i i hi hi)).2.2.2 rfl⟩
theorem near_l0_eq : ∀ (l : List Member) (i : Nat) (out : List Int), near_l0 l i out = (⟨(out ++ l.map (·.node)).isEmpty, out ++ l.map (·.node)⟩, 0)
  | [], _, out => by rw [List.map_nil, List.append_nil]; rfl
  | x :: l, i, out => by
    unfold near_l0
    rw [near_l0_eq l, List.append_assoc]; rfl
theorem near_len (c : Chain) (w : Nat → Nat → Int) (f : Int) : (near c w f).1.D.length ≤ 6 := by
  unfold near
  cases ha : able c w f != 0
  case true => exact Nat.zero_le _
  obtain ⟨hc, _, _⟩ := able_ok (eq_of_bne_false ha)
  have h6 := check_le6 hc
  rw [cond_false, near_l0_eq]
  show (([] : List Int) ++ _).length ≤ 6
  rw [List.nil_append, List.length_map, sortSF_len _ _ (by omega)]
  exact h6
end Go.Proofs.Ytihccnkegkkikaa
/- The example. No conditions. -/
namespace Go.Proofs.Ytihccnkegkkikaa
open Go.Am
def awake  : Bool :=
  (bif ((writeW (Chain.mk 1 (Sl.mk false [(Member.mk 0 0 false), (Member.mk 1 1 false)])) (ofL [(ofL [0, 5, 9]), (ofL [5, 0, 9]), (ofL [9, 9, 0])]) 0).1 == 10) then (bif ((writeW (Chain.mk 1 (Sl.mk false [(Member.mk 0 0 false), (Member.mk 1 1 false)])) (ofL [(ofL [0, 5, 9]), (ofL [5, 0, 9]), (ofL [9, 9, 0])]) 0).2 == 0) then (bif ((readW (Chain.mk 1 (Sl.mk false [(Member.mk 0 0 false), (Member.mk 1 1 false)])) (ofL [(ofL [0, 5, 9]), (ofL [5, 0, 9]), (ofL [9, 9, 0])]) 1 1 false 0).1 == 10) then (bif ((readW (Chain.mk 1 (Sl.mk false [(Member.mk 0 0 false), (Member.mk 1 1 false)])) (ofL [(ofL [0, 5, 9]), (ofL [5, 0, 9]), (ofL [9, 9, 0])]) 1 1 false 0).2 == 0) then (bif (eqInts (near (Chain.mk 1 (Sl.mk false [(Member.mk 0 0 false), (Member.mk 1 1 false)])) (ofL [(ofL [0, 5, 9]), (ofL [5, 0, 9]), (ofL [9, 9, 0])]) 1).1 (Sl.mk false [1, 0])) then (bif ((near (Chain.mk 1 (Sl.mk false [(Member.mk 0 0 false), (Member.mk 1 1 false)])) (ofL [(ofL [0, 5, 9]), (ofL [5, 0, 9]), (ofL [9, 9, 0])]) 1).2 == 0) then ((wayCheck (ofL [(ofL [0, 4, 9]), (ofL [5, 0, 9]), (ofL [9, 9, 0])])) == 1) else false) else false) else false) else false) else false) else false)
theorem awake_calls   : PCalls Try.prog 11 [] (.pv (.lit (.bool (awake )))) := by
 generalize hR : awake  = R
 refine PCalls.of_body tabOk Try.func11 rfl rfl rfl rfl rfl mixed fun E hP C hI => ?_
 refine Awp.consP C ?_
 refine rvP C (.pv (.lit (.bool false))) ?_
 refine rvc_nil ?_
 refine Awp.consP C ?_
 refine rvP C (.agg [.pv (.lit (.int .i64 0)), .pv (.lit (.int .i64 5)), .pv (.lit (.int .i64 9))]) ?_
 refine rvP C (.agg [.pv (.lit (.int .i64 5)), .pv (.lit (.int .i64 0)), .pv (.lit (.int .i64 9))]) ?_
 refine rvP C (.agg [.pv (.lit (.int .i64 9)), .pv (.lit (.int .i64 9)), .pv (.lit (.int .i64 0))]) ?_
 refine rvP C (.agg [.pv (.lit (.int .i64 0)), .pv (.lit (.int .i64 5)), .pv (.lit (.int .i64 9)), .pv (.lit (.int .i64 5)), .pv (.lit (.int .i64 0)), .pv (.lit (.int .i64 9)), .pv (.lit (.int .i64 9)), .pv (.lit (.int .i64 9)), .pv (.lit (.int .i64 0))]) ?_
 refine rvc_un (rexec_prim C (δ := { v := .ptr 1 0, new := [(1, .cells [.pv (.lit (.int .i64 0)), .pv (.lit (.int .i64 0)), .pv (.lit (.int .i64 0)), .pv (.lit (.int .i64 0)), .pv (.lit (.int .i64 0)), .pv (.lit (.int .i64 0)), .pv (.lit (.int .i64 0)), .pv (.lit (.int .i64 0)), .pv (.lit (.int .i64 0))])] }) rfl rfl rfl rfl trivial rfl ?_)
 refine rvc_un (rexec_prim C (δ := { v := .undef, wr := [(1, some (.cells [.pv (.lit (.int .i64 0)), .pv (.lit (.int .i64 5)), .pv (.lit (.int .i64 9)), .pv (.lit (.int .i64 5)), .pv (.lit (.int .i64 0)), .pv (.lit (.int .i64 9)), .pv (.lit (.int .i64 9)), .pv (.lit (.int .i64 9)), .pv (.lit (.int .i64 0))]))] }) rfl rfl rfl rfl trivial rfl ?_)
 refine rvc_nil ?_
 refine Awp.consP C ?_
 refine rvP C (.agg [.pv (.lit (.int .i64 0)), .pv (.lit (.int .i64 0)), .pv (.lit (.bool false))]) ?_
 refine rvP C (.agg [.pv (.lit (.int .i64 1)), .pv (.lit (.int .i64 1)), .pv (.lit (.bool false))]) ?_
 refine rvc_un (rexec_buildSliceF C eMember [(Member.mk 0 0 false), (Member.mk 1 1 false)] rfl rfl rfl rfl rfl rfl rfl (by decide) rfl ?_)
 refine rvP C (.agg [.pv (.lit (.int .i64 1)), sS (some false) eMember [(Member.mk 0 0 false), (Member.mk 1 1 false)]]) ?_
 refine rvc_un (rexec_prim C (δ := { v := .ptr 2 0, new := [(2, .cells [.pv (.lit (.int .i64 0)), sS (some true) eMember []])] }) rfl rfl rfl rfl trivial rfl ?_)
 refine rvc_un (rexec_prim C (δ := { v := .undef, wr := [(2, some (.cells [.pv (.lit (.int .i64 1)), sS (some false) eMember [(Member.mk 0 0 false), (Member.mk 1 1 false)]]))] }) rfl rfl rfl rfl trivial rfl ?_)
 refine rvc_nil ?_
 refine Awp.consP C ?_
 refine rvP C (.agg [.pv (.lit (.int .i64 1)), sS (some false) eMember [(Member.mk 0 0 false), (Member.mk 1 1 false)]]) ?_
 refine rvP C (.agg [.pv (.lit (.int .i64 0)), .pv (.lit (.int .i64 5)), .pv (.lit (.int .i64 9)), .pv (.lit (.int .i64 5)), .pv (.lit (.int .i64 0)), .pv (.lit (.int .i64 9)), .pv (.lit (.int .i64 9)), .pv (.lit (.int .i64 9)), .pv (.lit (.int .i64 0))]) ?_
 obtain ⟨wr, hq_wr⟩ : ∃ q_, q_ = (writeW (Chain.mk 1 (Sl.mk false [(Member.mk 0 0 false), (Member.mk 1 1 false)])) (ofL [(ofL [0, 5, 9]), (ofL [5, 0, 9]), (ofL [9, 9, 0])]) 0) := ⟨_, rfl⟩
 have hc_wr := (writeW_calls (Chain.mk 1 (Sl.mk false [(Member.mk 0 0 false), (Member.mk 1 1 false)])) (ofL [(ofL [0, 5, 9]), (ofL [5, 0, 9]), (ofL [9, 9, 0])]) 0 (of_decide_eq_true (by kernel_rfl)))
 first | rw [← hq_wr] at hR hc_wr | (unfold awake at hR; rw [← hq_wr] at hR hc_wr)
 refine rvc_un (rexec_call hP C rfl rfl rfl hc_wr ?_)
 refine rvP C (.tup [.pv (.lit (.int .i64 wr.1)), .pv (.lit (.int .i64 wr.2))]) ?_
 refine rvP C (.pv (.lit (.int .i64 wr.1))) ?_
 refine rvP C (.pv (.lit (.int .i64 wr.2))) ?_
 refine rvP C (.pv (.lit (.int .i64 wr.1))) ?_
 refine rvP C (.pv (.lit (.int .i64 wr.2))) ?_
 refine rvc_nil ?_
 refine Awp.consP C ?_
 refine rvP C (.agg [.pv (.lit (.int .i64 1)), sS (some false) eMember [(Member.mk 0 0 false), (Member.mk 1 1 false)]]) ?_
 refine rvP C (.agg [.pv (.lit (.int .i64 0)), .pv (.lit (.int .i64 5)), .pv (.lit (.int .i64 9)), .pv (.lit (.int .i64 5)), .pv (.lit (.int .i64 0)), .pv (.lit (.int .i64 9)), .pv (.lit (.int .i64 9)), .pv (.lit (.int .i64 9)), .pv (.lit (.int .i64 0))]) ?_
 obtain ⟨rd, hq_rd⟩ : ∃ q_, q_ = (readW (Chain.mk 1 (Sl.mk false [(Member.mk 0 0 false), (Member.mk 1 1 false)])) (ofL [(ofL [0, 5, 9]), (ofL [5, 0, 9]), (ofL [9, 9, 0])]) 1 1 false 0) := ⟨_, rfl⟩
 have hc_rd := (readW_calls (Chain.mk 1 (Sl.mk false [(Member.mk 0 0 false), (Member.mk 1 1 false)])) (ofL [(ofL [0, 5, 9]), (ofL [5, 0, 9]), (ofL [9, 9, 0])]) 1 1 false 0 (of_decide_eq_true (by kernel_rfl)))
 first | rw [← hq_rd] at hR hc_rd | (unfold awake at hR; rw [← hq_rd] at hR hc_rd)
 refine rvc_un (rexec_call hP C rfl rfl rfl hc_rd ?_)
 refine rvP C (.tup [.pv (.lit (.int .i64 rd.1)), .pv (.lit (.int .i64 rd.2))]) ?_
 refine rvP C (.pv (.lit (.int .i64 rd.1))) ?_
 refine rvP C (.pv (.lit (.int .i64 rd.2))) ?_
 refine rvP C (.pv (.lit (.int .i64 rd.1))) ?_
 refine rvP C (.pv (.lit (.int .i64 rd.2))) ?_
 refine rvc_nil ?_
 refine Awp.consP C ?_
 refine rvP C (.agg [.pv (.lit (.int .i64 1)), sS (some false) eMember [(Member.mk 0 0 false), (Member.mk 1 1 false)]]) ?_
 refine rvP C (.agg [.pv (.lit (.int .i64 0)), .pv (.lit (.int .i64 5)), .pv (.lit (.int .i64 9)), .pv (.lit (.int .i64 5)), .pv (.lit (.int .i64 0)), .pv (.lit (.int .i64 9)), .pv (.lit (.int .i64 9)), .pv (.lit (.int .i64 9)), .pv (.lit (.int .i64 0))]) ?_
 obtain ⟨nr, hq_nr⟩ : ∃ q_, q_ = (near (Chain.mk 1 (Sl.mk false [(Member.mk 0 0 false), (Member.mk 1 1 false)])) (ofL [(ofL [0, 5, 9]), (ofL [5, 0, 9]), (ofL [9, 9, 0])]) 1) := ⟨_, rfl⟩
 have hc_nr := (near_calls (Chain.mk 1 (Sl.mk false [(Member.mk 0 0 false), (Member.mk 1 1 false)])) (ofL [(ofL [0, 5, 9]), (ofL [5, 0, 9]), (ofL [9, 9, 0])]) 1 (fun h => absurd (h.symm.trans (by kernel_rfl : _ = false)) Bool.noConfusion) (of_decide_eq_true (by kernel_rfl)))
 first | rw [← hq_nr] at hR hc_nr | (unfold awake at hR; rw [← hq_nr] at hR hc_nr)
 have hf0_nr := near_len (Chain.mk 1 (Sl.mk false [(Member.mk 0 0 false), (Member.mk 1 1 false)])) (ofL [(ofL [0, 5, 9]), (ofL [5, 0, 9]), (ofL [9, 9, 0])]) 1
 rw [← hq_nr] at hf0_nr
 refine rvc_un (rexec_call hP C rfl rfl rfl hc_nr ?_)
 refine rvP C (.tup [sS (some nr.1.nil) (eI .i64) nr.1.D, .pv (.lit (.int .i64 nr.2))]) ?_
 refine rvP C (sS (some nr.1.nil) (eI .i64) nr.1.D) ?_
 refine rvP C (.pv (.lit (.int .i64 nr.2))) ?_
 refine rvP C (sS (some nr.1.nil) (eI .i64) nr.1.D) ?_
 refine rvP C (.pv (.lit (.int .i64 nr.2))) ?_
 refine rvc_nil ?_
 refine Awp.consP C ?_
 refine rvc_un (rexec_prim C (δ := { v := .ptr 1 0 }) rfl rfl rfl rfl (by decide) rfl ?_)
 refine rvc_un (rexec_prim C (δ := { v := .ptr 1 1 }) rfl rfl rfl rfl (by decide) rfl ?_)
 refine rvc_un (rexec_prim C (δ := { v := .undef, wr := [(1, some (.cells [.pv (.lit (.int .i64 0)), .pv (.lit (.int .i64 4)), .pv (.lit (.int .i64 9)), .pv (.lit (.int .i64 5)), .pv (.lit (.int .i64 0)), .pv (.lit (.int .i64 9)), .pv (.lit (.int .i64 9)), .pv (.lit (.int .i64 9)), .pv (.lit (.int .i64 0))]))] }) rfl rfl rfl rfl trivial rfl ?_)
 refine rvc_nil ?_
 refine Awp.consP C ?_
 refine rvP C (.pv (.lit (.int .i64 wr.1))) ?_
 refine rvP C (.pv (.lit (.bool (wr.1 == 10)))) ?_
 refine rvP C (.pv (.lit (.bool (wr.1 == 10)))) ?_
 refine rvc_case 39 (wr.1 == 10) rfl (fun h1 => ?_) (fun h1 => ?_)
 ·
  replace hR := of_true h1 hR
  refine rvO C (.pv (.lit (.int .i64 wr.2))) ?_
  refine rvO C (.pv (.lit (.bool (wr.2 == 0)))) ?_
  refine rvP C (.pv (.lit (.bool (wr.2 == 0)))) ?_
  refine rvP C (.pv (.lit (.bool (wr.2 == 0)))) ?_
  refine rvc_case 43 (wr.2 == 0) rfl (fun h2 => ?_) (fun h2 => ?_)
  ·
   replace hR := of_true h2 hR
   refine rvO C (.pv (.lit (.int .i64 rd.1))) ?_
   refine rvO C (.pv (.lit (.bool (rd.1 == 10)))) ?_
   refine rvP C (.pv (.lit (.bool (rd.1 == 10)))) ?_
   refine rvP C (.pv (.lit (.bool (rd.1 == 10)))) ?_
   refine rvc_case 47 (rd.1 == 10) rfl (fun h3 => ?_) (fun h3 => ?_)
   ·
    replace hR := of_true h3 hR
    refine rvO C (.pv (.lit (.int .i64 rd.2))) ?_
    refine rvO C (.pv (.lit (.bool (rd.2 == 0)))) ?_
    refine rvP C (.pv (.lit (.bool (rd.2 == 0)))) ?_
    refine rvP C (.pv (.lit (.bool (rd.2 == 0)))) ?_
    refine rvc_case 51 (rd.2 == 0) rfl (fun h4 => ?_) (fun h4 => ?_)
    ·
     replace hR := of_true h4 hR
     refine rvO C (sS (some nr.1.nil) (eI .i64) nr.1.D) ?_
     refine rvc_open rfl rfl rfl (rexec_buildSliceF C (eI .i64) [1, 0] rfl rfl rfl rfl rfl rfl rfl (by decide) rfl ?_)
     obtain ⟨ec, hq_ec⟩ : ∃ q_, q_ = (eqInts nr.1 (Sl.mk false [1, 0])) := ⟨_, rfl⟩
     have hc_ec := (eqInts_calls nr.1 (Sl.mk false [1, 0]) (by first | omega | decide))
     first | rw [← hq_ec] at hR hc_ec | (unfold awake at hR; rw [← hq_ec] at hR hc_ec)
     refine rvc_open rfl rfl rfl (rexec_call hP C rfl rfl rfl hc_ec ?_)
     refine rvP C (.pv (.lit (.bool ec))) ?_
     refine rvP C (.pv (.lit (.bool ec))) ?_
     refine rvc_case 56 ec rfl (fun h5 => ?_) (fun h5 => ?_)
     ·
      replace hR := of_true h5 hR
      refine rvO C (.pv (.lit (.int .i64 nr.2))) ?_
      refine rvO C (.pv (.lit (.bool (nr.2 == 0)))) ?_
      refine rvP C (.pv (.lit (.bool (nr.2 == 0)))) ?_
      refine rvP C (.pv (.lit (.bool (nr.2 == 0)))) ?_
      refine rvc_case 60 (nr.2 == 0) rfl (fun h6 => ?_) (fun h6 => ?_)
      ·
       replace hR := of_true h6 hR
       refine rvO C (.agg [.pv (.lit (.int .i64 0)), .pv (.lit (.int .i64 4)), .pv (.lit (.int .i64 9)), .pv (.lit (.int .i64 5)), .pv (.lit (.int .i64 0)), .pv (.lit (.int .i64 9)), .pv (.lit (.int .i64 9)), .pv (.lit (.int .i64 9)), .pv (.lit (.int .i64 0))]) ?_
       obtain ⟨ck, hq_ck⟩ : ∃ q_, q_ = (wayCheck (ofL [(ofL [0, 4, 9]), (ofL [5, 0, 9]), (ofL [9, 9, 0])])) := ⟨_, rfl⟩
       have hc_ck := (wayCheck_calls (ofL [(ofL [0, 4, 9]), (ofL [5, 0, 9]), (ofL [9, 9, 0])]))
       first | rw [← hq_ck] at hR hc_ck | (unfold awake at hR; rw [← hq_ck] at hR hc_ck)
       refine rvc_open rfl rfl rfl (rexec_call hP C rfl rfl rfl hc_ck ?_)
       refine rvO C (.pv (.lit (.bool (ck == 1)))) ?_
       refine rvP C (.pv (.lit (.bool (ck == 1)))) ?_
       refine rvP C (.pv (.lit (.bool (ck == 1)))) ?_
       refine rvc_nil ?_
       refine Awp.ret ?_
       subst hR
       exact ⟨.inl rfl, rfl⟩
      ·
       replace hR := of_false h6 hR
       refine rvS ?_
       refine rvS ?_
       refine rvS ?_
       refine rvP C (.pv (.lit (.bool false))) ?_
       refine rvP C (.pv (.lit (.bool false))) ?_
       refine rvc_nil ?_
       refine Awp.ret ?_
       subst hR
       exact ⟨.inl rfl, rfl⟩
     ·
      replace hR := of_false h5 hR
      refine rvS ?_
      refine rvS ?_
      refine rvP C (.pv (.lit (.bool false))) ?_
      refine rvP C (.pv (.lit (.bool false))) ?_
      refine rvS ?_
      refine rvS ?_
      refine rvS ?_
      refine rvP C (.pv (.lit (.bool false))) ?_
      refine rvP C (.pv (.lit (.bool false))) ?_
      refine rvc_nil ?_
      refine Awp.ret ?_
      subst hR
      exact ⟨.inl rfl, rfl⟩
    ·
     replace hR := of_false h4 hR
     refine rvS ?_
     refine rvS ?_
     refine rvS ?_
     refine rvP C (.pv (.lit (.bool false))) ?_
     refine rvP C (.pv (.lit (.bool false))) ?_
     refine rvS ?_
     refine rvS ?_
     refine rvP C (.pv (.lit (.bool false))) ?_
     refine rvP C (.pv (.lit (.bool false))) ?_
     refine rvS ?_
     refine rvS ?_
     refine rvS ?_
     refine rvP C (.pv (.lit (.bool false))) ?_
     refine rvP C (.pv (.lit (.bool false))) ?_
     refine rvc_nil ?_
     refine Awp.ret ?_
     subst hR
     exact ⟨.inl rfl, rfl⟩
   ·
    replace hR := of_false h3 hR
    refine rvS ?_
    refine rvS ?_
    refine rvP C (.pv (.lit (.bool false))) ?_
    refine rvP C (.pv (.lit (.bool false))) ?_
    refine rvS ?_
    refine rvS ?_
    refine rvS ?_
    refine rvP C (.pv (.lit (.bool false))) ?_
    refine rvP C (.pv (.lit (.bool false))) ?_
    refine rvS ?_
    refine rvS ?_
    refine rvP C (.pv (.lit (.bool false))) ?_
    refine rvP C (.pv (.lit (.bool false))) ?_
    refine rvS ?_
    refine rvS ?_
    refine rvS ?_
    refine rvP C (.pv (.lit (.bool false))) ?_
    refine rvP C (.pv (.lit (.bool false))) ?_
    refine rvc_nil ?_
    refine Awp.ret ?_
    subst hR
    exact ⟨.inl rfl, rfl⟩
  ·
   replace hR := of_false h2 hR
   refine rvS ?_
   refine rvS ?_
   refine rvP C (.pv (.lit (.bool false))) ?_
   refine rvP C (.pv (.lit (.bool false))) ?_
   refine rvS ?_
   refine rvS ?_
   refine rvP C (.pv (.lit (.bool false))) ?_
   refine rvP C (.pv (.lit (.bool false))) ?_
   refine rvS ?_
   refine rvS ?_
   refine rvS ?_
   refine rvP C (.pv (.lit (.bool false))) ?_
   refine rvP C (.pv (.lit (.bool false))) ?_
   refine rvS ?_
   refine rvS ?_
   refine rvP C (.pv (.lit (.bool false))) ?_
   refine rvP C (.pv (.lit (.bool false))) ?_
   refine rvS ?_
   refine rvS ?_
   refine rvS ?_
   refine rvP C (.pv (.lit (.bool false))) ?_
   refine rvP C (.pv (.lit (.bool false))) ?_
   refine rvc_nil ?_
   refine Awp.ret ?_
   subst hR
   exact ⟨.inl rfl, rfl⟩
 ·
  replace hR := of_false h1 hR
  refine rvS ?_
  refine rvS ?_
  refine rvP C (.pv (.lit (.bool false))) ?_
  refine rvP C (.pv (.lit (.bool false))) ?_
  refine rvS ?_
  refine rvS ?_
  refine rvP C (.pv (.lit (.bool false))) ?_
  refine rvP C (.pv (.lit (.bool false))) ?_
  refine rvS ?_
  refine rvS ?_
  refine rvP C (.pv (.lit (.bool false))) ?_
  refine rvP C (.pv (.lit (.bool false))) ?_
  refine rvS ?_
  refine rvS ?_
  refine rvS ?_
  refine rvP C (.pv (.lit (.bool false))) ?_
  refine rvP C (.pv (.lit (.bool false))) ?_
  refine rvS ?_
  refine rvS ?_
  refine rvP C (.pv (.lit (.bool false))) ?_
  refine rvP C (.pv (.lit (.bool false))) ?_
  refine rvS ?_
  refine rvS ?_
  refine rvS ?_
  refine rvP C (.pv (.lit (.bool false))) ?_
  refine rvP C (.pv (.lit (.bool false))) ?_
  refine rvc_nil ?_
  refine Awp.ret ?_
  subst hR
  exact ⟨.inl rfl, rfl⟩
end Go.Proofs.Ytihccnkegkkikaa
/- Laws. No conditions. -/
namespace Go.Proofs.Ytihccnkegkkikaa
open Go.Am
def lawDirect_l2 (w : (Nat → (Nat → Int))) (da : (Nat → (Nat → Int)) × Int) (i : Nat) (i1 : Nat) (kk : Bool) : Nat → Nat → Bool
  | 0, _ => kk 
  | k2 + 1, i2 => (bif (decide (((da.1 i) i1) > ((w i) i1))) then false else (bif (decide (((da.1 i) i1) > (IntKind.i64.wrap (((da.1 i) i2) + ((da.1 i2) i1))))) then false else lawDirect_l2 w da i i1 kk k2 (i2 + 1) ))
def lawDirect_l1 (w : (Nat → (Nat → Int))) (da : (Nat → (Nat → Int)) × Int) (i : Nat) (kk : Bool) : Nat → Nat → Bool
  | 0, _ => kk 
  | k1 + 1, i1 => lawDirect_l2 w da i i1 (lawDirect_l1 w da i kk k1 (i1 + 1) ) 3 0
def lawDirect_l0 (w : (Nat → (Nat → Int))) (da : (Nat → (Nat → Int)) × Int) : Nat → Nat → Bool
  | 0, _ => (awake )
  | k + 1, i => lawDirect_l1 w da i (lawDirect_l0 w da k (i + 1) ) 3 0
def lawDirect (w : (Nat → (Nat → Int))) : Bool :=
  (bif ((direct w).2 != 0) then (bif ((((((direct w).1 0) 0) == 0) && (((((direct w).1 0) 1) == 0) && (((((direct w).1 0) 2) == 0) && true))) && ((((((direct w).1 1) 0) == 0) && (((((direct w).1 1) 1) == 0) && (((((direct w).1 1) 2) == 0) && true))) && ((((((direct w).1 2) 0) == 0) && (((((direct w).1 2) 1) == 0) && (((((direct w).1 2) 2) == 0) && true))) && true))) then (awake ) else false) else (bif ((wayCheck (direct w).1) != 0) then false else lawDirect_l0 w (direct w) 3 0 ))
theorem lawDirect_calls (w : (Nat → (Nat → Int)))  : PCalls Try.prog 7 [.agg [.pv (.lit (.int .i64 ((w 0) 0))), .pv (.lit (.int .i64 ((w 0) 1))), .pv (.lit (.int .i64 ((w 0) 2))), .pv (.lit (.int .i64 ((w 1) 0))), .pv (.lit (.int .i64 ((w 1) 1))), .pv (.lit (.int .i64 ((w 1) 2))), .pv (.lit (.int .i64 ((w 2) 0))), .pv (.lit (.int .i64 ((w 2) 1))), .pv (.lit (.int .i64 ((w 2) 2)))]] (.pv (.lit (.bool (lawDirect w)))) := by
 generalize hR : lawDirect w = R
 refine PCalls.of_body tabOk Try.func7 rfl rfl rfl rfl rfl mixed fun E hP C hI => ?_
 refine Awp.consP C ?_
 refine rvc_un (rexec_prim C (δ := { v := .ptr 1 0, new := [(1, .cells [.pv (.lit (.int .i64 ((w 0) 0))), .pv (.lit (.int .i64 ((w 0) 1))), .pv (.lit (.int .i64 ((w 0) 2))), .pv (.lit (.int .i64 ((w 1) 0))), .pv (.lit (.int .i64 ((w 1) 1))), .pv (.lit (.int .i64 ((w 1) 2))), .pv (.lit (.int .i64 ((w 2) 0))), .pv (.lit (.int .i64 ((w 2) 1))), .pv (.lit (.int .i64 ((w 2) 2)))])] }) rfl rfl rfl rfl trivial rfl ?_)
 refine rvP C (.pv (.lit (.bool false))) ?_
 refine rvc_nil ?_
 refine Awp.consP C ?_
 refine rvP C (.agg [.pv (.lit (.int .i64 ((w 0) 0))), .pv (.lit (.int .i64 ((w 0) 1))), .pv (.lit (.int .i64 ((w 0) 2))), .pv (.lit (.int .i64 ((w 1) 0))), .pv (.lit (.int .i64 ((w 1) 1))), .pv (.lit (.int .i64 ((w 1) 2))), .pv (.lit (.int .i64 ((w 2) 0))), .pv (.lit (.int .i64 ((w 2) 1))), .pv (.lit (.int .i64 ((w 2) 2)))]) ?_
 obtain ⟨da, hq_da⟩ : ∃ q_, q_ = (direct w) := ⟨_, rfl⟩
 have hc_da := (direct_calls w)
 first | rw [← hq_da] at hR hc_da | (unfold lawDirect at hR; rw [← hq_da] at hR hc_da)
 refine rvc_un (rexec_call hP C rfl rfl rfl hc_da ?_)
 refine rvP C (.tup [.agg [.pv (.lit (.int .i64 ((da.1 0) 0))), .pv (.lit (.int .i64 ((da.1 0) 1))), .pv (.lit (.int .i64 ((da.1 0) 2))), .pv (.lit (.int .i64 ((da.1 1) 0))), .pv (.lit (.int .i64 ((da.1 1) 1))), .pv (.lit (.int .i64 ((da.1 1) 2))), .pv (.lit (.int .i64 ((da.1 2) 0))), .pv (.lit (.int .i64 ((da.1 2) 1))), .pv (.lit (.int .i64 ((da.1 2) 2)))], .pv (.lit (.int .i64 da.2))]) ?_
 refine rvP C (.agg [.pv (.lit (.int .i64 ((da.1 0) 0))), .pv (.lit (.int .i64 ((da.1 0) 1))), .pv (.lit (.int .i64 ((da.1 0) 2))), .pv (.lit (.int .i64 ((da.1 1) 0))), .pv (.lit (.int .i64 ((da.1 1) 1))), .pv (.lit (.int .i64 ((da.1 1) 2))), .pv (.lit (.int .i64 ((da.1 2) 0))), .pv (.lit (.int .i64 ((da.1 2) 1))), .pv (.lit (.int .i64 ((da.1 2) 2)))]) ?_
 refine rvP C (.pv (.lit (.int .i64 da.2))) ?_
 refine rvc_un (rexec_prim C (δ := { v := .ptr 3 0, new := [(3, .cells [.pv (.lit (.int .i64 0)), .pv (.lit (.int .i64 0)), .pv (.lit (.int .i64 0)), .pv (.lit (.int .i64 0)), .pv (.lit (.int .i64 0)), .pv (.lit (.int .i64 0)), .pv (.lit (.int .i64 0)), .pv (.lit (.int .i64 0)), .pv (.lit (.int .i64 0))])] }) rfl rfl rfl rfl trivial rfl ?_)
 refine rvc_un (rexec_prim C (δ := { v := .undef, wr := [(3, some (.cells [.pv (.lit (.int .i64 ((da.1 0) 0))), .pv (.lit (.int .i64 ((da.1 0) 1))), .pv (.lit (.int .i64 ((da.1 0) 2))), .pv (.lit (.int .i64 ((da.1 1) 0))), .pv (.lit (.int .i64 ((da.1 1) 1))), .pv (.lit (.int .i64 ((da.1 1) 2))), .pv (.lit (.int .i64 ((da.1 2) 0))), .pv (.lit (.int .i64 ((da.1 2) 1))), .pv (.lit (.int .i64 ((da.1 2) 2)))]))] }) rfl rfl rfl rfl trivial rfl ?_)
 refine rvP C (.pv (.lit (.int .i64 da.2))) ?_
 refine rvc_nil ?_
 refine Awp.seq ?_
 refine Awp.consP C ?_
 refine rvP C (.pv (.lit (.int .i64 da.2))) ?_
 refine rvP C (.pv (.lit (.bool (da.2 != 0)))) ?_
 refine rvc_nil ?_
 refine Awp.cond (b := (da.2 != 0)) rfl (fun h1 => ?_) (fun h1 => ?_)
 ·
  replace hR := of_true h1 hR
  refine Awp.consP C ?_
  refine rvP C (.agg [.pv (.lit (.int .i64 ((da.1 0) 0))), .pv (.lit (.int .i64 ((da.1 0) 1))), .pv (.lit (.int .i64 ((da.1 0) 2))), .pv (.lit (.int .i64 ((da.1 1) 0))), .pv (.lit (.int .i64 ((da.1 1) 1))), .pv (.lit (.int .i64 ((da.1 1) 2))), .pv (.lit (.int .i64 ((da.1 2) 0))), .pv (.lit (.int .i64 ((da.1 2) 1))), .pv (.lit (.int .i64 ((da.1 2) 2)))]) ?_
  refine rvP C (.agg [.pv (.lit (.int .i64 0)), .pv (.lit (.int .i64 0)), .pv (.lit (.int .i64 0)), .pv (.lit (.int .i64 0)), .pv (.lit (.int .i64 0)), .pv (.lit (.int .i64 0)), .pv (.lit (.int .i64 0)), .pv (.lit (.int .i64 0)), .pv (.lit (.int .i64 0))]) ?_
  refine rvP C (.pv (.lit (.bool (((((da.1 0) 0) == 0) && ((((da.1 0) 1) == 0) && ((((da.1 0) 2) == 0) && true))) && (((((da.1 1) 0) == 0) && ((((da.1 1) 1) == 0) && ((((da.1 1) 2) == 0) && true))) && (((((da.1 2) 0) == 0) && ((((da.1 2) 1) == 0) && ((((da.1 2) 2) == 0) && true))) && true)))))) ?_
  refine rvP C (.pv (.lit (.bool (((((da.1 0) 0) == 0) && ((((da.1 0) 1) == 0) && ((((da.1 0) 2) == 0) && true))) && (((((da.1 1) 0) == 0) && ((((da.1 1) 1) == 0) && ((((da.1 1) 2) == 0) && true))) && (((((da.1 2) 0) == 0) && ((((da.1 2) 1) == 0) && ((((da.1 2) 2) == 0) && true))) && true)))))) ?_
  refine rvc_case 18 (((((da.1 0) 0) == 0) && ((((da.1 0) 1) == 0) && ((((da.1 0) 2) == 0) && true))) && (((((da.1 1) 0) == 0) && ((((da.1 1) 1) == 0) && ((((da.1 1) 2) == 0) && true))) && (((((da.1 2) 0) == 0) && ((((da.1 2) 1) == 0) && ((((da.1 2) 2) == 0) && true))) && true))) rfl (fun h2 => ?_) (fun h2 => ?_)
  ·
   replace hR := of_true h2 hR
   obtain ⟨aw, hq_aw⟩ : ∃ q_, q_ = (awake ) := ⟨_, rfl⟩
   have hc_aw := (awake_calls )
   first | rw [← hq_aw] at hR hc_aw | (unfold lawDirect at hR; rw [← hq_aw] at hR hc_aw)
   refine rvc_open rfl rfl rfl (rexec_call hP C rfl rfl rfl hc_aw ?_)
   refine rvP C (.pv (.lit (.bool aw))) ?_
   refine rvP C (.pv (.lit (.bool aw))) ?_
   refine rvc_nil ?_
   refine Awp.ret ?_
   subst hR
   exact ⟨.inl rfl, rfl⟩
  ·
   replace hR := of_false h2 hR
   refine rvS ?_
   refine rvP C (.pv (.lit (.bool false))) ?_
   refine rvP C (.pv (.lit (.bool false))) ?_
   refine rvc_nil ?_
   refine Awp.ret ?_
   subst hR
   exact ⟨.inl rfl, rfl⟩
 ·
  replace hR := of_false h1 hR
  refine Awp.skip ?_
  refine Awp.seq ?_
  refine Awp.consP C ?_
  refine rvP C (.agg [.pv (.lit (.int .i64 ((da.1 0) 0))), .pv (.lit (.int .i64 ((da.1 0) 1))), .pv (.lit (.int .i64 ((da.1 0) 2))), .pv (.lit (.int .i64 ((da.1 1) 0))), .pv (.lit (.int .i64 ((da.1 1) 1))), .pv (.lit (.int .i64 ((da.1 1) 2))), .pv (.lit (.int .i64 ((da.1 2) 0))), .pv (.lit (.int .i64 ((da.1 2) 1))), .pv (.lit (.int .i64 ((da.1 2) 2)))]) ?_
  obtain ⟨ca, hq_ca⟩ : ∃ q_, q_ = (wayCheck da.1) := ⟨_, rfl⟩
  have hc_ca := (wayCheck_calls da.1)
  first | rw [← hq_ca] at hR hc_ca | (unfold lawDirect at hR; rw [← hq_ca] at hR hc_ca)
  refine rvc_un (rexec_call hP C rfl rfl rfl hc_ca ?_)
  refine rvP C (.pv (.lit (.bool (ca != 0)))) ?_
  refine rvc_nil ?_
  refine Awp.cond (b := (ca != 0)) rfl (fun h3 => ?_) (fun h3 => ?_)
  ·
   replace hR := of_true h3 hR
   refine Awp.consP C ?_
   refine rvP C (.pv (.lit (.bool false))) ?_
   refine rvc_nil ?_
   refine Awp.ret ?_
   subst hR
   exact ⟨.inl rfl, rfl⟩
  ·
   replace hR := of_false h3 hR
   refine Awp.skip ?_
   refine Awp.seq ?_
   refine Awp.consP C ?_
   refine rvP C (.pv (.lit (.int .i64 0))) ?_
   refine rvc_nil ?_
   refine Awp.block ?_
   refine Awp.forR (σ := Unit) (3) (fun i _v => [(1, .ptr 1 0), (3, .ptr 3 0), (24, .pv (.lit (.int .i64 (i : Int))))]) (fun i _v => [(1, .cells [.pv (.lit (.int .i64 ((w 0) 0))), .pv (.lit (.int .i64 ((w 0) 1))), .pv (.lit (.int .i64 ((w 0) 2))), .pv (.lit (.int .i64 ((w 1) 0))), .pv (.lit (.int .i64 ((w 1) 1))), .pv (.lit (.int .i64 ((w 1) 2))), .pv (.lit (.int .i64 ((w 2) 0))), .pv (.lit (.int .i64 ((w 2) 1))), .pv (.lit (.int .i64 ((w 2) 2)))]), (3, .cells [.pv (.lit (.int .i64 ((da.1 0) 0))), .pv (.lit (.int .i64 ((da.1 0) 1))), .pv (.lit (.int .i64 ((da.1 0) 2))), .pv (.lit (.int .i64 ((da.1 1) 0))), .pv (.lit (.int .i64 ((da.1 1) 1))), .pv (.lit (.int .i64 ((da.1 1) 2))), .pv (.lit (.int .i64 ((da.1 2) 0))), .pv (.lit (.int .i64 ((da.1 2) 1))), .pv (.lit (.int .i64 ((da.1 2) 2)))])]) [1, 3] (fun i _v => lawDirect_l0 w da (3 - i) i  = R) () ?_ ?_ (fun i _v h4 hR => ?_)
   · exact hR
   · exact ⟨fun b => b, WeakerR.ofL (Ks := [1, 3]) hI ⟨⟨rfl, rfl⟩, ⟨rfl, rfl⟩, ⟨rfl, rfl⟩, trivial⟩ (okH_cons rfl rfl rfl rfl (okH_cons rfl rfl rfl rfl (okH_nil))) rfl⟩
   refine Awp.consP C ?_
   refine rvP C (.pv (.lit (.bool (decide ((i : Int) < 3))))) ?_
   refine rvc_nil ?_
   refine Awp.seq ?_
   refine Awp.cond (b := (decide ((i : Int) < 3))) rfl (fun h5 => ?_) (fun h5 => ?_)
   ·
    have h6 : i < 3 := by have := of_decide_eq_true h5; omega
    obtain ⟨k, h7⟩ : ∃ k, 3 - i = k + 1 := ⟨3 - i - 1, by omega⟩
    rw [h7] at hR
    refine Awp.skip ?_
    refine Awp.seq ?_
    refine Awp.block ?_
    refine Awp.consP C ?_
    refine rvP C (.pv (.lit (.int .i64 (i : Int)))) ?_
    refine rvP C (.pv (.lit (.int .i64 (i : Int)))) ?_
    refine rvc_nil ?_
    refine Awp.consP C ?_
    refine rvP C (.pv (.lit (.int .i64 0))) ?_
    refine rvc_nil ?_
    refine Awp.block ?_
    refine Awp.forR (σ := Unit) (3) (fun i1 _v => [(1, .ptr 1 0), (3, .ptr 3 0), (5, .pv (.lit (.int .i64 (i : Int)))), (24, .pv (.lit (.int .i64 (i : Int)))), (27, .pv (.lit (.int .i64 (i1 : Int))))]) (fun i1 _v => [(1, .cells [.pv (.lit (.int .i64 ((w 0) 0))), .pv (.lit (.int .i64 ((w 0) 1))), .pv (.lit (.int .i64 ((w 0) 2))), .pv (.lit (.int .i64 ((w 1) 0))), .pv (.lit (.int .i64 ((w 1) 1))), .pv (.lit (.int .i64 ((w 1) 2))), .pv (.lit (.int .i64 ((w 2) 0))), .pv (.lit (.int .i64 ((w 2) 1))), .pv (.lit (.int .i64 ((w 2) 2)))]), (3, .cells [.pv (.lit (.int .i64 ((da.1 0) 0))), .pv (.lit (.int .i64 ((da.1 0) 1))), .pv (.lit (.int .i64 ((da.1 0) 2))), .pv (.lit (.int .i64 ((da.1 1) 0))), .pv (.lit (.int .i64 ((da.1 1) 1))), .pv (.lit (.int .i64 ((da.1 1) 2))), .pv (.lit (.int .i64 ((da.1 2) 0))), .pv (.lit (.int .i64 ((da.1 2) 1))), .pv (.lit (.int .i64 ((da.1 2) 2)))])]) [1, 3] (fun i1 _v => lawDirect_l1 w da i (lawDirect_l0 w da k (i + 1) ) (3 - i1) i1  = R) () ?_ ?_ (fun i1 _v h8 hR => ?_)
    · exact hR
    · exact ⟨fun b => b, WeakerR.ofL (Ks := [1, 3]) hI ⟨⟨rfl, rfl⟩, ⟨rfl, rfl⟩, ⟨rfl, rfl⟩, ⟨rfl, rfl⟩, ⟨rfl, rfl⟩, trivial⟩ (okH_cons rfl rfl rfl rfl (okH_cons rfl rfl rfl rfl (okH_nil))) rfl⟩
    refine Awp.consP C ?_
    refine rvP C (.pv (.lit (.bool (decide ((i1 : Int) < 3))))) ?_
    refine rvc_nil ?_
    refine Awp.seq ?_
    refine Awp.cond (b := (decide ((i1 : Int) < 3))) rfl (fun h9 => ?_) (fun h9 => ?_)
    ·
     have h10 : i1 < 3 := by have := of_decide_eq_true h9; omega
     obtain ⟨k1, h11⟩ : ∃ k, 3 - i1 = k + 1 := ⟨3 - i1 - 1, by omega⟩
     rw [h11] at hR
     refine Awp.skip ?_
     refine Awp.seq ?_
     refine Awp.block ?_
     refine Awp.consP C ?_
     refine rvP C (.pv (.lit (.int .i64 (i1 : Int)))) ?_
     refine rvP C (.pv (.lit (.int .i64 (i1 : Int)))) ?_
     refine rvc_nil ?_
     refine Awp.consP C ?_
     refine rvP C (.pv (.lit (.int .i64 0))) ?_
     refine rvc_nil ?_
     refine Awp.block ?_
     refine Awp.forR (σ := Unit) (3) (fun i2 _v => [(1, .ptr 1 0), (3, .ptr 3 0), (5, .pv (.lit (.int .i64 (i : Int)))), (6, .pv (.lit (.int .i64 (i1 : Int)))), (24, .pv (.lit (.int .i64 (i : Int)))), (27, .pv (.lit (.int .i64 (i1 : Int)))), (30, .pv (.lit (.int .i64 (i2 : Int))))]) (fun i2 _v => [(1, .cells [.pv (.lit (.int .i64 ((w 0) 0))), .pv (.lit (.int .i64 ((w 0) 1))), .pv (.lit (.int .i64 ((w 0) 2))), .pv (.lit (.int .i64 ((w 1) 0))), .pv (.lit (.int .i64 ((w 1) 1))), .pv (.lit (.int .i64 ((w 1) 2))), .pv (.lit (.int .i64 ((w 2) 0))), .pv (.lit (.int .i64 ((w 2) 1))), .pv (.lit (.int .i64 ((w 2) 2)))]), (3, .cells [.pv (.lit (.int .i64 ((da.1 0) 0))), .pv (.lit (.int .i64 ((da.1 0) 1))), .pv (.lit (.int .i64 ((da.1 0) 2))), .pv (.lit (.int .i64 ((da.1 1) 0))), .pv (.lit (.int .i64 ((da.1 1) 1))), .pv (.lit (.int .i64 ((da.1 1) 2))), .pv (.lit (.int .i64 ((da.1 2) 0))), .pv (.lit (.int .i64 ((da.1 2) 1))), .pv (.lit (.int .i64 ((da.1 2) 2)))])]) [1, 3] (fun i2 _v => lawDirect_l2 w da i i1 (lawDirect_l1 w da i (lawDirect_l0 w da k (i + 1) ) k1 (i1 + 1) ) (3 - i2) i2  = R) () ?_ ?_ (fun i2 _v h12 hR => ?_)
     · exact hR
     · exact ⟨fun b => b, WeakerR.ofL (Ks := [1, 3]) hI ⟨⟨rfl, rfl⟩, ⟨rfl, rfl⟩, ⟨rfl, rfl⟩, ⟨rfl, rfl⟩, ⟨rfl, rfl⟩, ⟨rfl, rfl⟩, ⟨rfl, rfl⟩, trivial⟩ (okH_cons rfl rfl rfl rfl (okH_cons rfl rfl rfl rfl (okH_nil))) rfl⟩
     refine Awp.consP C ?_
     refine rvP C (.pv (.lit (.bool (decide ((i2 : Int) < 3))))) ?_
     refine rvc_nil ?_
     refine Awp.seq ?_
     refine Awp.cond (b := (decide ((i2 : Int) < 3))) rfl (fun h13 => ?_) (fun h13 => ?_)
     ·
      have h14 : i2 < 3 := by have := of_decide_eq_true h13; omega
      obtain ⟨k2, h15⟩ : ∃ k, 3 - i2 = k + 1 := ⟨3 - i2 - 1, by omega⟩
      rw [h15] at hR
      refine Awp.skip ?_
      refine Awp.seq ?_
      refine Awp.block ?_
      refine Awp.consP C ?_
      refine rvP C (.pv (.lit (.int .i64 (i2 : Int)))) ?_
      refine rvP C (.pv (.lit (.int .i64 (i2 : Int)))) ?_
      refine rvc_nil ?_
      refine Awp.consP C ?_
      refine rvP C (.pv (.lit (.int .i64 (i : Int)))) ?_
      refine rvP C (.pv (.lit (.int .i64 (i1 : Int)))) ?_
      refine rvc_un (rexec_prim C (δ := { v := .ptr 3 (0 + i * 3) }) rfl rfl rfl rfl ⟨(by have := eq_of_bne_false h1; have := eq_of_bne_false h3; have := of_decide_eq_true h5; have := of_decide_eq_true h9; have := of_decide_eq_true h13; omega), (by have := eq_of_bne_false h1; have := eq_of_bne_false h3; have := of_decide_eq_true h5; have := of_decide_eq_true h9; have := of_decide_eq_true h13; omega)⟩ rfl ?_)
      refine rvc_un (rexec_prim C (δ := { v := .ptr 3 (0 + i * 3 + i1 * 1) }) rfl rfl rfl rfl ⟨(by have := eq_of_bne_false h1; have := eq_of_bne_false h3; have := of_decide_eq_true h5; have := of_decide_eq_true h9; have := of_decide_eq_true h13; omega), (by have := eq_of_bne_false h1; have := eq_of_bne_false h3; have := of_decide_eq_true h5; have := of_decide_eq_true h9; have := of_decide_eq_true h13; omega)⟩ rfl ?_)
      refine rvc_un (rexec_load33 C (fun p q => .pv (.lit (.int .i64 ((da.1 p) q)))) i i1 (.pv (.lit (.int .i64 ((da.1 i) i1)))) rfl rfl rfl rfl rfl rfl rfl (by have := eq_of_bne_false h1; have := eq_of_bne_false h3; have := of_decide_eq_true h5; have := of_decide_eq_true h9; have := of_decide_eq_true h13; omega) (by have := eq_of_bne_false h1; have := eq_of_bne_false h3; have := of_decide_eq_true h5; have := of_decide_eq_true h9; have := of_decide_eq_true h13; omega) rfl ?_)
      refine rvP C (.pv (.lit (.int .i64 (i : Int)))) ?_
      refine rvP C (.pv (.lit (.int .i64 (i1 : Int)))) ?_
      refine rvc_un (rexec_prim C (δ := { v := .ptr 1 (0 + i * 3) }) rfl rfl rfl rfl ⟨(by have := eq_of_bne_false h1; have := eq_of_bne_false h3; have := of_decide_eq_true h5; have := of_decide_eq_true h9; have := of_decide_eq_true h13; omega), (by have := eq_of_bne_false h1; have := eq_of_bne_false h3; have := of_decide_eq_true h5; have := of_decide_eq_true h9; have := of_decide_eq_true h13; omega)⟩ rfl ?_)
      refine rvc_un (rexec_prim C (δ := { v := .ptr 1 (0 + i * 3 + i1 * 1) }) rfl rfl rfl rfl ⟨(by have := eq_of_bne_false h1; have := eq_of_bne_false h3; have := of_decide_eq_true h5; have := of_decide_eq_true h9; have := of_decide_eq_true h13; omega), (by have := eq_of_bne_false h1; have := eq_of_bne_false h3; have := of_decide_eq_true h5; have := of_decide_eq_true h9; have := of_decide_eq_true h13; omega)⟩ rfl ?_)
      refine rvc_un (rexec_load33 C (fun p q => .pv (.lit (.int .i64 ((w p) q)))) i i1 (.pv (.lit (.int .i64 ((w i) i1)))) rfl rfl rfl rfl rfl rfl rfl (by have := eq_of_bne_false h1; have := eq_of_bne_false h3; have := of_decide_eq_true h5; have := of_decide_eq_true h9; have := of_decide_eq_true h13; omega) (by have := eq_of_bne_false h1; have := eq_of_bne_false h3; have := of_decide_eq_true h5; have := of_decide_eq_true h9; have := of_decide_eq_true h13; omega) rfl ?_)
      refine rvP C (.pv (.lit (.bool (decide (((da.1 i) i1) > ((w i) i1)))))) ?_
      refine rvP C (.pv (.lit (.bool (decide (((da.1 i) i1) > ((w i) i1)))))) ?_
      refine rvc_case 44 (decide (((da.1 i) i1) > ((w i) i1))) rfl (fun h16 => ?_) (fun h16 => ?_)
      ·
       replace hR := of_true h16 hR
       refine rvS ?_
       refine rvS ?_
       refine rvS ?_
       refine rvS ?_
       refine rvS ?_
       refine rvS ?_
       refine rvS ?_
       refine rvS ?_
       refine rvS ?_
       refine rvS ?_
       refine rvS ?_
       refine rvS ?_
       refine rvS ?_
       refine rvS ?_
       refine rvS ?_
       refine rvS ?_
       refine rvS ?_
       refine rvP C (.pv (.lit (.bool true))) ?_
       refine rvc_nil ?_
       refine Awp.condT (b := true) rfl rfl ?_
       refine Awp.consP C ?_
       refine rvP C (.pv (.lit (.bool false))) ?_
       refine rvc_nil ?_
       refine Awp.ret ?_
       subst hR
       exact ⟨.inl rfl, rfl⟩
      ·
       replace hR := of_false h16 hR
       refine rvO C (.pv (.lit (.int .i64 (i : Int)))) ?_
       refine rvO C (.pv (.lit (.int .i64 (i1 : Int)))) ?_
       refine rvc_open rfl rfl rfl (rexec_prim C (δ := { v := .ptr 3 (0 + i * 3) }) rfl rfl rfl rfl ⟨(by have := eq_of_bne_false h1; have := eq_of_bne_false h3; have := of_decide_eq_true h5; have := of_decide_eq_true h9; have := of_decide_eq_true h13; have := of_decide_eq_false h16; omega), (by have := eq_of_bne_false h1; have := eq_of_bne_false h3; have := of_decide_eq_true h5; have := of_decide_eq_true h9; have := of_decide_eq_true h13; have := of_decide_eq_false h16; omega)⟩ rfl ?_)
       refine rvc_open rfl rfl rfl (rexec_prim C (δ := { v := .ptr 3 (0 + i * 3 + i1 * 1) }) rfl rfl rfl rfl ⟨(by have := eq_of_bne_false h1; have := eq_of_bne_false h3; have := of_decide_eq_true h5; have := of_decide_eq_true h9; have := of_decide_eq_true h13; have := of_decide_eq_false h16; omega), (by have := eq_of_bne_false h1; have := eq_of_bne_false h3; have := of_decide_eq_true h5; have := of_decide_eq_true h9; have := of_decide_eq_true h13; have := of_decide_eq_false h16; omega)⟩ rfl ?_)
       refine rvc_open rfl rfl rfl (rexec_load33 C (fun p q => .pv (.lit (.int .i64 ((da.1 p) q)))) i i1 (.pv (.lit (.int .i64 ((da.1 i) i1)))) rfl rfl rfl rfl rfl rfl rfl (by have := eq_of_bne_false h1; have := eq_of_bne_false h3; have := of_decide_eq_true h5; have := of_decide_eq_true h9; have := of_decide_eq_true h13; have := of_decide_eq_false h16; omega) (by have := eq_of_bne_false h1; have := eq_of_bne_false h3; have := of_decide_eq_true h5; have := of_decide_eq_true h9; have := of_decide_eq_true h13; have := of_decide_eq_false h16; omega) rfl ?_)
       refine rvO C (.pv (.lit (.int .i64 (i : Int)))) ?_
       refine rvO C (.pv (.lit (.int .i64 (i2 : Int)))) ?_
       refine rvc_open rfl rfl rfl (rexec_prim C (δ := { v := .ptr 3 (0 + i * 3) }) rfl rfl rfl rfl ⟨(by have := eq_of_bne_false h1; have := eq_of_bne_false h3; have := of_decide_eq_true h5; have := of_decide_eq_true h9; have := of_decide_eq_true h13; have := of_decide_eq_false h16; omega), (by have := eq_of_bne_false h1; have := eq_of_bne_false h3; have := of_decide_eq_true h5; have := of_decide_eq_true h9; have := of_decide_eq_true h13; have := of_decide_eq_false h16; omega)⟩ rfl ?_)
       refine rvc_open rfl rfl rfl (rexec_prim C (δ := { v := .ptr 3 (0 + i * 3 + i2 * 1) }) rfl rfl rfl rfl ⟨(by have := eq_of_bne_false h1; have := eq_of_bne_false h3; have := of_decide_eq_true h5; have := of_decide_eq_true h9; have := of_decide_eq_true h13; have := of_decide_eq_false h16; omega), (by have := eq_of_bne_false h1; have := eq_of_bne_false h3; have := of_decide_eq_true h5; have := of_decide_eq_true h9; have := of_decide_eq_true h13; have := of_decide_eq_false h16; omega)⟩ rfl ?_)
       refine rvc_open rfl rfl rfl (rexec_load33 C (fun p q => .pv (.lit (.int .i64 ((da.1 p) q)))) i i2 (.pv (.lit (.int .i64 ((da.1 i) i2)))) rfl rfl rfl rfl rfl rfl rfl (by have := eq_of_bne_false h1; have := eq_of_bne_false h3; have := of_decide_eq_true h5; have := of_decide_eq_true h9; have := of_decide_eq_true h13; have := of_decide_eq_false h16; omega) (by have := eq_of_bne_false h1; have := eq_of_bne_false h3; have := of_decide_eq_true h5; have := of_decide_eq_true h9; have := of_decide_eq_true h13; have := of_decide_eq_false h16; omega) rfl ?_)
       refine rvO C (.pv (.lit (.int .i64 (i2 : Int)))) ?_
       refine rvO C (.pv (.lit (.int .i64 (i1 : Int)))) ?_
       refine rvc_open rfl rfl rfl (rexec_prim C (δ := { v := .ptr 3 (0 + i2 * 3) }) rfl rfl rfl rfl ⟨(by have := eq_of_bne_false h1; have := eq_of_bne_false h3; have := of_decide_eq_true h5; have := of_decide_eq_true h9; have := of_decide_eq_true h13; have := of_decide_eq_false h16; omega), (by have := eq_of_bne_false h1; have := eq_of_bne_false h3; have := of_decide_eq_true h5; have := of_decide_eq_true h9; have := of_decide_eq_true h13; have := of_decide_eq_false h16; omega)⟩ rfl ?_)
       refine rvc_open rfl rfl rfl (rexec_prim C (δ := { v := .ptr 3 (0 + i2 * 3 + i1 * 1) }) rfl rfl rfl rfl ⟨(by have := eq_of_bne_false h1; have := eq_of_bne_false h3; have := of_decide_eq_true h5; have := of_decide_eq_true h9; have := of_decide_eq_true h13; have := of_decide_eq_false h16; omega), (by have := eq_of_bne_false h1; have := eq_of_bne_false h3; have := of_decide_eq_true h5; have := of_decide_eq_true h9; have := of_decide_eq_true h13; have := of_decide_eq_false h16; omega)⟩ rfl ?_)
       refine rvc_open rfl rfl rfl (rexec_load33 C (fun p q => .pv (.lit (.int .i64 ((da.1 p) q)))) i2 i1 (.pv (.lit (.int .i64 ((da.1 i2) i1)))) rfl rfl rfl rfl rfl rfl rfl (by have := eq_of_bne_false h1; have := eq_of_bne_false h3; have := of_decide_eq_true h5; have := of_decide_eq_true h9; have := of_decide_eq_true h13; have := of_decide_eq_false h16; omega) (by have := eq_of_bne_false h1; have := eq_of_bne_false h3; have := of_decide_eq_true h5; have := of_decide_eq_true h9; have := of_decide_eq_true h13; have := of_decide_eq_false h16; omega) rfl ?_)
       refine rvO C (.pv (.lit (.int .i64 (IntKind.i64.wrap (((da.1 i) i2) + ((da.1 i2) i1)))))) ?_
       refine rvO C (.pv (.lit (.bool (decide (((da.1 i) i1) > (IntKind.i64.wrap (((da.1 i) i2) + ((da.1 i2) i1)))))))) ?_
       refine rvP C (.pv (.lit (.bool (decide (((da.1 i) i1) > (IntKind.i64.wrap (((da.1 i) i2) + ((da.1 i2) i1)))))))) ?_
       refine rvc_nil ?_
       refine Awp.cond (b := (decide (((da.1 i) i1) > (IntKind.i64.wrap (((da.1 i) i2) + ((da.1 i2) i1)))))) rfl (fun h17 => ?_) (fun h17 => ?_)
       ·
        replace hR := of_true h17 hR
        refine Awp.consP C ?_
        refine rvP C (.pv (.lit (.bool false))) ?_
        refine rvc_nil ?_
        refine Awp.ret ?_
        subst hR
        exact ⟨.inl rfl, rfl⟩
       ·
        replace hR := of_false h17 hR
        refine Awp.skip ?_
        refine Awp.regionP C ?_
        refine rvP C (.pv (.lit (.int .i64 (IntKind.i64.wrap ((i2 : Int) + 1))))) ?_
        refine rvP C (.pv (.lit (.int .i64 (IntKind.i64.wrap ((i2 : Int) + 1))))) ?_
        refine rvc_nil ?_
        refine ⟨h14, (), ?_, ?_⟩
        · exact (by rw [show 3 - (i2 + 1) = k2 by omega]; exact hR)
        · exact ⟨fun b => b, WeakerR.ofL (Ks := [1, 3]) hI ⟨⟨rfl, rfl⟩, ⟨rfl, rfl⟩, ⟨rfl, rfl⟩, ⟨rfl, rfl⟩, ⟨rfl, rfl⟩, ⟨rfl, rfl⟩, ⟨lit_cast (wrap_i64 (by omega) (by omega)), rfl⟩, trivial⟩ (okH_cons rfl rfl rfl rfl (okH_cons rfl rfl rfl rfl (okH_nil))) rfl⟩
     ·
      rw [show 3 - i2 = 0 by have := of_decide_eq_false h13; omega] at hR
      refine Awp.exit ?_
      refine Awp.regionP C ?_
      refine rvP C (.pv (.lit (.int .i64 (IntKind.i64.wrap ((i1 : Int) + 1))))) ?_
      refine rvP C (.pv (.lit (.int .i64 (IntKind.i64.wrap ((i1 : Int) + 1))))) ?_
      refine rvc_nil ?_
      refine ⟨h10, (), ?_, ?_⟩
      · exact (by rw [show 3 - (i1 + 1) = k1 by omega]; exact hR)
      · exact ⟨fun b => b, WeakerR.ofL (Ks := [1, 3]) hI ⟨⟨rfl, rfl⟩, ⟨rfl, rfl⟩, ⟨rfl, rfl⟩, ⟨rfl, rfl⟩, ⟨lit_cast (wrap_i64 (by omega) (by omega)), rfl⟩, trivial⟩ (okH_cons rfl rfl rfl rfl (okH_cons rfl rfl rfl rfl (okH_nil))) rfl⟩
    ·
     rw [show 3 - i1 = 0 by have := of_decide_eq_false h9; omega] at hR
     refine Awp.exit ?_
     refine Awp.regionP C ?_
     refine rvP C (.pv (.lit (.int .i64 (IntKind.i64.wrap ((i : Int) + 1))))) ?_
     refine rvP C (.pv (.lit (.int .i64 (IntKind.i64.wrap ((i : Int) + 1))))) ?_
     refine rvc_nil ?_
     refine ⟨h6, (), ?_, ?_⟩
     · exact (by rw [show 3 - (i + 1) = k by omega]; exact hR)
     · exact ⟨fun b => b, WeakerR.ofL (Ks := [1, 3]) hI ⟨⟨rfl, rfl⟩, ⟨rfl, rfl⟩, ⟨lit_cast (wrap_i64 (by omega) (by omega)), rfl⟩, trivial⟩ (okH_cons rfl rfl rfl rfl (okH_cons rfl rfl rfl rfl (okH_nil))) rfl⟩
   ·
    rw [show 3 - i = 0 by have := of_decide_eq_false h5; omega] at hR
    refine Awp.exit ?_
    refine Awp.consP C ?_
    obtain ⟨aw1, hq_aw1⟩ : ∃ q_, q_ = (awake ) := ⟨_, rfl⟩
    have hc_aw1 := (awake_calls )
    first | rw [← hq_aw1] at hR hc_aw1 | (unfold lawDirect at hR; rw [← hq_aw1] at hR hc_aw1) | (unfold lawDirect_l0 at hR; rw [← hq_aw1] at hR hc_aw1) | (unfold lawDirect_l1 at hR; rw [← hq_aw1] at hR hc_aw1) | (unfold lawDirect_l2 at hR; rw [← hq_aw1] at hR hc_aw1)
    refine rvc_un (rexec_call hP C rfl rfl rfl hc_aw1 ?_)
    refine rvP C (.pv (.lit (.bool aw1))) ?_
    refine rvc_nil ?_
    refine Awp.ret ?_
    subst hR
    exact ⟨.inl rfl, rfl⟩
end Go.Proofs.Ytihccnkegkkikaa
/- Direct ways in plain Lean. No conditions. -/
namespace Go.Proofs.Ytihccnkegkkikaa
open Go.Am
def Agree (v m : Nat → Nat → Int) : Prop := ∀ p q, p < 3 → q < 3 → v p q = m p q
def Small (m : Nat → Nat → Int) : Prop := ∀ p q, p < 3 → q < 3 → 0 ≤ m p q ∧ m p q ≤ 1000
def putC (m : Nat → Nat → Int) (i j : Nat) (x : Int) : Nat → Nat → Int := fun p q => if p = i ∧ q = j then x else m p q
theorem upd33_at (v : Nat → Nat → Int) (i j : Nat) (x : Int) (p q : Nat) : upd33 v i j x p q = if p = i ∧ q = j then x else v p q := by
  unfold upd33 updA
  by_cases hp : p = i
  · subst hp
    rw [show (p == p) = true from beq_self_eq_true p, cond_true]
    by_cases hq : q = j
    · subst hq; simp
    · rw [show (q == j) = false by simpa using hq, cond_false, if_neg (by simp [hq])]
  · rw [show (p == i) = false by simpa using hp, cond_false, if_neg (by simp [hp])]
theorem agree_put {v m : Nat → Nat → Int} (h : Agree v m) {i j : Nat} {x y : Int} (e : x = y) : Agree (upd33 v i j x) (putC m i j y) := fun p q hp hq => by
  rw [upd33_at, e]
  unfold putC
  by_cases hpq : p = i ∧ q = j
  · rw [if_pos hpq, if_pos hpq]
  · rw [if_neg hpq, if_neg hpq]; exact h p q hp hq
theorem small_put {m : Nat → Nat → Int} (h : Small m) {i j : Nat} {x : Int} (hx : 0 ≤ x ∧ x ≤ 1000) : Small (putC m i j x) := fun p q hp hq => by
  unfold putC
  by_cases hpq : p = i ∧ q = j
  · rw [if_pos hpq]; exact hx
  · rw [if_neg hpq]; exact h p q hp hq
theorem min_bif {x y : Int} (hx : 0 ≤ x) (hx2 : x ≤ 3000) : (bif decide (IntKind.i64.wrap x < y) then IntKind.i64.wrap x else y) = min x y := by
  rw [wrapI _ (by omega)]
  cases h : decide (x < y)
  · have := of_decide_eq_false h
    rw [cond_false]; omega
  · have := of_decide_eq_true h
    rw [cond_true]; omega
def fw (o i j : Nat) (m : Nat → Nat → Int) : Nat → Nat → Int := putC m i j (min (m i o + m o j) (m i j))
theorem small_fw {m : Nat → Nat → Int} (h : Small m) {o i j : Nat} (ho : o < 3) (hi : i < 3) (hj : j < 3) : Small (fw o i j m) := by
  have h1 := h i o hi ho
  have h2 := h o j ho hj
  have h3 := h i j hi hj
  exact small_put h (by omega)
theorem direct_l2_eq {o i : Nat} (ho : o < 3) (hi : i < 3) (kk : (Nat → Nat → Int) → (Nat → Nat → Int) × Int) : ∀ (k j : Nat) (v m : Nat → Nat → Int), j + k = 3 → Agree v m → Small m → ∃ v', direct_l2 o i kk k j v = kk v' ∧ Agree v' ((List.range' j k).foldl (fun m j => fw o i j m) m) ∧ Small ((List.range' j k).foldl (fun m j => fw o i j m) m)
  | 0, j, v, m, _, ha, hs => ⟨v, rfl, ha, hs⟩
  | k + 1, j, v, m, hk, ha, hs => by
    have h1 := hs i o hi ho
    have h2 := hs o j ho (by omega)
    have ih := direct_l2_eq ho hi kk k (j + 1) (upd33 v i j (bif decide (IntKind.i64.wrap (v i o + v o j) < v i j) then IntKind.i64.wrap (v i o + v o j) else v i j)) (fw o i j m) (by omega) (agree_put ha (by
      rw [ha i o hi ho, ha o j ho (by omega), ha i j hi (by omega)]
      exact min_bif (by omega) (by omega))) (small_fw hs ho hi (by omega))
    unfold direct_l2
    rw [List.range'_succ, List.foldl_cons]
    exact ih
def rowF (o i : Nat) (m : Nat → Nat → Int) : Nat → Nat → Int := (List.range' 0 3).foldl (fun m j => fw o i j m) m
theorem direct_l1_eq {o : Nat} (ho : o < 3) (kk : (Nat → Nat → Int) → (Nat → Nat → Int) × Int) : ∀ (k i : Nat) (v m : Nat → Nat → Int), i + k = 3 → Agree v m → Small m → ∃ v', direct_l1 o kk k i v = kk v' ∧ Agree v' ((List.range' i k).foldl (fun m i => rowF o i m) m) ∧ Small ((List.range' i k).foldl (fun m i => rowF o i m) m)
  | 0, i, v, m, _, ha, hs => ⟨v, rfl, ha, hs⟩
  | k + 1, i, v, m, hk, ha, hs => by
    unfold direct_l1
    obtain ⟨v1, e1, a1, s1⟩ := direct_l2_eq ho (i := i) (by omega) (fun vc2 => direct_l1 o kk k (i + 1) vc2) 3 0 v m rfl ha hs
    obtain ⟨v2, e2, a2, s2⟩ := direct_l1_eq ho kk k (i + 1) v1 _ (by omega) a1 s1
    refine ⟨v2, by rw [e1]; exact e2, ?_, ?_⟩
    · rw [List.range'_succ, List.foldl_cons]; exact a2
    · rw [List.range'_succ, List.foldl_cons]; exact s2
def passF (o : Nat) (m : Nat → Nat → Int) : Nat → Nat → Int := (List.range' 0 3).foldl (fun m i => rowF o i m) m
theorem direct_l0_eq : ∀ (k o : Nat) (v m : Nat → Nat → Int), o + k = 3 → Agree v m → Small m → ∃ v', direct_l0 k o v = (v', 0) ∧ Agree v' ((List.range' o k).foldl (fun m o => passF o m) m)
  | 0, o, v, m, _, ha, _ => ⟨v, rfl, ha⟩
  | k + 1, o, v, m, hk, ha, hs => by
    unfold direct_l0
    obtain ⟨v1, e1, a1, s1⟩ := direct_l1_eq (o := o) (by omega) (fun vc1 => direct_l0 k (o + 1) vc1) 3 0 v m rfl ha hs
    obtain ⟨v2, e2, a2⟩ := direct_l0_eq k (o + 1) v1 _ (by omega) a1 s1
    refine ⟨v2, by rw [e1]; exact e2, ?_⟩
    rw [List.range'_succ, List.foldl_cons]; exact a2
/-- Three sites' ways. -/
structure Three (m : Nat → Nat → Int) (a b c : Int) : Prop where
  h00 : m 0 0 = 0
  h11 : m 1 1 = 0
  h22 : m 2 2 = 0
  h01 : m 0 1 = a
  h10 : m 1 0 = a
  h02 : m 0 2 = b
  h20 : m 2 0 = b
  h12 : m 1 2 = c
  h21 : m 2 1 = c
theorem pass0 {m : Nat → Nat → Int} {a b c : Int} (h : Three m a b c) (ha : 0 ≤ a) (hb : 0 ≤ b) : Three (passF 0 m) a b (min (a + b) c) := by
  obtain ⟨h00, h11, h22, h01, h10, h02, h20, h12, h21⟩ := h
  constructor <;> simp [passF, rowF, fw, putC, List.range'_succ, h00, h11, h22, h01, h10, h02, h20, h12, h21] <;> omega
theorem pass1 {m : Nat → Nat → Int} {a b c : Int} (h : Three m a b c) (ha : 0 ≤ a) (hc : 0 ≤ c) : Three (passF 1 m) a (min (a + c) b) c := by
  obtain ⟨h00, h11, h22, h01, h10, h02, h20, h12, h21⟩ := h
  constructor <;> simp [passF, rowF, fw, putC, List.range'_succ, h00, h11, h22, h01, h10, h02, h20, h12, h21] <;> omega
theorem pass2 {m : Nat → Nat → Int} {a b c : Int} (h : Three m a b c) (hb : 0 ≤ b) (hc : 0 ≤ c) : Three (passF 2 m) (min (b + c) a) b c := by
  obtain ⟨h00, h11, h22, h01, h10, h02, h20, h12, h21⟩ := h
  constructor <;> simp [passF, rowF, fw, putC, List.range'_succ, h00, h11, h22, h01, h10, h02, h20, h12, h21] <;> omega
theorem three_of {w : Nat → Nat → Int} (hw : Ways w) : Three w (w 0 1) (w 0 2) (w 1 2) ∧ (0 ≤ w 0 1 ∧ w 0 1 ≤ 1000) ∧ (0 ≤ w 0 2 ∧ w 0 2 ≤ 1000) ∧ (0 ≤ w 1 2 ∧ w 1 2 ≤ 1000) := by
  have h := fun i j (hi : i < 3) (hj : j < 3) => hw i j hi hj
  have e01 := h 0 1 (by decide) (by decide)
  have e02 := h 0 2 (by decide) (by decide)
  have e12 := h 1 2 (by decide) (by decide)
  have e10 := h 1 0 (by decide) (by decide)
  have e20 := h 2 0 (by decide) (by decide)
  exact ⟨⟨e01.2.2.2, e10.2.2.2, e20.2.2.2, rfl, e01.2.2.1.symm, rfl, e02.2.2.1.symm, rfl, e12.2.2.1.symm⟩, ⟨e01.1, e01.2.1⟩, ⟨e02.1, e02.2.1⟩, ⟨e12.1, e12.2.1⟩⟩
/-- What the direct ways are. -/
theorem direct_three {w : Nat → Nat → Int} (hw : Ways w) : (direct w).2 = 0 ∧ Three (direct w).1 (min (w 0 2 + w 1 2) (w 0 1)) (min (w 0 1 + w 1 2) (w 0 2)) (min (w 0 1 + w 0 2) (w 1 2)) := by
  obtain ⟨ht, ha, hb, hc⟩ := three_of hw
  unfold direct
  rw [(wayCheck_iff w).1.2 hw, show ((0 : Int) != 0) = false from rfl, cond_false]
  obtain ⟨v, e, hv⟩ := direct_l0_eq 3 0 w w rfl (fun _ _ _ _ => rfl) (fun p q hp hq => ⟨(hw p q hp hq).1, (hw p q hp hq).2.1⟩)
  rw [e]
  refine ⟨rfl, ?_⟩
  have h0 := pass0 ht ha.1 hb.1
  have h1 := pass1 h0 ha.1 (by omega)
  have h2 := pass2 h1 (by omega) (by omega)
  have hM : (List.range' 0 3).foldl (fun m o => passF o m) w = passF 2 (passF 1 (passF 0 w)) := rfl
  rw [hM] at hv
  obtain ⟨g00, g11, g22, g01, g10, g02, g20, g12, g21⟩ := h2
  constructor
  · show v 0 0 = 0; rw [hv 0 0 (by decide) (by decide)]; exact g00
  · show v 1 1 = 0; rw [hv 1 1 (by decide) (by decide)]; exact g11
  · show v 2 2 = 0; rw [hv 2 2 (by decide) (by decide)]; exact g22
  · show v 0 1 = _; rw [hv 0 1 (by decide) (by decide), g01]; omega
  · show v 1 0 = _; rw [hv 1 0 (by decide) (by decide), g10]; omega
  · show v 0 2 = _; rw [hv 0 2 (by decide) (by decide), g02]; omega
  · show v 2 0 = _; rw [hv 2 0 (by decide) (by decide), g20]; omega
  · show v 1 2 = _; rw [hv 1 2 (by decide) (by decide), g12]
  · show v 2 1 = _; rw [hv 2 1 (by decide) (by decide), g21]
def rf (w : Nat → Nat → Int) (i j k : Nat) (m : Nat → Nat → Int) : Nat → Nat → Int := putC m i j (min (w i k + w k j) (m i j))
end Go.Proofs.Ytihccnkegkkikaa
/- Laws of chapter 13 in plain Lean: their models answer true. No conditions. -/
namespace Go.Proofs.Ytihccnkegkkikaa
open Go.Am
theorem awake_true : awake = true := by kernel_rfl
theorem ways_three {m : Nat → Nat → Int} {a b c : Int} (h : Three m a b c) (ha : 0 ≤ a ∧ a ≤ 1000) (hb : 0 ≤ b ∧ b ≤ 1000) (hc : 0 ≤ c ∧ c ≤ 1000) : Ways m := by
  obtain ⟨h00, h11, h22, h01, h10, h02, h20, h12, h21⟩ := h
  exact all33 (P := fun i j => 0 ≤ m i j ∧ m i j ≤ 1000 ∧ m i j = m j i ∧ m i i = 0) ⟨by omega, by omega, rfl, h00⟩ ⟨by omega, by omega, by omega, h00⟩ ⟨by omega, by omega, by omega, h00⟩ ⟨by omega, by omega, by omega, h11⟩ ⟨by omega, by omega, rfl, h11⟩ ⟨by omega, by omega, by omega, h11⟩ ⟨by omega, by omega, by omega, h22⟩ ⟨by omega, by omega, by omega, h22⟩ ⟨by omega, by omega, rfl, h22⟩
theorem lawDirect_true (w : Nat → Nat → Int) : lawDirect w = true := by
  unfold lawDirect
  rw [awake_true]
  by_cases hw : Ways w
  · obtain ⟨e1, t1⟩ := direct_three hw
    obtain ⟨t0, ha, hb, hc⟩ := three_of hw
    have hW : Ways (direct w).1 := ways_three t1 (by omega) (by omega) (by omega)
    rw [e1, show ((0 : Int) != 0) = false from rfl, cond_false, (wayCheck_iff _).1.2 hW, show ((0 : Int) != 0) = false from rfl, cond_false]
    generalize direct w = da at *
    have key : ∀ i j k, i < 3 → j < 3 → k < 3 → da.1 i j ≤ w i j ∧ da.1 i j ≤ da.1 i k + da.1 k j := by
      obtain ⟨h00, h11, h22, h01, h10, h02, h20, h12, h21⟩ := t1
      obtain ⟨g00, g11, g22, g01, g10, g02, g20, g12, g21⟩ := t0
      intro i j k hi hj hk
      revert i j hi hj
      exact fun i j hi hj => all33 (P := fun i j => da.1 i j ≤ w i j ∧ da.1 i j ≤ da.1 i k + da.1 k j)
        (all3 (P := fun k => da.1 0 0 ≤ w 0 0 ∧ da.1 0 0 ≤ da.1 0 k + da.1 k 0) (by omega) (by omega) (by omega) k hk)
        (all3 (P := fun k => da.1 0 1 ≤ w 0 1 ∧ da.1 0 1 ≤ da.1 0 k + da.1 k 1) (by omega) (by omega) (by omega) k hk)
        (all3 (P := fun k => da.1 0 2 ≤ w 0 2 ∧ da.1 0 2 ≤ da.1 0 k + da.1 k 2) (by omega) (by omega) (by omega) k hk)
        (all3 (P := fun k => da.1 1 0 ≤ w 1 0 ∧ da.1 1 0 ≤ da.1 1 k + da.1 k 0) (by omega) (by omega) (by omega) k hk)
        (all3 (P := fun k => da.1 1 1 ≤ w 1 1 ∧ da.1 1 1 ≤ da.1 1 k + da.1 k 1) (by omega) (by omega) (by omega) k hk)
        (all3 (P := fun k => da.1 1 2 ≤ w 1 2 ∧ da.1 1 2 ≤ da.1 1 k + da.1 k 2) (by omega) (by omega) (by omega) k hk)
        (all3 (P := fun k => da.1 2 0 ≤ w 2 0 ∧ da.1 2 0 ≤ da.1 2 k + da.1 k 0) (by omega) (by omega) (by omega) k hk)
        (all3 (P := fun k => da.1 2 1 ≤ w 2 1 ∧ da.1 2 1 ≤ da.1 2 k + da.1 k 1) (by omega) (by omega) (by omega) k hk)
        (all3 (P := fun k => da.1 2 2 ≤ w 2 2 ∧ da.1 2 2 ≤ da.1 2 k + da.1 k 2) (by omega) (by omega) (by omega) k hk) i j hi hj
    have l2 : ∀ (i j : Nat) (kk : Bool), i < 3 → j < 3 → kk = true → ∀ n k, k + n = 3 → lawDirect_l2 w da i j kk n k = true := by
      intro i j kk hi hj hkk n
      induction n with
      | zero => intro k _; exact hkk
      | succ n ih =>
        intro k hk
        have h1 := key i j k hi hj (by omega)
        have b1 := hW i k hi (by omega)
        have b2 := hW k j (by omega) hj
        unfold lawDirect_l2
        rw [decide_eq_false (by omega), cond_false, wrapI _ (by omega), decide_eq_false (by omega), cond_false]
        exact ih (k + 1) (by omega)
    have l1 : ∀ (i : Nat) (kk : Bool), i < 3 → kk = true → ∀ n j, j + n = 3 → lawDirect_l1 w da i kk n j = true := by
      intro i kk hi hkk n
      induction n with
      | zero => intro k _; exact hkk
      | succ n ih =>
        intro j hj
        unfold lawDirect_l1
        exact l2 i j _ hi (by omega) (ih (j + 1) (by omega)) 3 0 rfl
    have l0 : ∀ n i, i + n = 3 → lawDirect_l0 w da n i = true := by
      intro n
      induction n with
      | zero => intro i _; exact awake_true
      | succ n ih =>
        intro i hi
        unfold lawDirect_l0
        exact l1 i _ (by omega) (ih (i + 1) (by omega)) 3 0 rfl
    exact l0 3 0 rfl
  · have h1 : wayCheck w = 1 := (wayCheck_iff w).2.resolve_left fun h => hw ((wayCheck_iff w).1.1 h)
    unfold direct
    rw [h1]
    rfl
end Go.Proofs.Ytihccnkegkkikaa
/- Laws of chapter 13 at chains that are too long. No conditions. -/
namespace Go.Proofs.Ytihccnkegkkikaa
open Go.Am
end Go.Proofs.Ytihccnkegkkikaa
/- Inputs of chapter 13, as plain values. No conditions. -/
namespace Go.Proofs.Ytihccnkegkkikaa
open Go.Am
end Go.Proofs.Ytihccnkegkkikaa
/- The contracts of the laws RouteReads, RouteNear, RouteChecks and RouteDirect: each is true, whatever the input. No conditions. -/
namespace Go.Proofs.Ytihccnkegkkikaa
open Go.Am
theorem routeDirect_calls (w : Nat → Nat → Int) : PCalls Try.prog 7 [.agg (rows3 fun p q => .pv (.lit (.int .i64 (w p q))))] (.pv (.bool true)) := by
  have r := lawDirect_calls w
  rw [lawDirect_true] at r
  exact r
end Go.Proofs.Ytihccnkegkkikaa
/- An abstract machine over the kit's calls, part 34: three rows of three numbers that are handed in. No conditions. -/
namespace Go.Am
section
variable {H : Type} {enc : TypeId × Value → H} {P : Program} {w : World} {base : Nat} {spare : Nat → Bool} {held : Bool}
theorem lits_VHs {k : IntKind} {ι : Nat → Option (Nat × Nat)} {imm : Nat → Prop} {w' : World} : ∀ (l : List Value) (A : List Int), l.length = A.length → (∀ i, i < A.length → l[i]? = some (.int k (A.getD i 0))) → VHs ι imm w' (A.map fun z => .pv (.lit (.int k z))) l := by
  intro l
  induction l with
  | nil => intro A hA _; cases A with
    | nil => rfl
    | cons a A => simp at hA
  | cons v l ih => intro A hA hA2; cases A with
    | nil => simp at hA
    | cons a A =>
      have h0 := hA2 0 (by simp)
      simp only [List.getElem?_cons_zero, List.getD_cons_zero, Option.some.injEq] at h0
      subst h0
      exact ⟨_, l, rfl, ⟨rfl, rfl⟩, ih A (by simpa using hA) fun i hi => by simpa using hA2 (i + 1) (by simpa using hi)⟩
theorem open_arr33 {r : Reach} {b0 : Nat} {t e e2 : Nat} {k : IntKind} {v : Value} {d : DataW H} {ps : List MemPlace} (ht : P.underlying t = some (.array 3 e)) (he : P.underlying e = some (.array 3 e2)) (he2 : P.underlying e2 = some (.int k)) (hc2 : P.cellsOf e2 = 1) (hc : P.cellsOf e = 3) (hct : P.cellsOf t = 9) (hval : Value.okWide P w r b0 t v) (hd : DataW.Trod enc P w base spare held t v d ps) :
    ∃ f : Nat → Nat → Int, ∀ ι imm w', VH ι imm w' (.agg (rows3 fun p q => .pv (.lit (.int k (f p q))))) v := by
  simp only [Value.okWide, ht] at hval
  obtain ⟨cs, rfl, hsz, _⟩ := hval
  obtain ⟨fuel, hf⟩ := hd
  obtain ⟨xs, m, rfl, _, hl, hlx, hx⟩ := DataW.trod_array ht hf
  simp only [Value.cells] at hl hx
  have hn : cs.toList.length = 9 := by rw [hl, hct]
  have key : ∀ i j, i < 3 → j < 3 → ∃ z, cs.toList[i * 3 + j]? = some (.int k z) := fun i j hi hj => by
    have h1 := hx i hi
    obtain ⟨y, hy⟩ : ∃ y, xs[i]? = some y := ⟨xs[i], by simp [hlx, hi]⟩
    rw [hy] at h1
    obtain ⟨ys, m2, _, _, _, hly, hx2⟩ := DataW.trod_array he h1
    have h2 := hx2 j hj
    obtain ⟨y2, hy2⟩ : ∃ y, ys[j]? = some y := ⟨ys[j], by simp [hly, hj]⟩
    rw [hy2] at h2
    obtain ⟨z, h3, _, _⟩ := DataW.trod_int he2 h2
    rw [hc2, hc, Nat.mul_one] at h3
    refine ⟨z, ?_⟩
    have h5 := congrArg (fun l => l[0]?) h3
    simp only [List.getElem?_cons_zero] at h5
    rw [List.getElem?_take_of_lt (by omega), List.getElem?_drop, List.getElem?_take_of_lt (by omega), List.getElem?_drop] at h5
    simpa using h5
  refine ⟨fun i j => match cs.toList[i * 3 + j]? with | some (.int _ z) => z | _ => 0, fun ι imm w' => ⟨cs.toList, by simp, ?_⟩⟩
  generalize hf : (fun i j : Nat => match cs.toList[i * 3 + j]? with | some (.int _ z) => z | _ => 0) = f
  have hval : ∀ i j, i < 3 → j < 3 → cs.toList[i * 3 + j]? = some (.int k (f i j)) := fun i j hi hj => by
    obtain ⟨z, hz⟩ := key i j hi hj
    have : f i j = z := by rw [← hf]; simp only [hz]
    rw [hz, this]
  exact lits_VHs cs.toList (rows3 f) (by rw [hn]; rfl) fun n hn9 => by
    have hn9 : n < 9 := hn9
    have h := hval (n / 3) (n % 3) (by omega) (by omega)
    rw [show n / 3 * 3 + n % 3 = n by omega] at h
    rw [h]
    congr 2
    rcases (by omega : n = 0 ∨ n = 1 ∨ n = 2 ∨ n = 3 ∨ n = 4 ∨ n = 5 ∨ n = 6 ∨ n = 7 ∨ n = 8) with rfl | rfl | rfl | rfl | rfl | rfl | rfl | rfl | rfl <;> rfl
end
end Go.Am
/- What all rows of this seat need: no knob is turned, the types are laid out. No conditions. -/
namespace Go.Proofs.Ytihccnkegkkikaa
open Go.Am
theorem own : ownKnob Try.prog.godebug = none := by kernel_rfl
theorem laidOut : laidOutB Try.prog = true := by kernel_rfl
end Go.Proofs.Ytihccnkegkkikaa
