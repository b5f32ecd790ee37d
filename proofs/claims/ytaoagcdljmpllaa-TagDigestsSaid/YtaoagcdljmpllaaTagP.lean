/- Plain facts of words of 32 bits: turning left, step by step, is turning left at once. No conditions. -/
import Derived.Test.YtaoagcdljmpllaaTagE
namespace Go.Proofs.Ytaoagcdljmpllaa
open Go.Am

theorem wrap_u32 (n : Int) : IntKind.u32.wrap n = n % 4294967296 := by
  simp [IntKind.wrap, IntKind.bits, IntKind.signed]
theorem wrap_u8 (n : Int) : IntKind.u8.wrap n = n % 256 := by
  simp [IntKind.wrap, IntKind.bits, IntKind.signed]
theorem wrap_u64 (n : Int) : IntKind.u64.wrap n = n % 18446744073709551616 := by
  simp [IntKind.wrap, IntKind.bits, IntKind.signed]
def R32 (x : Int) : Prop := 0 ≤ x ∧ x < 4294967296
def R8 (x : Int) : Prop := 0 ≤ x ∧ x < 256
theorem R32.wrap (n : Int) : R32 (IntKind.u32.wrap n) := by
  rw [wrap_u32]; constructor <;> omega
theorem R32.bit (op : BinOp) (x y : Int) : R32 (bitI op .u32 x y) := R32.wrap _
theorem R32.nat {x : Int} (h : R32 x) : ∃ m : Nat, x = m ∧ m < 4294967296 := ⟨x.toNat, by have := h.1; omega, by have := h.1; have := h.2; omega⟩

theorem bv32 (a : Nat) (h : a < 4294967296) : (BitVec.ofInt 32 (a : Int)).toNat = a := by
  rw [BitVec.toNat_ofInt]
  have : ((2 ^ 32 : Nat) : Int) = 4294967296 := by decide
  rw [this]; omega
theorem or_u32 {a b : Nat} (ha : a < 4294967296) (hb : b < 4294967296) : bitI .or .u32 a b = ((a ||| b : Nat) : Int) := by
  have : a ||| b < 4294967296 := Nat.or_lt_two_pow (n := 32) ha hb
  show IntKind.u32.wrap (((BitVec.ofInt 32 (a : Int) ||| BitVec.ofInt 32 (b : Int) : BitVec 32).toNat : Nat) : Int) = _
  rw [BitVec.toNat_or, bv32 a ha, bv32 b hb, wrap_u32]; omega
theorem xor_u32 {a b : Nat} (ha : a < 4294967296) (hb : b < 4294967296) : bitI .xor .u32 a b = ((a ^^^ b : Nat) : Int) := by
  have : a ^^^ b < 4294967296 := Nat.xor_lt_two_pow (n := 32) ha hb
  show IntKind.u32.wrap (((BitVec.ofInt 32 (a : Int) ^^^ BitVec.ofInt 32 (b : Int) : BitVec 32).toNat : Nat) : Int) = _
  rw [BitVec.toNat_xor, bv32 a ha, bv32 b hb, wrap_u32]; omega
theorem and_u32 {a b : Nat} (ha : a < 4294967296) (hb : b < 4294967296) : bitI .and .u32 a b = ((a &&& b : Nat) : Int) := by
  have : a &&& b < 4294967296 := Nat.and_lt_two_pow (n := 32) a hb
  show IntKind.u32.wrap (((BitVec.ofInt 32 (a : Int) &&& BitVec.ofInt 32 (b : Int) : BitVec 32).toNat : Nat) : Int) = _
  rw [BitVec.toNat_and, bv32 a ha, bv32 b hb, wrap_u32]; omega
/-- Or of what has no bit in common is a sum. -/
theorem or_add (i a b : Nat) (hb : b < 2 ^ i) : (2 ^ i * a ||| b) = 2 ^ i * a + b := (Nat.two_pow_add_eq_or_of_lt hb a).symm

/-- A word turned left, by numbers. -/
theorem left_eq {x : Int} (hx : R32 x) (p q : Nat) (n : Nat) (hn : n ≤ 32) (hp : p = 2 ^ n) (hq : q = 2 ^ (32 - n)) : leftF x n = (x % q) * p + x / q := by
  obtain ⟨m, rfl, hm⟩ := hx.nat
  subst hp hq
  have e0 : IntKind.i64.wrap (32 - (n : Int)) = ((32 - n : Nat) : Int) := by
    rw [wrap_i64 (by omega) (by omega)]; omega
  have hpq : 2 ^ (32 - n) * 2 ^ n = 4294967296 := by rw [← Nat.pow_add, Nat.sub_add_cancel hn]
  have e1 : shlI .u32 (m : Int) n = ((2 ^ n * (m % 2 ^ (32 - n)) : Nat) : Int) := by
    simp only [shlI, IntKind.bits, Int.toNat_natCast, Nat.min_eq_left hn, wrap_u32]
    have : ((m : Int) * 2 ^ n) = ((m * 2 ^ n : Nat) : Int) := by simp
    rw [this, show (4294967296 : Int) = ((4294967296 : Nat) : Int) by rfl, ← Int.natCast_emod, ← hpq, Nat.mul_mod_mul_right, Nat.mul_comm]
  have e2 : shrI .u32 (m : Int) (IntKind.i64.wrap (32 - (n : Int))) = ((m / 2 ^ (32 - n) : Nat) : Int) := by
    rw [e0]
    simp only [shrI, IntKind.bits, Int.toNat_natCast]
    rw [Nat.min_eq_left (by omega)]; simp
  have h1 : m / 2 ^ (32 - n) < 2 ^ n := by
    rw [Nat.div_lt_iff_lt_mul (Nat.two_pow_pos _), Nat.mul_comm, hpq]; exact hm
  have h2 : 2 ^ n * (m % 2 ^ (32 - n)) < 4294967296 := by
    rw [← hpq, Nat.mul_comm]
    exact Nat.mul_lt_mul_of_pos_right (Nat.mod_lt _ (Nat.two_pow_pos _)) (Nat.two_pow_pos _)
  have h3 : 2 ^ n ≤ 4294967296 := by rw [← hpq]; exact Nat.le_mul_of_pos_left _ (Nat.two_pow_pos _)
  rw [leftF, e1, e2, or_u32 h2 (by omega), or_add n _ _ h1]
  simp only [Int.natCast_add, Int.natCast_mul, Int.natCast_emod, Int.natCast_ediv]
  rw [Int.mul_comm]

/-- The document's turning: one step. -/
def turn1 (x : Int) : Int := IntKind.u32.wrap (IntKind.u32.wrap (2 * x) + IntKind.u32.wrap (x.tdiv 2147483648))
def turnN (x : Int) : Nat → Int
  | 0 => x
  | i + 1 => turn1 (turnN x i)
theorem turn1_eq {x : Int} (hx : R32 x) : turn1 x = (2 * x) % 4294967296 + x / 2147483648 := by
  obtain ⟨h0, h1⟩ := hx
  simp only [turn1, wrap_u32]
  rw [Int.tdiv_eq_ediv_of_nonneg h0]
  omega
theorem turn1_lo {x : Int} (hx : R32 x) (h : x < 2147483648) : turn1 x = 2 * x := by
  rw [turn1_eq hx]; obtain ⟨h0, h1⟩ := hx
  have : x / 2147483648 = 0 := by omega
  rw [this]; omega
theorem turn1_hi {x : Int} (hx : R32 x) (h : 2147483648 ≤ x) : turn1 x = 2 * x - 4294967295 := by
  rw [turn1_eq hx]; obtain ⟨h0, h1⟩ := hx
  have : x / 2147483648 = 1 := by omega
  rw [this]; omega
theorem R32.turn_1 (x : Int) : R32 (turn1 x) := R32.wrap _
theorem R32.turnN {x : Int} (hx : R32 x) : ∀ i, R32 (turnN x i)
  | 0 => hx
  | _ + 1 => R32.turn_1 _
theorem turn_0 {x : Int} (hx : R32 x) : turnN x 0 = (x % 4294967296) * 1 + x / 4294967296 := by
  obtain ⟨h0, h1⟩ := hx
  simp only [Ytaoagcdljmpllaa.turnN]; omega
theorem turn_1 {x : Int} (hx : R32 x) : turnN x 1 = (x % 2147483648) * 2 + x / 2147483648 := by
  show turn1 (turnN x 0) = _
  have hr := hx.turnN 0
  have hy := turn_0 hx
  obtain ⟨h0, h1⟩ := hx
  have e1 : x % 4294967296 = (x / 2147483648 % 2) * 2147483648 + x % 2147483648 := by omega
  have e2 : x / 4294967296 = x / 2147483648 / 2 := by omega
  rw [e1, e2] at hy
  have b1 : 0 ≤ x % 2147483648 ∧ x % 2147483648 < 2147483648 := by omega
  have b2 : 0 ≤ x / 2147483648 ∧ x / 2147483648 < 2 := by omega
  generalize x % 2147483648 = l at *
  generalize x / 2147483648 = a at *
  rcases (by omega : a % 2 = 0 ∨ a % 2 = 1) with h | h
  · rw [h] at hy; rw [turn1_lo hr (by omega)]; omega
  · rw [h] at hy; rw [turn1_hi hr (by omega)]; omega
theorem turn_2 {x : Int} (hx : R32 x) : turnN x 2 = (x % 1073741824) * 4 + x / 1073741824 := by
  show turn1 (turnN x 1) = _
  have hr := hx.turnN 1
  have hy := turn_1 hx
  obtain ⟨h0, h1⟩ := hx
  have e1 : x % 2147483648 = (x / 1073741824 % 2) * 1073741824 + x % 1073741824 := by omega
  have e2 : x / 2147483648 = x / 1073741824 / 2 := by omega
  rw [e1, e2] at hy
  have b1 : 0 ≤ x % 1073741824 ∧ x % 1073741824 < 1073741824 := by omega
  have b2 : 0 ≤ x / 1073741824 ∧ x / 1073741824 < 4 := by omega
  generalize x % 1073741824 = l at *
  generalize x / 1073741824 = a at *
  rcases (by omega : a % 2 = 0 ∨ a % 2 = 1) with h | h
  · rw [h] at hy; rw [turn1_lo hr (by omega)]; omega
  · rw [h] at hy; rw [turn1_hi hr (by omega)]; omega
theorem turn_3 {x : Int} (hx : R32 x) : turnN x 3 = (x % 536870912) * 8 + x / 536870912 := by
  show turn1 (turnN x 2) = _
  have hr := hx.turnN 2
  have hy := turn_2 hx
  obtain ⟨h0, h1⟩ := hx
  have e1 : x % 1073741824 = (x / 536870912 % 2) * 536870912 + x % 536870912 := by omega
  have e2 : x / 1073741824 = x / 536870912 / 2 := by omega
  rw [e1, e2] at hy
  have b1 : 0 ≤ x % 536870912 ∧ x % 536870912 < 536870912 := by omega
  have b2 : 0 ≤ x / 536870912 ∧ x / 536870912 < 8 := by omega
  generalize x % 536870912 = l at *
  generalize x / 536870912 = a at *
  rcases (by omega : a % 2 = 0 ∨ a % 2 = 1) with h | h
  · rw [h] at hy; rw [turn1_lo hr (by omega)]; omega
  · rw [h] at hy; rw [turn1_hi hr (by omega)]; omega
theorem turn_4 {x : Int} (hx : R32 x) : turnN x 4 = (x % 268435456) * 16 + x / 268435456 := by
  show turn1 (turnN x 3) = _
  have hr := hx.turnN 3
  have hy := turn_3 hx
  obtain ⟨h0, h1⟩ := hx
  have e1 : x % 536870912 = (x / 268435456 % 2) * 268435456 + x % 268435456 := by omega
  have e2 : x / 536870912 = x / 268435456 / 2 := by omega
  rw [e1, e2] at hy
  have b1 : 0 ≤ x % 268435456 ∧ x % 268435456 < 268435456 := by omega
  have b2 : 0 ≤ x / 268435456 ∧ x / 268435456 < 16 := by omega
  generalize x % 268435456 = l at *
  generalize x / 268435456 = a at *
  rcases (by omega : a % 2 = 0 ∨ a % 2 = 1) with h | h
  · rw [h] at hy; rw [turn1_lo hr (by omega)]; omega
  · rw [h] at hy; rw [turn1_hi hr (by omega)]; omega
theorem turn_5 {x : Int} (hx : R32 x) : turnN x 5 = (x % 134217728) * 32 + x / 134217728 := by
  show turn1 (turnN x 4) = _
  have hr := hx.turnN 4
  have hy := turn_4 hx
  obtain ⟨h0, h1⟩ := hx
  have e1 : x % 268435456 = (x / 134217728 % 2) * 134217728 + x % 134217728 := by omega
  have e2 : x / 268435456 = x / 134217728 / 2 := by omega
  rw [e1, e2] at hy
  have b1 : 0 ≤ x % 134217728 ∧ x % 134217728 < 134217728 := by omega
  have b2 : 0 ≤ x / 134217728 ∧ x / 134217728 < 32 := by omega
  generalize x % 134217728 = l at *
  generalize x / 134217728 = a at *
  rcases (by omega : a % 2 = 0 ∨ a % 2 = 1) with h | h
  · rw [h] at hy; rw [turn1_lo hr (by omega)]; omega
  · rw [h] at hy; rw [turn1_hi hr (by omega)]; omega
theorem turn_6 {x : Int} (hx : R32 x) : turnN x 6 = (x % 67108864) * 64 + x / 67108864 := by
  show turn1 (turnN x 5) = _
  have hr := hx.turnN 5
  have hy := turn_5 hx
  obtain ⟨h0, h1⟩ := hx
  have e1 : x % 134217728 = (x / 67108864 % 2) * 67108864 + x % 67108864 := by omega
  have e2 : x / 134217728 = x / 67108864 / 2 := by omega
  rw [e1, e2] at hy
  have b1 : 0 ≤ x % 67108864 ∧ x % 67108864 < 67108864 := by omega
  have b2 : 0 ≤ x / 67108864 ∧ x / 67108864 < 64 := by omega
  generalize x % 67108864 = l at *
  generalize x / 67108864 = a at *
  rcases (by omega : a % 2 = 0 ∨ a % 2 = 1) with h | h
  · rw [h] at hy; rw [turn1_lo hr (by omega)]; omega
  · rw [h] at hy; rw [turn1_hi hr (by omega)]; omega
theorem turn_7 {x : Int} (hx : R32 x) : turnN x 7 = (x % 33554432) * 128 + x / 33554432 := by
  show turn1 (turnN x 6) = _
  have hr := hx.turnN 6
  have hy := turn_6 hx
  obtain ⟨h0, h1⟩ := hx
  have e1 : x % 67108864 = (x / 33554432 % 2) * 33554432 + x % 33554432 := by omega
  have e2 : x / 67108864 = x / 33554432 / 2 := by omega
  rw [e1, e2] at hy
  have b1 : 0 ≤ x % 33554432 ∧ x % 33554432 < 33554432 := by omega
  have b2 : 0 ≤ x / 33554432 ∧ x / 33554432 < 128 := by omega
  generalize x % 33554432 = l at *
  generalize x / 33554432 = a at *
  rcases (by omega : a % 2 = 0 ∨ a % 2 = 1) with h | h
  · rw [h] at hy; rw [turn1_lo hr (by omega)]; omega
  · rw [h] at hy; rw [turn1_hi hr (by omega)]; omega
theorem turn_8 {x : Int} (hx : R32 x) : turnN x 8 = (x % 16777216) * 256 + x / 16777216 := by
  show turn1 (turnN x 7) = _
  have hr := hx.turnN 7
  have hy := turn_7 hx
  obtain ⟨h0, h1⟩ := hx
  have e1 : x % 33554432 = (x / 16777216 % 2) * 16777216 + x % 16777216 := by omega
  have e2 : x / 33554432 = x / 16777216 / 2 := by omega
  rw [e1, e2] at hy
  have b1 : 0 ≤ x % 16777216 ∧ x % 16777216 < 16777216 := by omega
  have b2 : 0 ≤ x / 16777216 ∧ x / 16777216 < 256 := by omega
  generalize x % 16777216 = l at *
  generalize x / 16777216 = a at *
  rcases (by omega : a % 2 = 0 ∨ a % 2 = 1) with h | h
  · rw [h] at hy; rw [turn1_lo hr (by omega)]; omega
  · rw [h] at hy; rw [turn1_hi hr (by omega)]; omega
theorem turn_9 {x : Int} (hx : R32 x) : turnN x 9 = (x % 8388608) * 512 + x / 8388608 := by
  show turn1 (turnN x 8) = _
  have hr := hx.turnN 8
  have hy := turn_8 hx
  obtain ⟨h0, h1⟩ := hx
  have e1 : x % 16777216 = (x / 8388608 % 2) * 8388608 + x % 8388608 := by omega
  have e2 : x / 16777216 = x / 8388608 / 2 := by omega
  rw [e1, e2] at hy
  have b1 : 0 ≤ x % 8388608 ∧ x % 8388608 < 8388608 := by omega
  have b2 : 0 ≤ x / 8388608 ∧ x / 8388608 < 512 := by omega
  generalize x % 8388608 = l at *
  generalize x / 8388608 = a at *
  rcases (by omega : a % 2 = 0 ∨ a % 2 = 1) with h | h
  · rw [h] at hy; rw [turn1_lo hr (by omega)]; omega
  · rw [h] at hy; rw [turn1_hi hr (by omega)]; omega
theorem turn_10 {x : Int} (hx : R32 x) : turnN x 10 = (x % 4194304) * 1024 + x / 4194304 := by
  show turn1 (turnN x 9) = _
  have hr := hx.turnN 9
  have hy := turn_9 hx
  obtain ⟨h0, h1⟩ := hx
  have e1 : x % 8388608 = (x / 4194304 % 2) * 4194304 + x % 4194304 := by omega
  have e2 : x / 8388608 = x / 4194304 / 2 := by omega
  rw [e1, e2] at hy
  have b1 : 0 ≤ x % 4194304 ∧ x % 4194304 < 4194304 := by omega
  have b2 : 0 ≤ x / 4194304 ∧ x / 4194304 < 1024 := by omega
  generalize x % 4194304 = l at *
  generalize x / 4194304 = a at *
  rcases (by omega : a % 2 = 0 ∨ a % 2 = 1) with h | h
  · rw [h] at hy; rw [turn1_lo hr (by omega)]; omega
  · rw [h] at hy; rw [turn1_hi hr (by omega)]; omega
theorem turn_11 {x : Int} (hx : R32 x) : turnN x 11 = (x % 2097152) * 2048 + x / 2097152 := by
  show turn1 (turnN x 10) = _
  have hr := hx.turnN 10
  have hy := turn_10 hx
  obtain ⟨h0, h1⟩ := hx
  have e1 : x % 4194304 = (x / 2097152 % 2) * 2097152 + x % 2097152 := by omega
  have e2 : x / 4194304 = x / 2097152 / 2 := by omega
  rw [e1, e2] at hy
  have b1 : 0 ≤ x % 2097152 ∧ x % 2097152 < 2097152 := by omega
  have b2 : 0 ≤ x / 2097152 ∧ x / 2097152 < 2048 := by omega
  generalize x % 2097152 = l at *
  generalize x / 2097152 = a at *
  rcases (by omega : a % 2 = 0 ∨ a % 2 = 1) with h | h
  · rw [h] at hy; rw [turn1_lo hr (by omega)]; omega
  · rw [h] at hy; rw [turn1_hi hr (by omega)]; omega
theorem turn_12 {x : Int} (hx : R32 x) : turnN x 12 = (x % 1048576) * 4096 + x / 1048576 := by
  show turn1 (turnN x 11) = _
  have hr := hx.turnN 11
  have hy := turn_11 hx
  obtain ⟨h0, h1⟩ := hx
  have e1 : x % 2097152 = (x / 1048576 % 2) * 1048576 + x % 1048576 := by omega
  have e2 : x / 2097152 = x / 1048576 / 2 := by omega
  rw [e1, e2] at hy
  have b1 : 0 ≤ x % 1048576 ∧ x % 1048576 < 1048576 := by omega
  have b2 : 0 ≤ x / 1048576 ∧ x / 1048576 < 4096 := by omega
  generalize x % 1048576 = l at *
  generalize x / 1048576 = a at *
  rcases (by omega : a % 2 = 0 ∨ a % 2 = 1) with h | h
  · rw [h] at hy; rw [turn1_lo hr (by omega)]; omega
  · rw [h] at hy; rw [turn1_hi hr (by omega)]; omega
theorem turn_13 {x : Int} (hx : R32 x) : turnN x 13 = (x % 524288) * 8192 + x / 524288 := by
  show turn1 (turnN x 12) = _
  have hr := hx.turnN 12
  have hy := turn_12 hx
  obtain ⟨h0, h1⟩ := hx
  have e1 : x % 1048576 = (x / 524288 % 2) * 524288 + x % 524288 := by omega
  have e2 : x / 1048576 = x / 524288 / 2 := by omega
  rw [e1, e2] at hy
  have b1 : 0 ≤ x % 524288 ∧ x % 524288 < 524288 := by omega
  have b2 : 0 ≤ x / 524288 ∧ x / 524288 < 8192 := by omega
  generalize x % 524288 = l at *
  generalize x / 524288 = a at *
  rcases (by omega : a % 2 = 0 ∨ a % 2 = 1) with h | h
  · rw [h] at hy; rw [turn1_lo hr (by omega)]; omega
  · rw [h] at hy; rw [turn1_hi hr (by omega)]; omega
theorem turn_14 {x : Int} (hx : R32 x) : turnN x 14 = (x % 262144) * 16384 + x / 262144 := by
  show turn1 (turnN x 13) = _
  have hr := hx.turnN 13
  have hy := turn_13 hx
  obtain ⟨h0, h1⟩ := hx
  have e1 : x % 524288 = (x / 262144 % 2) * 262144 + x % 262144 := by omega
  have e2 : x / 524288 = x / 262144 / 2 := by omega
  rw [e1, e2] at hy
  have b1 : 0 ≤ x % 262144 ∧ x % 262144 < 262144 := by omega
  have b2 : 0 ≤ x / 262144 ∧ x / 262144 < 16384 := by omega
  generalize x % 262144 = l at *
  generalize x / 262144 = a at *
  rcases (by omega : a % 2 = 0 ∨ a % 2 = 1) with h | h
  · rw [h] at hy; rw [turn1_lo hr (by omega)]; omega
  · rw [h] at hy; rw [turn1_hi hr (by omega)]; omega
theorem turn_15 {x : Int} (hx : R32 x) : turnN x 15 = (x % 131072) * 32768 + x / 131072 := by
  show turn1 (turnN x 14) = _
  have hr := hx.turnN 14
  have hy := turn_14 hx
  obtain ⟨h0, h1⟩ := hx
  have e1 : x % 262144 = (x / 131072 % 2) * 131072 + x % 131072 := by omega
  have e2 : x / 262144 = x / 131072 / 2 := by omega
  rw [e1, e2] at hy
  have b1 : 0 ≤ x % 131072 ∧ x % 131072 < 131072 := by omega
  have b2 : 0 ≤ x / 131072 ∧ x / 131072 < 32768 := by omega
  generalize x % 131072 = l at *
  generalize x / 131072 = a at *
  rcases (by omega : a % 2 = 0 ∨ a % 2 = 1) with h | h
  · rw [h] at hy; rw [turn1_lo hr (by omega)]; omega
  · rw [h] at hy; rw [turn1_hi hr (by omega)]; omega
theorem turn_16 {x : Int} (hx : R32 x) : turnN x 16 = (x % 65536) * 65536 + x / 65536 := by
  show turn1 (turnN x 15) = _
  have hr := hx.turnN 15
  have hy := turn_15 hx
  obtain ⟨h0, h1⟩ := hx
  have e1 : x % 131072 = (x / 65536 % 2) * 65536 + x % 65536 := by omega
  have e2 : x / 131072 = x / 65536 / 2 := by omega
  rw [e1, e2] at hy
  have b1 : 0 ≤ x % 65536 ∧ x % 65536 < 65536 := by omega
  have b2 : 0 ≤ x / 65536 ∧ x / 65536 < 65536 := by omega
  generalize x % 65536 = l at *
  generalize x / 65536 = a at *
  rcases (by omega : a % 2 = 0 ∨ a % 2 = 1) with h | h
  · rw [h] at hy; rw [turn1_lo hr (by omega)]; omega
  · rw [h] at hy; rw [turn1_hi hr (by omega)]; omega
theorem turn_left5 {x : Int} (hx : R32 x) : turnN x 5 = leftF x 5 := (turn_5 hx).trans (left_eq hx 32 134217728 5 (by decide) (by decide) (by decide)).symm
theorem turn_left7 {x : Int} (hx : R32 x) : turnN x 7 = leftF x 7 := (turn_7 hx).trans (left_eq hx 128 33554432 7 (by decide) (by decide) (by decide)).symm
theorem turn_left8 {x : Int} (hx : R32 x) : turnN x 8 = leftF x 8 := (turn_8 hx).trans (left_eq hx 256 16777216 8 (by decide) (by decide) (by decide)).symm
theorem turn_left13 {x : Int} (hx : R32 x) : turnN x 13 = leftF x 13 := (turn_13 hx).trans (left_eq hx 8192 524288 13 (by decide) (by decide) (by decide)).symm
theorem turn_left16 {x : Int} (hx : R32 x) : turnN x 16 = leftF x 16 := (turn_16 hx).trans (left_eq hx 65536 65536 16 (by decide) (by decide) (by decide)).symm
end Go.Proofs.Ytaoagcdljmpllaa
