/- Bits. -/
import Derived.Test.YtdehfehdaiappaaGreatDoorFsLim

namespace Go.Fs
theorem nat_and_not_one (x : Nat) (k : Nat) (hx : x < 2 ^ (k + 1)) : x &&& (2 ^ (k + 1) - 2) = 2 * (x / 2) := by
  apply Nat.eq_of_testBit_eq
  intro i
  rw [Nat.testBit_and]
  have e : 2 ^ (k + 1) - 2 = 2 * (2 ^ k - 1) := by rw [Nat.pow_succ]; omega
  rw [e]
  cases i with
  | zero => simp
  | succ i =>
    rw [Nat.testBit_succ (x := 2 * (2 ^ k - 1)), Nat.testBit_succ (x := 2 * (x / 2))]
    rw [Nat.mul_div_cancel_left _ (by omega), Nat.mul_div_cancel_left _ (by omega), Nat.testBit_two_pow_sub_one, Nat.testBit_div_two]
    by_cases h : i < k
    · simp [h]
    · have : x.testBit (i + 1) = false := Nat.testBit_lt_two_pow (Nat.lt_of_lt_of_le hx (Nat.pow_le_pow_right (by omega) (by omega)))
      simp [this]

theorem wrap_i64 {n : Int} (h1 : -9223372036854775808 ≤ n) (h2 : n ≤ 9223372036854775807) : IntKind.wrap .i64 n = n := by
  have e3 : IntKind.bits .i64 = 64 := rfl
  have e4 : IntKind.signed .i64 = true := rfl
  unfold IntKind.wrap
  simp only [e3, e4, Bool.true_and]
  have hp : (2 : Int) ^ 64 = 18446744073709551616 := by decide
  have hq : (2 : Int) ^ (64 - 1) = 9223372036854775808 := by decide
  simp only [hp, hq]
  split
  · rename_i h; simp only [decide_eq_true_eq] at h; omega
  · rename_i h; simp only [decide_eq_true_eq] at h; omega

theorem bits_bit (n : Int) (h1 : -9223372036854775808 ≤ n) (h2 : n ≤ 9223372036854775807) : (bits .andNot .i64 n 1 == 0) = decide (n = 0 ∨ n = 1) := by
  have e : bits .andNot .i64 n 1 = IntKind.wrap .i64 (((BitVec.ofInt 64 n) &&& ~~~(BitVec.ofInt 64 1)).toNat : Int) := rfl
  rw [e]
  have e2 : ((BitVec.ofInt 64 n) &&& ~~~(BitVec.ofInt 64 1)).toNat = 2 * ((BitVec.ofInt 64 n).toNat / 2) := by
    rw [BitVec.toNat_and]
    rw [show (~~~(BitVec.ofInt 64 1)).toNat = 2 ^ (63 + 1) - 2 by decide]
    exact nat_and_not_one _ 63 (BitVec.isLt _)
  rw [e2, BitVec.toNat_ofInt]
  have e3 : IntKind.bits .i64 = 64 := rfl
  have e4 : IntKind.signed .i64 = true := rfl
  unfold IntKind.wrap
  simp only [e3, e4, Bool.true_and]
  have hp : (2 : Int) ^ 64 = 18446744073709551616 := by decide
  have hq : (2 : Int) ^ (64 - 1) = 9223372036854775808 := by decide
  have hn : ((2 ^ 64 : Nat) : Int) = 18446744073709551616 := by decide
  simp only [hp, hq, hn]
  by_cases hc : n = 0 ∨ n = 1
  · rw [decide_eq_true hc]
    rcases hc with rfl | rfl <;> rfl
  · rw [decide_eq_false hc]
    have hne : 0 < (n % 18446744073709551616).toNat / 2 := by omega
    have hlt : (n % 18446744073709551616).toNat < 18446744073709551616 := by omega
    rw [beq_eq_false_iff_ne]
    intro h0
    split at h0 <;> omega
end Go.Fs
