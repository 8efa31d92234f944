/- Plain facts: the bits of a double as Go takes them apart. No condition. -/
import Derived.Test.YtdkmmnehlmaebaaDoorFP
import Derived.Laws.BitsAllLaws
import Derived.Laws.BitsLemmas
namespace Go.FX
open Go.FT

theorem top_bit {x : Nat} (hx : x < W64) : x.testBit 63 = ng x := by
  unfold ng
  rw [Nat.testBit_eq_decide_div_mod_eq]
  unfold W64 at hx
  by_cases g : SGN ≤ x
  · rw [decide_eq_true g]; apply decide_eq_true; unfold SGN at *; omega
  · rw [decide_eq_false g]; apply decide_eq_false; unfold SGN at *; omega
theorem and_sgn_nat {x : Nat} (hx : x < W64) : x &&& SGN = if ng x then SGN else 0 := by
  apply Nat.eq_of_testBit_eq
  intro i
  rw [← top_bit hx, Nat.testBit_and, show SGN = 2 ^ 63 by decide, Nat.testBit_two_pow]
  by_cases g : 63 = i
  · subst g
    rw [decide_eq_true rfl, Bool.and_true]
    cases h : x.testBit 63
    · rw [if_neg Bool.false_ne_true, Nat.zero_testBit]
    · rw [if_pos rfl, Nat.testBit_two_pow, decide_eq_true rfl]
  · rw [decide_eq_false g, Bool.and_false]
    cases h : x.testBit 63
    · rw [if_neg Bool.false_ne_true, Nat.zero_testBit]
    · rw [if_pos rfl, Nat.testBit_two_pow, decide_eq_false g]
theorem xor_max_nat {x : Nat} (hx : x < W64) : 18446744073709551615 ^^^ x = 18446744073709551615 - x := by
  apply Nat.eq_of_testBit_eq
  intro i
  have h1 := Nat.testBit_two_pow_sub_succ (x := x) (n := 64) hx i
  rw [show 18446744073709551615 - x = 2 ^ 64 - (x + 1) by unfold W64 at hx; omega, h1, Nat.testBit_xor]
  have h2 := Nat.testBit_two_pow_sub_one 64 i
  rw [show (2 : Nat) ^ 64 - 1 = 18446744073709551615 by decide] at h2
  rw [h2]
  by_cases g : i < 64
  · rw [decide_eq_true g]; simp
  · rw [decide_eq_false g]
    have : x.testBit i = false := Nat.testBit_lt_two_pow (Nat.lt_of_lt_of_le hx (Nat.le_trans (by decide : W64 ≤ 2 ^ 64) (Nat.pow_le_pow_right (by decide) (by omega))))
    rw [this]; rfl
theorem mod_sgn_nat (x : Nat) : x &&& 9223372036854775807 = x % SGN := Nat.and_two_pow_sub_one_eq_mod x 63

theorem w_and {x m : Nat} (hx : x < W64) (hm : m < W64) : bits .and .u64 (x : Int) (m : Int) = ((x &&& m : Nat) : Int) := u64_and_nat x m hx hm
theorem w_or {x m : Nat} (hx : x < W64) (hm : m < W64) : bits .or .u64 (x : Int) (m : Int) = ((x ||| m : Nat) : Int) := u64_or_nat x m hx hm
theorem w_xor {x m : Nat} (hx : x < W64) (hm : m < W64) : bits .xor .u64 (x : Int) (m : Int) = ((x ^^^ m : Nat) : Int) := u64_xor_nat x m hx hm
theorem sgn_test {x : Nat} (hx : x < W64) : (bits .and .u64 (x : Int) 9223372036854775808 != 0) = ng x := by
  have h := w_and hx (show SGN < W64 by decide)
  rw [and_sgn_nat hx] at h
  rw [show ((9223372036854775808 : Int)) = ((SGN : Nat) : Int) from rfl, h]
  cases ng x <;> rfl
theorem not_w {x : Nat} (hx : x < W64) : bits .xor .u64 IntKind.u64.max (x : Int) = ((18446744073709551615 - x : Nat) : Int) := by
  have h := w_xor (show 18446744073709551615 < W64 by decide) hx
  rw [xor_max_nat hx] at h
  exact h
theorem or_sgn {x : Nat} (hx : x < SGN) : bits .or .u64 (x : Int) 9223372036854775808 = ((x + SGN : Nat) : Int) := by
  have h := w_or (show x < W64 by unfold SGN at hx; unfold W64; omega) (show SGN < W64 by decide)
  have h2 := Nat.two_pow_add_eq_or_of_lt (i := 63) (b := x) (by rw [show (2 : Nat) ^ 63 = SGN by decide]; exact hx) 1
  rw [show (2 : Nat) ^ 63 * 1 = SGN by decide] at h2
  rw [Nat.or_comm, ← h2, Nat.add_comm] at h
  exact h
theorem exp_bits {x : Nat} (hx : x < W64) : bits .and .u64 ((x : Int) / 4503599627370496) 2047 = ((x % SGN / B : Nat) : Int) := by
  have h := u64_and_nat (x / 4503599627370496) 2047 (by unfold W64 at hx; omega) (by omega)
  rw [show x / 4503599627370496 &&& 2047 = x / 4503599627370496 % 2 ^ 11 from Nat.and_two_pow_sub_one_eq_mod _ 11] at h
  rw [show ((x : Int) / 4503599627370496) = ((x / 4503599627370496 : Nat) : Int) by omega]
  rw [show (2047 : Int) = ((2047 : Nat) : Int) from rfl, h]
  unfold W64 at hx; unfold SGN B; omega
theorem frac_bits {x : Nat} (hx : x < W64) : bits .and .u64 (x : Int) 4503599627370495 = ((x % SGN % B : Nat) : Int) := by
  have h := u64_and_nat x 4503599627370495 hx (by omega)
  rw [show x &&& 4503599627370495 = x % 2 ^ 52 from Nat.and_two_pow_sub_one_eq_mod _ 52] at h
  rw [show (4503599627370495 : Int) = ((4503599627370495 : Nat) : Int) from rfl, h]
  unfold SGN B; omega
theorem or_B {f : Nat} (hf : f < B) : bits .or .u64 (f : Int) 4503599627370496 = ((B + f : Nat) : Int) := by
  have h := u64_or_nat f 4503599627370496 (by unfold B at hf; omega) (by omega)
  have h2 := Nat.two_pow_add_eq_or_of_lt (i := 52) (b := f) (by unfold B at hf; exact hf) 1
  rw [show (2 : Nat) ^ 52 * 1 = 4503599627370496 by decide] at h2
  rw [Nat.or_comm, ← h2] at h
  rw [show (4503599627370496 : Int) = ((4503599627370496 : Nat) : Int) from rfl, h]
theorem andNot_sgn {x : Nat} (hx : x < W64) : bits .andNot .u64 (x : Int) 9223372036854775808 = ((x % SGN : Nat) : Int) := by
  have h := u64_andNot_nat x SGN hx (by decide)
  rw [show 18446744073709551615 - SGN = 9223372036854775807 by decide, mod_sgn_nat] at h
  exact h
theorem isN_bits {x : Nat} (hx : x < W64) : decide (9218868437227405312 < bits .andNot .u64 (x : Int) 9223372036854775808) = isN x := by
  rw [andNot_sgn hx]
  unfold isN
  rw [Bool.eq_iff_iff, decide_eq_true_iff, decide_eq_true_iff]
  unfold INF SGN; omega
end Go.FX
