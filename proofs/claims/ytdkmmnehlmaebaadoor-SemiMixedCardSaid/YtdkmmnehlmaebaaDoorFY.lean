/- Plain facts about doubles that are read: doubling, halving, a power of two times a whole number are without rounding where they can be. No condition. -/
import Derived.Test.YtdkmmnehlmaebaaDoorFX
namespace Go.FX
open Go.FT Go.Lib Ieee

abbrev TWO : Nat := 4611686018427387904       -- 1024 * 2^52
theorem V_rung (t f : Nat) (hf : f < B) : V ((t + 1) * B + f) = (B + f) * 2 ^ t := by
  unfold V mag ex
  have h1 : ¬ (t + 1) * B + f < B := by unfold B; omega
  have h2 : ((t + 1) * B + f) % B = f := by unfold B at *; omega
  have h3 : ((t + 1) * B + f) / B = t + 1 := by unfold B at *; omega
  rw [if_neg h1, if_neg h1, h2, h3, Nat.add_sub_cancel]
theorem V_low {r : Nat} (h : r < B) : V r = r := by
  unfold V mag ex; rw [if_pos h, if_pos h, Nat.pow_zero, Nat.mul_one]
theorem rung_split {r : Nat} (h : ¬ r < B) : r = (r / B - 1 + 1) * B + r % B := by unfold B at *; omega
def dbl (r : Nat) : Nat := if r < B then 2 * r else r + B
theorem V_dbl (r : Nat) : V (dbl r) = 2 * V r := by
  unfold dbl
  by_cases h : r < B
  · rw [if_pos h, V_low h]
    by_cases h2 : 2 * r < B
    · rw [V_low h2]
    · have e : 2 * r = (0 + 1) * B + (2 * r - B) := by omega
      have h3 : 2 * r - B < B := by omega
      rw [e, V_rung 0 _ h3, Nat.pow_zero]; omega
  · rw [if_neg h]
    have e := rung_split h
    have hf : r % B < B := Nat.mod_lt _ (by decide)
    have e2 : r + B = (r / B - 1 + 1 + 1) * B + r % B := by unfold B at *; omega
    have v1 : V r = (B + r % B) * 2 ^ (r / B - 1) := by
      have := V_rung (r / B - 1) (r % B) hf
      rw [← e] at this; exact this
    rw [e2, V_rung _ _ hf, v1, Nat.pow_succ]
    generalize (2 : Nat) ^ (r / B - 1) = g
    rw [Nat.mul_comm g 2, ← Nat.mul_assoc, Nat.mul_comm _ 2, Nat.mul_assoc]
theorem V_pow (r : Nat) : ∀ j : Nat, ∃ s, V s = V r * 2 ^ j
  | 0 => ⟨r, by rw [Nat.pow_zero, Nat.mul_one]⟩
  | j + 1 => by
    obtain ⟨s, hs⟩ := V_pow r j
    refine ⟨dbl s, ?_⟩
    rw [V_dbl, hs, Nat.pow_succ]
    generalize (2 : Nat) ^ j = g
    rw [Nat.mul_comm g 2, Nat.mul_comm 2, Nat.mul_assoc, Nat.mul_comm g 2]
theorem V_INF : V INF = 2 ^ 52 * 2 ^ 2046 := by
  have := V_rung 2046 0 (by decide)
  rw [show (2046 + 1) * B + 0 = INF by decide, Nat.add_zero] at this
  rw [this, show B = 2 ^ 52 by decide]
theorem two_aux (j k : Nat) (h : 52 + j = k + 1) : 2 ^ 52 * 2 ^ j = 2 ^ k * 2 := by
  rw [← Nat.pow_add, h, Nat.pow_succ]
theorem V_TWO : V TWO = 2 ^ 1074 * 2 := by
  have := V_rung 1023 0 (by decide)
  rw [show (1023 + 1) * B + 0 = TWO by decide, Nat.add_zero, show B = 2 ^ 52 by decide] at this
  exact this.trans (two_aux 1023 1074 rfl)
theorem pow_lt_B {b d : Nat} (h : b + 1 < d) : 2 * (B * 2 ^ b) < 2 ^ 52 * 2 ^ d := by
  rw [show B = 2 ^ 52 by decide, Nat.mul_left_comm, ← Nat.pow_succ']
  exact Nat.mul_lt_mul_of_pos_left (Nat.pow_lt_pow_right (by decide) h) (by decide)
theorem lt_of_V {r s : Nat} (h : V r < V s) : r < s := V_lt_iff.1 h

/-! whole numbers -/
theorem F_full {n : Nat} (h : n ≤ 2 * B) : F n < INF ∧ V (F n) = n * 2 ^ 1074 := by
  by_cases h1 : n < 2 * B
  · exact ⟨F_lt h1, V_F h1⟩
  · have e : n = 2 * B := by omega
    subst e
    have hb := V_F (n := B) (by decide)
    have hlt : dbl (F B) < INF := lt_of_V (Nat.lt_of_le_of_lt (Nat.le_of_eq ((V_dbl _).trans (congrArg (2 * ·) hb))) (Nat.lt_of_lt_of_eq (pow_lt_B (b := 1074) (d := 2046) (by omega)) V_INF.symm))
    have e2 : F (2 * B) = dbl (F B) := by
      unfold F at *
      refine nearest_of_V hlt 0 (by omega) ?_
      rw [V_dbl, hb, Nat.pow_zero, Nat.mul_one, show ((0 : Int) + 1074 + (0 : Nat)).toNat = 1074 from rfl]
      generalize (2 : Nat) ^ 1074 = g
      rw [Nat.mul_assoc]
    rw [e2]
    refine ⟨hlt, ?_⟩
    rw [V_dbl, hb]
    generalize (2 : Nat) ^ 1074 = g
    rw [Nat.mul_assoc]

/-! times 2 -/
theorem mul_two_fin {x : Nat} (h : x < INF) : D.mul x TWO = some (mulR x TWO) := mul_fin h (by decide)
theorem mulR_two {x y : Nat} (hy : y < INF) (h : V y = 2 * V x) : mulR x TWO = y := by
  unfold mulR
  refine nearest_of_V hy 1074 (by omega) ?_
  rw [show ((-2148 : Int) + 1074 + (1074 : Nat)).toNat = 0 from rfl, Nat.pow_zero, Nat.mul_one, h, V_TWO]
  generalize (2 : Nat) ^ 1074 = g
  rw [Nat.mul_comm g 2, ← Nat.mul_assoc, Nat.mul_comm (V x) 2]
theorem mul_two {x : Nat} (h : x ≤ INF) : ∃ y, D.mul x TWO = some y ∧ y ≤ INF ∧ ∀ r, r < INF → V r = 2 * V x → y = r := by
  by_cases e : x = INF
  · subst e
    refine ⟨INF, by decide, Nat.le_refl _, fun r hr hv => ?_⟩
    have := V_lt hr
    have hp : 0 < V INF := Nat.lt_of_lt_of_eq (Nat.mul_pos (Nat.two_pow_pos 52) (Nat.two_pow_pos 2046)) V_INF.symm
    omega
  · exact ⟨_, mul_two_fin (by omega), nearest_le_inf _ _, fun r hr hv => mulR_two hr hv⟩
/-! by 2 -/
theorem read_TWO : D.read TWO = .number false B (-51) := by decide
theorem half_aux {m e v s : Nat} (h : m * 2 ^ e = 2 * v) : 2 * (m * 2 ^ s) * 2 ^ (e + 2998) = v * 2 ^ (s + 3000) := by
  have h1 : 2 * (m * 2 ^ s) * 2 ^ (e + 2998) = m * 2 ^ e * (2 * 2 ^ s * 2 ^ 2998) := by
    rw [Nat.pow_add]
    generalize (2 : Nat) ^ 2998 = g
    generalize (2 : Nat) ^ s = p
    generalize (2 : Nat) ^ e = q
    ac_rfl
  have h2 : v * 2 ^ (s + 3000) = 2 * v * (2 * 2 ^ s * 2 ^ 2998) := by
    rw [show s + 3000 = 2998 + s + 1 + 1 by omega, Nat.pow_succ, Nat.pow_succ, Nat.pow_add]
    generalize (2 : Nat) ^ 2998 = g
    generalize (2 : Nat) ^ s = p
    ac_rfl
  rw [h1, h2, h]
theorem div_two_fin {x : Nat} (h : x < INF) : ∃ y, D.div x TWO = some y ∧ y ≤ INF ∧ ∀ r, r < INF → V x = 2 * V r → y = r := by
  unfold Format.div
  rw [read_fin h, read_TWO]
  simp only [Datum.quotient, Bool.xor_self]
  rw [if_neg (by decide : ¬ B = 0)]
  refine ⟨_, rfl, nearest_le_inf _ _, fun r hr hv => ?_⟩
  have hm := mag_lt x
  have hl : (mag x).log2 ≤ 52 := by
    by_cases h0 : mag x = 0
    · rw [h0]; decide
    · have := (Nat.log2_lt h0 (k := 53)).2 (by unfold B at hm; omega)
      omega
  have hB : B.log2 = 52 := by decide
  obtain ⟨s, hs⟩ : ∃ s, D.fractionBits + 2 + B.log2 - (mag x).log2 = s + 52 := ⟨D.fractionBits + 2 + B.log2 - (mag x).log2 - 52, by rw [hB, D_fb]; omega⟩
  rw [hs]
  have hd : (mag x <<< (s + 52)) = (mag x * 2 ^ s) * B := by
    rw [Nat.shiftLeft_eq, Nat.pow_add, ← Nat.mul_assoc]
  rw [hd, Nat.mul_div_cancel _ (by decide : 0 < B), Nat.mul_mod_left]
  refine nearest_of_V hr (s + 3000) (by omega) ?_
  have hx : V x = mag x * 2 ^ ex x := rfl
  rw [show (0 != 0).toNat = 0 from rfl, Nat.add_zero]
  rw [show (-1074 + (ex x : Int) - -51 - ((s + 52 : Nat) : Int) - 1 + 1074 + ((s + 3000 : Nat) : Int)).toNat = ex x + 2998 by omega]
  exact half_aux (by rw [← hx]; exact hv)
theorem div_two {x : Nat} (h : x ≤ INF) : ∃ y, D.div x TWO = some y ∧ y ≤ INF ∧ ∀ r, r < INF → V x = 2 * V r → x ≠ INF → y = r := by
  by_cases e : x = INF
  · subst e
    exact ⟨INF, by decide, Nat.le_refl _, fun r _ _ h => absurd rfl h⟩
  · obtain ⟨y, h1, h2, h3⟩ := div_two_fin (x := x) (by omega)
    exact ⟨y, h1, h2, fun r hr hv _ => h3 r hr hv⟩
end Go.FX
