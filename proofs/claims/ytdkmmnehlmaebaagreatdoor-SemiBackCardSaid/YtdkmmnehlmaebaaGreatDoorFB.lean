/- Plain facts about doubles from 0 to infinity: their bits stand in the order of their values; rounding keeps the order, and leaves what is a double alone. No condition. -/
import Ieee.Arith
import Derived.Lib.TrailingZeros
import Derived.Lib.ItoaNum
import Derived.Lib.ParseIntBCases
import Derived.Lib.IndexMore
import Derived.Lib.IndexLaws
import Derived.Lib.Strings
import Derived.Laws.BitsAllLaws
import Derived.Laws.BitsLemmas
namespace Go.FT
open Ieee

abbrev D : Format := Ieee.double
abbrev B : Nat := 4503599627370496            -- 2^52
abbrev INF : Nat := 9218868437227405312       -- 2047 * 2^52
abbrev SGN : Nat := 9223372036854775808       -- 2^63

theorem D_fb : D.fractionBits = 52 := rfl
theorem D_lp : D.leastPlace = -1074 := by decide
theorem D_binade : D.binade = B := by decide
theorem D_inf : D.infRung = INF := by decide
theorem D_sgn : D.signWeight = SGN := by decide

/-- The digits and the place of a rung; its value in units of the least one. -/
def mag (r : Nat) : Nat := if r < B then r else B + r % B
def ex (r : Nat) : Nat := if r < B then 0 else r / B - 1
def V (r : Nat) : Nat := mag r * 2 ^ ex r

theorem read_fin {r : Nat} (h : r < INF) : D.read r = .number false (mag r) (-1074 + (ex r : Int)) := by
  unfold Format.read
  simp only [D_sgn, D_binade, D_inf, D_lp]
  have h1 : r / SGN % 2 == 1 ↔ False := by
    have : r / SGN = 0 := Nat.div_eq_of_lt (by unfold SGN; unfold INF at h; omega)
    simp [this]
  have h2 : r % SGN = r := Nat.mod_eq_of_lt (by unfold SGN; unfold INF at h; omega)
  have h3 : (r / SGN % 2 == 1) = false := by simpa using h1
  rw [h2, h3]
  unfold mag ex
  by_cases hb : r < B
  · simp [hb]
  · rw [if_neg hb, if_pos h, if_neg hb, if_neg hb]

theorem read_inf : D.read INF = .infinity false := by decide

theorem V_lt_succ (r : Nat) : V r < V (r + 1) := by
  unfold V mag ex
  by_cases h1 : r + 1 < B
  · rw [if_pos (by omega), if_pos h1, if_pos (by omega), if_pos h1]; omega
  · by_cases h0 : r < B
    · have : r + 1 = B := by omega
      rw [if_pos h0, if_pos h0, if_neg h1, if_neg h1, this]; unfold B at *; simp; omega
    · rw [if_neg h0, if_neg h0, if_neg h1, if_neg h1]
      by_cases ht : r % B + 1 < B
      · have e1 : (r + 1) % B = r % B + 1 := by unfold B at *; omega
        have e2 : (r + 1) / B = r / B := by unfold B at *; omega
        rw [e1, e2]
        exact Nat.mul_lt_mul_of_pos_right (by omega) (Nat.two_pow_pos _)
      · have e1 : (r + 1) % B = 0 := by unfold B at *; omega
        have e2 : (r + 1) / B = r / B + 1 := by unfold B at *; omega
        have e3 : r / B - 1 + 1 = r / B := by unfold B at *; omega
        rw [e1, e2, Nat.add_sub_cancel, ← e3, Nat.add_sub_cancel, Nat.pow_succ]
        have hp := Nat.two_pow_pos (r / B - 1)
        have : r % B < B := Nat.mod_lt _ (by decide)
        calc (B + r % B) * 2 ^ (r / B - 1) < (2 * B) * 2 ^ (r / B - 1) := Nat.mul_lt_mul_of_pos_right (by omega) hp
          _ = (B + 0) * (2 ^ (r / B - 1) * 2) := by rw [Nat.add_zero, Nat.mul_comm 2 B, Nat.mul_assoc, Nat.mul_comm 2]

theorem V_lt {r s : Nat} (h : r < s) : V r < V s := by
  induction s with
  | zero => omega
  | succ s ih =>
    by_cases e : r = s
    · subst e; exact V_lt_succ r
    · exact Nat.lt_trans (ih (by omega)) (V_lt_succ s)

theorem V_lt_iff {r s : Nat} : V r < V s ↔ r < s := by
  constructor
  · intro h
    by_cases e : r < s
    · exact e
    · by_cases e' : r = s
      · subst e'; omega
      · have := V_lt (r := s) (s := r) (by omega); omega
  · exact V_lt
theorem V_inj {r s : Nat} (h : V r = V s) : r = s := by
  by_cases e : r < s
  · have := V_lt e; omega
  · by_cases e' : s < r
    · have := V_lt e'; omega
    · omega
theorem V_le {r s : Nat} (h : r ≤ s) : V r ≤ V s := by
  by_cases e : r = s
  · subst e; exact Nat.le_refl _
  · exact Nat.le_of_lt (V_lt (by omega))

/-- The nearest whole number, between two the even one. -/
def rne (n d : Nat) : Nat := n / d + (if d < 2 * (n % d) ∨ (d = 2 * (n % d) ∧ n / d % 2 = 1) then 1 else 0)

theorem rne_mono {n m d : Nat} (h : n ≤ m) : rne n d ≤ rne m d := by
  unfold rne
  have hq : n / d ≤ m / d := Nat.div_le_div_right h
  by_cases e : n / d = m / d
  · have hn := Nat.div_add_mod n d
    have hm := Nat.div_add_mod m d
    rw [e] at hn
    rw [e]
    have : n % d ≤ m % d := by omega
    split <;> split <;> rename_i a b <;> omega
  · split <;> split <;> omega

theorem rne_scale (n d s : Nat) (hs : 0 < s) : rne (n * s) (d * s) = rne n d := by
  unfold rne
  rw [Nat.mul_div_mul_right _ _ hs, Nat.mul_mod_mul_right]
  have e1 : (d * s < 2 * (n % d * s)) ↔ (d < 2 * (n % d)) := by
    rw [← Nat.mul_assoc]; exact Nat.mul_lt_mul_right hs
  have e2 : (d * s = 2 * (n % d * s)) ↔ (d = 2 * (n % d)) := by
    rw [← Nat.mul_assoc]; exact Nat.mul_right_cancel_iff hs
  simp only [e1, e2]

theorem rne_ge (n d : Nat) : n / d ≤ rne n d := by unfold rne; omega
theorem rne_le (n d : Nat) : rne n d ≤ n / d + 1 := by unfold rne; split <;> omega
theorem rne_exact (n d : Nat) (hd : 0 < d) : rne (n * d) d = n := by
  unfold rne
  rw [Nat.mul_div_cancel _ hd, Nat.mul_mod_left]
  simp
  omega

theorem cut_even (n drop : Nat) : Toward.even.cut false n drop = rne n (2 ^ drop) := by
  unfold Toward.cut
  simp only [Nat.one_shiftLeft]
  by_cases h : drop ≤ n.log2 + 2
  · rw [Nat.min_eq_left h]
    unfold rne
    congr 1
    generalize 2 ^ drop = g
    generalize n % g = x
    generalize n / g % 2 = y
    by_cases a : g < 2 * x
    · rw [if_pos (Or.inl a), decide_eq_true a]; rfl
    · rw [decide_eq_false a, Bool.false_or]
      by_cases b : g = 2 * x ∧ y = 1
      · rw [if_pos (Or.inr b), b.2, ← b.1]; simp
      · rw [if_neg (fun h => h.elim a b)]
        have : (g == 2 * x && y == 1) = false := by
          rw [Bool.and_eq_false_iff]
          by_cases c : g = 2 * x
          · right; simpa using fun e => b ⟨c, e⟩
          · left; simpa using c
        rw [this]; rfl
  · rw [Nat.min_eq_right (by omega)]
    have hn : n < 2 ^ (n.log2 + 1) := Nat.lt_log2_self
    have h1 : 2 ^ (n.log2 + 2) = 2 * 2 ^ (n.log2 + 1) := by rw [Nat.pow_succ]; omega
    have h2 : 2 ^ (n.log2 + 2) ≤ 2 ^ drop := Nat.pow_le_pow_right (by omega) (by omega)
    unfold rne
    have g1 : n < 2 ^ (n.log2 + 2) := by omega
    have g2 : n < 2 ^ drop := by omega
    rw [Nat.div_eq_of_lt g1, Nat.mod_eq_of_lt g1, Nat.div_eq_of_lt g2, Nat.mod_eq_of_lt g2]
    rw [if_neg (by omega)]
    have a : decide (2 ^ (n.log2 + 2) < 2 * n) = false := by simp; omega
    simp [a]

/-- Rounding, in the form that proofs like: 'last' is the place of the last digit. -/
def lastOf (m : Nat) (p : Int) : Int := max (p + m.log2 - 52) (-1074)
def kept (m : Nat) (p last : Int) : Nat := rne (m * 2 ^ (p - last).toNat) (2 ^ (last - p).toNat)

theorem nearest_eq (m : Nat) (p : Int) (h : m ≠ 0) :
    D.nearest false m p = min ((lastOf m p + 1074).toNat * B + kept m p (lastOf m p)) INF := by
  unfold Format.nearest
  rw [if_neg h]
  simp only [D_lp, D_fb, D_binade, D_inf, Format.word, Nat.shiftLeft_eq, cut_even, Bool.false_eq_true, if_false]
  unfold kept lastOf
  congr 3

theorem nearest_zero (p : Int) : D.nearest false 0 p = 0 := by
  unfold Format.nearest; simp [Format.word]

theorem nearest_le_inf (m : Nat) (p : Int) : D.nearest false m p ≤ INF := by
  by_cases h : m = 0
  · subst h; rw [nearest_zero]; unfold INF; omega
  · rw [nearest_eq m p h]; exact Nat.min_le_right _ _

theorem kept_scale (m : Nat) (p last : Int) (c : Int) (h1 : 0 ≤ p + c) (h2 : 0 ≤ last + c) :
    kept m p last = rne (m * 2 ^ (p + c).toNat) (2 ^ (last + c).toNat) := by
  unfold kept
  by_cases h : p ≤ last
  · have e1 : (p - last).toNat = 0 := by omega
    have e2 : (last + c).toNat = (last - p).toNat + (p + c).toNat := by omega
    rw [e1, e2, Nat.pow_zero, Nat.mul_one, Nat.pow_add, rne_scale _ _ _ (Nat.two_pow_pos _)]
  · have e1 : (last - p).toNat = 0 := by omega
    have e2 : (p + c).toNat = (p - last).toNat + (last + c).toNat := by omega
    rw [e1, e2, Nat.pow_zero, Nat.pow_add, ← Nat.mul_assoc]
    have := rne_scale (m * 2 ^ (p - last).toNat) 1 (2 ^ (last + c).toNat) (Nat.two_pow_pos _)
    rw [Nat.one_mul] at this
    exact this.symm

theorem pow_lt_of_log2 {m : Nat} (h : m ≠ 0) : 2 ^ m.log2 ≤ m ∧ m < 2 ^ (m.log2 + 1) :=
  ⟨Nat.log2_self_le h, Nat.lt_log2_self⟩

theorem min_mono {a b c : Nat} (h : a ≤ b) : min a c ≤ min b c := by omega
theorem glue {x y b k k' : Nat} (hk : k ≤ 2 * b) (hk' : b ≤ k') (h : x + b ≤ y) : x + k ≤ y + k' := by omega
/-- ROUNDING KEEPS THE ORDER: 'c' brings both to whole numbers. -/
theorem nearest_mono {m m' : Nat} {p p' c : Int} (hp : 0 ≤ p + c) (hp' : 0 ≤ p' + c)
    (h : m * 2 ^ (p + c).toNat ≤ m' * 2 ^ (p' + c).toNat) : D.nearest false m p ≤ D.nearest false m' p' := by
  by_cases hm : m = 0
  · subst hm; rw [nearest_zero]; omega
  have hm' : m' ≠ 0 := by
    intro e; subst e
    have := Nat.two_pow_pos (p + c).toNat
    rw [Nat.zero_mul] at h
    have h2 : m * 2 ^ (p + c).toNat = 0 := by omega
    rcases Nat.mul_eq_zero.1 h2 with h3 | h3 <;> omega
  rw [nearest_eq m p hm, nearest_eq m' p' hm']
  obtain ⟨l1, l2⟩ := pow_lt_of_log2 hm
  obtain ⟨l3, l4⟩ := pow_lt_of_log2 hm'
  have hL : p + m.log2 ≤ p' + m'.log2 := by
    have a : 2 ^ (m.log2 + (p + c).toNat) < 2 ^ (m'.log2 + 1 + (p' + c).toNat) := by
      rw [Nat.pow_add, Nat.pow_add 2 (m'.log2 + 1)]
      calc 2 ^ m.log2 * 2 ^ (p + c).toNat ≤ m * 2 ^ (p + c).toNat := Nat.mul_le_mul_right _ l1
        _ ≤ m' * 2 ^ (p' + c).toNat := h
        _ < 2 ^ (m'.log2 + 1) * 2 ^ (p' + c).toNat := Nat.mul_lt_mul_of_pos_right l4 (Nat.two_pow_pos _)
    have := (Nat.pow_lt_pow_iff_right (a := 2) (by omega)).1 a
    omega
  have hlast : lastOf m p ≤ lastOf m' p' := by unfold lastOf; omega
  -- a finer unit
  obtain ⟨C, hC⟩ : ∃ C : Nat, (C : Int) = max c 1074 - c := ⟨(max c 1074 - c).toNat, by omega⟩
  have hge : -1074 ≤ lastOf m p := by unfold lastOf; omega
  have hge' : -1074 ≤ lastOf m' p' := by unfold lastOf; omega
  have k1 := kept_scale m p (lastOf m p) (c + C) (by omega) (by omega)
  have k2 := kept_scale m' p' (lastOf m' p') (c + C) (by omega) (by omega)
  have e1 : (p + (c + C)).toNat = (p + c).toNat + C := by omega
  have e2 : (p' + (c + C)).toNat = (p' + c).toNat + C := by omega
  have hh : m * 2 ^ (p + (c + C)).toNat ≤ m' * 2 ^ (p' + (c + C)).toNat := by
    rw [e1, e2, Nat.pow_add, Nat.pow_add, ← Nat.mul_assoc, ← Nat.mul_assoc]
    exact Nat.mul_le_mul_right _ h
  have main : (lastOf m p + 1074).toNat * B + kept m p (lastOf m p) ≤ (lastOf m' p' + 1074).toNat * B + kept m' p' (lastOf m' p') := by
    by_cases e : lastOf m p = lastOf m' p'
    · rw [k1, k2, e]
      exact Nat.add_le_add_left (rne_mono hh) _
    · have hlt : lastOf m p < lastOf m' p' := by omega
      have hk : kept m p (lastOf m p) ≤ 2 * B := by
        have hle : p + m.log2 - 52 ≤ lastOf m p := by unfold lastOf; omega
        rw [k1]
        have : m * 2 ^ (p + (c + C)).toNat / 2 ^ (lastOf m p + (c + C)).toNat < 2 * B := by
          rw [Nat.div_lt_iff_lt_mul (Nat.two_pow_pos _)]
          calc m * 2 ^ (p + (c + C)).toNat < 2 ^ (m.log2 + 1) * 2 ^ (p + (c + C)).toNat := Nat.mul_lt_mul_of_pos_right l2 (Nat.two_pow_pos _)
            _ = 2 ^ (m.log2 + 1 + (p + (c + C)).toNat) := by rw [← Nat.pow_add]
            _ ≤ 2 ^ (53 + (lastOf m p + (c + C)).toNat) := Nat.pow_le_pow_right (by omega) (by omega)
            _ = 2 * B * 2 ^ (lastOf m p + (c + C)).toNat := by rw [Nat.pow_add]; rfl
        have := rne_le (m * 2 ^ (p + (c + C)).toNat) (2 ^ (lastOf m p + (c + C)).toNat)
        omega
      have hk' : B ≤ kept m' p' (lastOf m' p') := by
        have hle : lastOf m' p' = p' + m'.log2 - 52 := by unfold lastOf at hlt ⊢; omega
        rw [k2]
        have : B ≤ m' * 2 ^ (p' + (c + C)).toNat / 2 ^ (lastOf m' p' + (c + C)).toNat := by
          rw [Nat.le_div_iff_mul_le (Nat.two_pow_pos _)]
          calc B * 2 ^ (lastOf m' p' + (c + C)).toNat = 2 ^ (52 + (lastOf m' p' + (c + C)).toNat) := by rw [Nat.pow_add]
            _ = 2 ^ (m'.log2 + (p' + (c + C)).toNat) := by congr 1; omega
            _ = 2 ^ m'.log2 * 2 ^ (p' + (c + C)).toNat := by rw [← Nat.pow_add]
            _ ≤ m' * 2 ^ (p' + (c + C)).toNat := Nat.mul_le_mul_right _ l3
        have := rne_ge (m' * 2 ^ (p' + (c + C)).toNat) (2 ^ (lastOf m' p' + (c + C)).toNat)
        omega
      have : (lastOf m p + 1074).toNat + 1 ≤ (lastOf m' p' + 1074).toNat := by omega
      have := Nat.mul_le_mul_right B this
      rw [Nat.add_mul, Nat.one_mul] at this
      exact glue hk hk' this
  exact min_mono main

theorem nearest_congr {m m' : Nat} {p p' c : Int} (hp : 0 ≤ p + c) (hp' : 0 ≤ p' + c)
    (h : m * 2 ^ (p + c).toNat = m' * 2 ^ (p' + c).toNat) : D.nearest false m p = D.nearest false m' p' :=
  Nat.le_antisymm (nearest_mono hp hp' (by omega)) (nearest_mono hp' hp (by omega))

theorem mag_lt (r : Nat) : mag r < 2 * B := by
  unfold mag; split
  · omega
  · have : r % B < B := Nat.mod_lt _ (by decide)
    omega

theorem log2_of {m k : Nat} (h1 : 2 ^ k ≤ m) (h2 : m < 2 ^ (k + 1)) : m.log2 = k := by
  have h0 : m ≠ 0 := by have := Nat.two_pow_pos k; omega
  have a := (Nat.le_log2 h0).2 h1
  have b := (Nat.log2_lt h0).2 h2
  omega

theorem kept_self (m : Nat) (p : Int) : kept m p p = m := by
  unfold kept
  rw [Int.sub_self, Int.toNat_zero, Nat.pow_zero]
  exact rne_exact m 1 (by omega)
theorem log2_lt52 {r : Nat} (h0 : r ≠ 0) (h : r < B) : r.log2 < 52 := (Nat.log2_lt h0).2 h
theorem self_low {r : Nat} (h : r < INF) (hb : r < B) : D.nearest false r (-1074) = r := by
  by_cases h0 : r = 0
  · subst h0; exact nearest_zero _
  · rw [nearest_eq _ _ h0]
    have hl := log2_lt52 h0 hb
    have : lastOf r (-1074) = -1074 := by unfold lastOf; omega
    rw [this, kept_self]
    rw [show ((-1074 : Int) + 1074).toNat = 0 from rfl, Nat.zero_mul, Nat.zero_add]
    exact Nat.min_eq_left (Nat.le_of_lt h)
theorem log2_mid {t : Nat} (h : t < B) : (B + t).log2 = 52 := by
  refine log2_of ?_ ?_
  · exact Nat.le_add_right B t
  · have : (2 : Nat) ^ (52 + 1) = B + B := by decide
    rw [this]; omega
theorem self_high {q t : Nat} (hq : 1 ≤ q) (ht : t < B) (h : q * B + t < INF) : D.nearest false (B + t) (-1074 + ((q - 1 : Nat) : Int)) = q * B + t := by
  have h0 : B + t ≠ 0 := by have : 0 < B := by decide
                            omega
  rw [nearest_eq _ _ h0]
  have hl := log2_mid ht
  have hlast : lastOf (B + t) (-1074 + ((q - 1 : Nat) : Int)) = -1074 + ((q - 1 : Nat) : Int) := by unfold lastOf; rw [hl]; omega
  rw [hlast, kept_self]
  have e : (-1074 + ((q - 1 : Nat) : Int) + 1074).toNat = q - 1 := by omega
  rw [e]
  have e2 : (q - 1) * B + (B + t) = q * B + t := by
    obtain ⟨k, rfl⟩ : ∃ k, q = k + 1 := ⟨q - 1, by omega⟩
    rw [Nat.add_sub_cancel, Nat.add_mul, Nat.one_mul, Nat.add_assoc]
  rw [e2]
  exact Nat.min_eq_left (Nat.le_of_lt h)
/-- WHAT IS A DOUBLE STAYS AS IT IS. -/
theorem nearest_self {r : Nat} (h : r < INF) : D.nearest false (mag r) (-1074 + (ex r : Int)) = r := by
  by_cases hb : r < B
  · have hm : mag r = r := by unfold mag; rw [if_pos hb]
    have he : ex r = 0 := by unfold ex; rw [if_pos hb]
    rw [hm, he]
    exact self_low h hb
  · have hm : mag r = B + r % B := by unfold mag; rw [if_neg hb]
    have he : ex r = r / B - 1 := by unfold ex; rw [if_neg hb]
    have hdm : r / B * B + r % B = r := by rw [Nat.mul_comm]; exact Nat.div_add_mod r B
    rw [hm, he]
    have := self_high (q := r / B) (t := r % B) ((Nat.le_div_iff_mul_le (by decide)).2 (by omega)) (Nat.mod_lt _ (by decide)) (by rw [hdm]; exact h)
    rw [this, hdm]

theorem nearest_of_V {r m : Nat} {p : Int} (h : r < INF) (q : Nat) (hp : 0 ≤ p + 1074 + q) (hv : m * 2 ^ (p + 1074 + q).toNat = V r * 2 ^ q) : D.nearest false m p = r := by
  rw [← nearest_self h]
  refine nearest_congr (c := 1074 + q) (by omega) (by omega) ?_
  have e : (-1074 + (ex r : Int) + (1074 + q)).toNat = ex r + q := by omega
  rw [e, Nat.pow_add, ← Nat.mul_assoc, ← Int.add_assoc]
  exact hv

/-! ### Order, sum, product of the doubles from 0 on -/

theorem cmp_nat (a b : Nat) : compare a b = if a < b then .lt else if a = b then .eq else .gt := by
  show compareOfLessAndEq a b = _
  rfl
theorem cmp_int (a b : Int) : compare a b = if a < b then .lt else if a = b then .eq else .gt := by
  show compareOfLessAndEq a b = _
  rfl

theorem V_shift (r k : Nat) (h : k ≤ ex r) : mag r * 2 ^ (ex r - k) * 2 ^ k = V r := by
  unfold V
  rw [Nat.mul_assoc, ← Nat.pow_add, Nat.sub_add_cancel h]

theorem order_fin {r s : Nat} (hr : r ≤ INF) (hs : s ≤ INF) : D.order r s = some (compare r s) := by
  unfold Format.order
  by_cases h1 : r = INF
  · by_cases h2 : s = INF
    · subst h1 h2; rw [read_inf, cmp_nat]; rfl
    · subst h1; rw [read_inf, read_fin (r := s) (by omega), cmp_nat, if_neg (by omega), if_neg (by omega)]; rfl
  · by_cases h2 : s = INF
    · subst h2; rw [read_inf, read_fin (r := r) (by omega), cmp_nat, if_pos (by omega)]; rfl
    · rw [read_fin (r := r) (by omega), read_fin (r := s) (by omega)]
      simp only [Datum.order, signed, Bool.false_eq_true, if_false, Nat.shiftLeft_eq]
      obtain ⟨k, hk⟩ : ∃ k : Nat, k = min (ex r) (ex s) := ⟨_, rfl⟩
      have e1 : ((-1074 + (ex r : Int)) - min (-1074 + (ex r : Int)) (-1074 + (ex s : Int))).toNat = ex r - k := by omega
      have e2 : ((-1074 + (ex s : Int)) - min (-1074 + (ex r : Int)) (-1074 + (ex s : Int))).toNat = ex s - k := by omega
      rw [e1, e2]
      have v1 := V_shift r k (by omega)
      have v2 := V_shift s k (by omega)
      have hp := Nat.two_pow_pos k
      rw [cmp_int, cmp_nat]
      by_cases a : r < s
      · have := V_lt a
        rw [← v1, ← v2] at this
        have := Nat.lt_of_mul_lt_mul_right this
        rw [if_pos a, if_pos (by exact_mod_cast this)]
      · by_cases b : r = s
        · subst b; rw [if_neg a, if_pos rfl, if_neg (by omega), if_pos rfl]
        · have := V_lt (r := s) (s := r) (by omega)
          rw [← v1, ← v2] at this
          have := Nat.lt_of_mul_lt_mul_right this
          rw [if_neg a, if_neg b, if_neg (by have : ((mag s * 2 ^ (ex s - k) : Nat) : Int) < ((mag r * 2 ^ (ex r - k) : Nat) : Int) := by exact_mod_cast this
                                             omega), if_neg (by have : ((mag s * 2 ^ (ex s - k) : Nat) : Int) < ((mag r * 2 ^ (ex r - k) : Nat) : Int) := by exact_mod_cast this
                                                                omega)]

def addR (r s : Nat) : Nat := if r = INF ∨ s = INF then INF else D.nearest false (V r + V s) (-1074)
def mulR (r s : Nat) : Nat := D.nearest false (V r * V s) (-2148)

theorem add_fin {r s : Nat} (hr : r ≤ INF) (hs : s ≤ INF) : D.add r s = some (addR r s) := by
  unfold Format.add addR
  by_cases h1 : r = INF
  · rw [if_pos (Or.inl h1)]
    by_cases h2 : s = INF
    · subst h1 h2; rw [read_inf]; decide
    · subst h1; rw [read_inf, read_fin (r := s) (by omega)]; simp only [Datum.sum, Option.map_some, Format.write]; decide
  · by_cases h2 : s = INF
    · rw [if_pos (Or.inr h2)]
      subst h2; rw [read_inf, read_fin (r := r) (by omega)]; simp only [Datum.sum, Option.map_some, Format.write]; decide
    · rw [if_neg (by omega), read_fin (r := r) (by omega), read_fin (r := s) (by omega)]
      simp only [Datum.sum, signed, Bool.false_eq_true, if_false, Nat.shiftLeft_eq, Option.map_some, Format.write]
      obtain ⟨k, hk⟩ : ∃ k : Nat, k = min (ex r) (ex s) := ⟨_, rfl⟩
      have e1 : ((-1074 + (ex r : Int)) - min (-1074 + (ex r : Int)) (-1074 + (ex s : Int))).toNat = ex r - k := by omega
      have e2 : ((-1074 + (ex s : Int)) - min (-1074 + (ex r : Int)) (-1074 + (ex s : Int))).toNat = ex s - k := by omega
      have e3 : min (-1074 + (ex r : Int)) (-1074 + (ex s : Int)) = -1074 + (k : Int) := by omega
      rw [e1, e2, e3]
      have v1 := V_shift r k (by omega)
      have v2 := V_shift s k (by omega)
      obtain ⟨a, ha⟩ : ∃ a, a = mag r * 2 ^ (ex r - k) := ⟨_, rfl⟩
      obtain ⟨b, hb⟩ : ∃ b, b = mag s * 2 ^ (ex s - k) := ⟨_, rfl⟩
      rw [← ha] at v1 ⊢
      rw [← hb] at v2 ⊢
      have n1 : (if (a : Int) + (b : Int) = 0 then (false && false) else decide ((a : Int) + (b : Int) < 0)) = false := by
        split
        · rfl
        · simp; omega
      have n2 : ((a : Int) + (b : Int)).natAbs = a + b := by omega
      rw [n1, n2]
      congr 1
      refine nearest_congr (c := 1074) (by omega) (by omega) ?_
      have e4 : (-1074 + (k : Int) + 1074).toNat = k := by omega
      rw [e4, Nat.add_mul, v1, v2]
      simp

theorem mul_fin {r s : Nat} (hr : r < INF) (hs : s < INF) : D.mul r s = some (mulR r s) := by
  unfold Format.mul mulR
  rw [read_fin hr, read_fin hs]
  simp only [Datum.product, Bool.xor_self, Option.map_some, Format.write]
  congr 1
  refine nearest_congr (c := 2148) (by omega) (by omega) ?_
  have e1 : (-1074 + (ex r : Int) + (-1074 + (ex s : Int)) + 2148).toNat = ex r + ex s := by omega
  have e2 : ((-2148 : Int) + 2148).toNat = 0 := by omega
  rw [e1, e2, Nat.pow_zero, Nat.mul_one, Nat.pow_add]
  unfold V
  rw [Nat.mul_mul_mul_comm]

theorem pow_mul_eq (a b c : Nat) (h : a + b = c) : 2 ^ a * 2 ^ b = 2 ^ c := by rw [← Nat.pow_add, h]
abbrev ONE : Nat := 4607182418800017408       -- 1023 * 2^52
theorem V_ONE : V ONE = 2 ^ 1074 := by
  unfold V mag ex
  rw [if_neg (by decide), if_neg (by decide)]
  have : ONE / B - 1 = 1022 := by decide
  rw [this]
  have : B + ONE % B = 2 ^ 52 := by decide
  rw [this]
  exact pow_mul_eq 52 1022 1074 rfl
theorem V_zero : V 0 = 0 := by unfold V mag; simp

theorem addR_comm (r s : Nat) : addR r s = addR s r := by
  unfold addR
  rw [Nat.add_comm]
  by_cases h1 : r = INF <;> by_cases h2 : s = INF <;> simp [h1, h2]
theorem mulR_comm (r s : Nat) : mulR r s = mulR s r := by
  unfold mulR; rw [Nat.mul_comm]
theorem addR_le (r s : Nat) : addR r s ≤ INF := by
  unfold addR; split
  · exact Nat.le_refl _
  · exact nearest_le_inf _ _
theorem addR_inf_left (s : Nat) : addR INF s = INF := by unfold addR; simp
theorem addR_inf_right (r : Nat) : addR r INF = INF := by unfold addR; simp
theorem nearest_V {r : Nat} (h : r < INF) : D.nearest false (V r) (-1074) = r := nearest_of_V h 0 (by omega) (by simp)
theorem addR_zero {r : Nat} (h : r ≤ INF) : addR r 0 = r := by
  unfold addR
  by_cases e : r = INF
  · rw [if_pos (Or.inl e), e]
  · rw [if_neg (by unfold INF at *; omega), V_zero, Nat.add_zero, nearest_V (by omega)]
theorem addR_ge {r s : Nat} (h : r ≤ INF) : r ≤ addR r s := by
  unfold addR
  by_cases e : r = INF ∨ s = INF
  · rw [if_pos e]; exact h
  · rw [if_neg e]
    have := nearest_mono (m := V r) (m' := V r + V s) (p := -1074) (p' := -1074) (c := 1074) (by omega) (by omega) (Nat.mul_le_mul_right _ (by omega))
    rw [nearest_V (by omega)] at this
    exact this
theorem mulR_le {r s : Nat} (h : r < INF) (hs : s ≤ ONE) : mulR r s ≤ r := by
  unfold mulR
  have v : V s ≤ 2 ^ 1074 := by rw [← V_ONE]; exact V_le hs
  have := nearest_mono (m := V r * V s) (m' := V r) (p := -2148) (p' := -1074) (c := 2148) (by omega) (by omega) (by
    have e1 : ((-2148 : Int) + 2148).toNat = 0 := by omega
    have e2 : ((-1074 : Int) + 2148).toNat = 1074 := by omega
    rw [e1, e2, Nat.pow_zero, Nat.mul_one]
    exact Nat.mul_le_mul_left _ v)
  rw [nearest_V h] at this
  exact this
theorem mulR_one {r : Nat} (h : r < INF) : mulR r ONE = r := by
  unfold mulR
  have := nearest_congr (m := V r * V ONE) (m' := V r) (p := -2148) (p' := -1074) (c := 2148) (by omega) (by omega) (by
    have e1 : ((-2148 : Int) + 2148).toNat = 0 := by omega
    have e2 : ((-1074 : Int) + 2148).toNat = 1074 := by omega
    rw [e1, e2, Nat.pow_zero, Nat.mul_one, V_ONE])
  rw [nearest_V h] at this
  exact this

/-- Whole numbers below 2^53 are doubles. -/
theorem V_nearest_exact {m : Nat} {p : Int} (h0 : m ≠ 0) (hm : m < 2 * B) (hp : -1074 ≤ p) (hq : p + m.log2 ≤ 971) :
    V (D.nearest false m p) = m * 2 ^ (p + 1074).toNat ∧ D.nearest false m p < INF := by
  have hl : m.log2 < 53 := (Nat.log2_lt h0).2 (by unfold B at hm; exact hm)
  obtain ⟨l1, l2⟩ := pow_lt_of_log2 h0
  rw [nearest_eq m p h0]
  have hlast : lastOf m p ≤ p := by unfold lastOf; omega
  have hge : -1074 ≤ lastOf m p := by unfold lastOf; omega
  obtain ⟨k, hk⟩ : ∃ k : Nat, k = (lastOf m p + 1074).toNat := ⟨_, rfl⟩
  have hkept : kept m p (lastOf m p) = m * 2 ^ (p - lastOf m p).toNat := by
    unfold kept
    have e : (lastOf m p - p).toNat = 0 := by omega
    rw [e, Nat.pow_zero]
    have := rne_exact (m * 2 ^ (p - lastOf m p).toNat) 1 (by decide)
    simpa using this
  have hlt : kept m p (lastOf m p) < 2 * B := by
    rw [hkept]
    have hle : p + m.log2 - 52 ≤ lastOf m p := by unfold lastOf; omega
    calc m * 2 ^ (p - lastOf m p).toNat < 2 ^ (m.log2 + 1) * 2 ^ (p - lastOf m p).toNat := Nat.mul_lt_mul_of_pos_right l2 (Nat.two_pow_pos _)
      _ = 2 ^ (m.log2 + 1 + (p - lastOf m p).toNat) := by rw [← Nat.pow_add]
      _ ≤ 2 ^ 53 := Nat.pow_le_pow_right (by omega) (by omega)
      _ = 2 * B := by decide
  rw [← hk]
  have hk2 : k ≤ 1993 := by
    have : lastOf m p ≤ 919 := by unfold lastOf; omega
    omega
  have hsmall : k * B + kept m p (lastOf m p) < INF := by unfold B INF at *; omega
  rw [Nat.min_eq_left (by omega)]
  refine ⟨?_, hsmall⟩
  have hval : m * 2 ^ (p + 1074).toNat = kept m p (lastOf m p) * 2 ^ k := by
    rw [hkept, Nat.mul_assoc, ← Nat.pow_add]
    congr 2; omega
  rw [hval]
  by_cases hb : k = 0
  · rw [hb, Nat.zero_mul, Nat.zero_add, Nat.pow_zero, Nat.mul_one]
    unfold V mag ex
    by_cases h : kept m p (lastOf m p) < B
    · rw [if_pos h, if_pos h, Nat.pow_zero, Nat.mul_one]
    · rw [if_neg h, if_neg h]
      have e1 : kept m p (lastOf m p) / B = 1 := by unfold B at *; omega
      have e2 : B + kept m p (lastOf m p) % B = kept m p (lastOf m p) := by unfold B at *; omega
      rw [e1, e2]; simp
  · have hlast2 : lastOf m p = p + m.log2 - 52 := by unfold lastOf at hk ⊢; omega
    have hge2 : B ≤ kept m p (lastOf m p) := by
      rw [hkept]
      calc B = 2 ^ 52 := by decide
        _ = 2 ^ (m.log2 + (p - lastOf m p).toNat) := by congr 1; omega
        _ = 2 ^ m.log2 * 2 ^ (p - lastOf m p).toNat := by rw [← Nat.pow_add]
        _ ≤ m * 2 ^ (p - lastOf m p).toNat := Nat.mul_le_mul_right _ l1
    generalize kept m p (lastOf m p) = K at *
    unfold V mag ex
    rw [if_neg (by unfold B at *; omega), if_neg (by unfold B at *; omega)]
    have e1 : (k * B + K) / B - 1 = k := by unfold B at *; omega
    have e2 : B + (k * B + K) % B = K := by unfold B at *; omega
    rw [e1, e2]

/-- The double of a whole number. -/
def F (n : Nat) : Nat := D.nearest false n 0
theorem F_lt {n : Nat} (h : n < 2 * B) : F n < INF := by
  unfold F
  by_cases h0 : n = 0
  · subst h0; rw [nearest_zero]; decide
  · have hl : n.log2 < 53 := (Nat.log2_lt h0).2 (by unfold B at h; exact h)
    exact (V_nearest_exact h0 h (by omega) (by omega)).2
theorem V_F {n : Nat} (h : n < 2 * B) : V (F n) = n * 2 ^ 1074 := by
  unfold F
  by_cases h0 : n = 0
  · subst h0; generalize (2 : Nat) ^ 1074 = g; rw [nearest_zero, V_zero, Nat.zero_mul]
  · have hl : n.log2 < 53 := (Nat.log2_lt h0).2 (by unfold B at h; exact h)
    have := (V_nearest_exact h0 h (p := 0) (by omega) (by omega)).1
    rw [show ((0 : Int) + 1074).toNat = 1074 from rfl] at this
    exact this
theorem addR_F {n m : Nat} (hn : n < 2 * B) (hm : m < 2 * B) : addR (F n) (F m) = F (n + m) := by
  have h1 := F_lt hn
  have h2 := F_lt hm
  unfold addR
  rw [if_neg (by omega), V_F hn, V_F hm, ← Nat.add_mul]
  unfold F
  refine nearest_congr (c := 1074) (by omega) (by omega) ?_
  have e1 : ((-1074 : Int) + 1074).toNat = 0 := by omega
  have e2 : ((0 : Int) + 1074).toNat = 1074 := by omega
  rw [e1, e2, Nat.pow_zero, Nat.mul_one]
theorem F_zero : F 0 = 0 := nearest_zero 0
theorem F_mono {n m : Nat} (h : n ≤ m) : F n ≤ F m := by
  unfold F
  exact nearest_mono (c := 0) (by omega) (by omega) (Nat.mul_le_mul_right _ h)

/-! ### All bit patterns: which are numbers from 0 on -/
def okB (x m : Nat) : Bool := decide (x ≤ m ∨ x = SGN)
def clr (x : Nat) : Nat := if x = SGN then 0 else x
abbrev W64 : Nat := 18446744073709551616

theorem read_sgn : D.read SGN = .number true 0 (-1074) := by decide
theorem read_zero : D.read 0 = .number false 0 (-1074) := by decide
theorem clr_le {x m : Nat} (h : okB x m = true) : clr x ≤ m := by
  unfold okB at h; unfold clr
  have := of_decide_eq_true h
  split <;> omega

theorem order_sgn_right {s : Nat} (h : s ≤ INF) : D.order s SGN = some (compare s 0) := by
  unfold Format.order
  by_cases e : s = INF
  · subst e; rw [read_inf, read_sgn]; rfl
  · have h2 := order_fin (r := s) (s := 0) h (by decide)
    unfold Format.order at h2
    rw [read_zero] at h2
    rw [← h2, read_sgn, read_fin (r := s) (by omega)]
    simp only [Datum.order, signed, Nat.zero_shiftLeft]
    simp
theorem order_sgn_left {s : Nat} (h : s ≤ INF) : D.order SGN s = some (compare 0 s) := by
  unfold Format.order
  by_cases e : s = INF
  · subst e; rw [read_inf, read_sgn]; rfl
  · have h2 := order_fin (r := 0) (s := s) (by decide) h
    unfold Format.order at h2
    rw [read_zero] at h2
    rw [← h2, read_sgn, read_fin (r := s) (by omega)]
    simp only [Datum.order, signed, Nat.zero_shiftLeft]
    simp
theorem order_sgn_sgn : D.order SGN SGN = some .eq := by decide

theorem order_clr_right {a s : Nat} (ha : okB a INF = true) (hs : s ≤ INF) : D.order s a = some (compare s (clr a)) := by
  have h := of_decide_eq_true ha
  unfold clr
  by_cases e : a = SGN
  · rw [if_pos e, e]; exact order_sgn_right hs
  · rw [if_neg e]; exact order_fin hs (by omega)
theorem order_clr_left {a s : Nat} (ha : okB a INF = true) (hs : s ≤ INF) : D.order a s = some (compare (clr a) s) := by
  have h := of_decide_eq_true ha
  unfold clr
  by_cases e : a = SGN
  · rw [if_pos e, e]; exact order_sgn_left hs
  · rw [if_neg e]; exact order_fin (by omega) hs

/-- What stands above the last rung is no number. -/
theorem read_nan {x : Nat} (h : INF < x % SGN) : (D.read x).isNaN = true := by
  unfold Format.read
  simp only [D_sgn, D_binade, D_inf]
  have hB : B ≤ INF := by decide
  rw [if_neg (by omega), if_neg (by omega), if_neg (by omega)]; rfl
theorem read_high {r : Nat} (h : r < SGN) : D.read (SGN + r) = (D.read r).opposite := by
  unfold Format.read
  simp only [D_sgn, D_binade, D_inf, D_lp]
  have h1 : (SGN + r) / SGN % 2 = 1 := by unfold SGN at *; omega
  have h2 : (SGN + r) % SGN = r := by unfold SGN at *; omega
  have h3 : r / SGN % 2 = 0 := by unfold SGN at *; omega
  have h4 : r % SGN = r := by unfold SGN at *; omega
  rw [h1, h2, h3, h4]
  by_cases a : r < B
  · rw [if_pos a, if_pos a]; rfl
  · rw [if_neg a, if_neg a]
    by_cases b : r < INF
    · rw [if_pos b, if_pos b]; rfl
    · rw [if_neg b, if_neg b]
      by_cases c : r = INF
      · rw [if_pos c, if_pos c]; rfl
      · rw [if_neg c, if_neg c]; rfl

theorem order_nan_left {x y : Nat} (h : (D.read x).isNaN = true) : D.order x y = none := by
  unfold Format.order
  cases e : D.read x with
  | nan s f => cases D.read y <;> rfl
  | _ => rw [e] at h; cases h
theorem order_nan_right {x y : Nat} (h : (D.read y).isNaN = true) : D.order x y = none := by
  unfold Format.order
  cases e : D.read y with
  | nan s f => cases D.read x <;> rfl
  | _ => rw [e] at h; cases h

theorem mag_pos {r : Nat} (h : 0 < r) : 0 < mag r := by
  unfold mag; split
  · exact h
  · have : 0 < B := by decide
    omega
theorem signed_neg_lt {m k : Nat} (h : 0 < m) : signed true m k < signed false 0 0 := by
  unfold signed
  have : 0 < m <<< k := by rw [Nat.shiftLeft_eq]; exact Nat.mul_pos h (Nat.two_pow_pos _)
  rw [if_pos rfl, if_neg Bool.false_ne_true]
  generalize m <<< k = a at *
  have : (0 <<< 0 : Nat) = 0 := rfl
  rw [this]
  omega

theorem order_neg_zero {r : Nat} (h0 : 0 < r) (h : r ≤ INF) : D.order (SGN + r) 0 = some .lt := by
  unfold Format.order
  have hs : r < SGN := Nat.lt_of_le_of_lt h (by decide)
  rw [read_high hs, read_zero]
  by_cases e : r = INF
  · subst e; rw [read_inf]; rfl
  · rw [read_fin (r := r) (by omega)]
    simp only [Datum.opposite, Datum.order, Bool.not_false]
    rw [cmp_int, if_pos]
    have := signed_neg_lt (m := mag r) (k := (-1074 + (ex r : Int) - min (-1074 + (ex r : Int)) (-1074)).toNat) (mag_pos h0)
    simpa [signed] using this

/-- 'x >= 0' as the model says it. -/
theorem ge_zero {x : Nat} (hx : x < W64) : (D.order x 0 == some .gt || D.order x 0 == some .eq) = okB x INF := by
  by_cases h : okB x INF = true
  · rw [h, order_clr_left h (by decide), cmp_nat, if_neg (by omega)]
    split <;> rfl
  · have hn : ¬ (x ≤ INF ∨ x = SGN) := fun e => h (decide_eq_true e)
    have hf : okB x INF = false := by simpa using h
    rw [hf]
    by_cases hnan : INF < x % SGN
    · rw [order_nan_left (read_nan hnan)]; rfl
    · have e : x = SGN + (x - SGN) := by unfold SGN INF W64 at *; omega
      rw [e, order_neg_zero (by omega) (by unfold SGN INF W64 at *; omega)]; rfl
/-- 'x <= m' of a number from 0 on. -/
theorem le_most {x m : Nat} (h : okB x INF = true) (hm : m ≤ INF) : (D.order x m == some .lt || D.order x m == some .eq) = okB x m := by
  rw [order_clr_left h hm, cmp_nat]
  have hc := of_decide_eq_true h
  unfold okB clr
  by_cases e : x = SGN
  · rw [if_pos e, decide_eq_true (p := x ≤ m ∨ x = SGN) (Or.inr e)]
    by_cases a : 0 < m
    · rw [if_pos a]; rfl
    · rw [if_neg a, if_pos (by omega)]; rfl
  · rw [if_neg e]
    by_cases a : x < m
    · rw [if_pos a, decide_eq_true (p := x ≤ m ∨ x = SGN) (Or.inl (by omega))]; rfl
    · by_cases b : x = m
      · rw [if_neg a, if_pos b, decide_eq_true (p := x ≤ m ∨ x = SGN) (Or.inl (by omega))]; rfl
      · rw [if_neg a, if_neg b, decide_eq_false (p := x ≤ m ∨ x = SGN) (by omega)]; rfl
/-- 'x == 0' of a number from 0 on. -/
theorem eq_zero {x : Nat} (h : okB x INF = true) : (D.order x 0 == some .eq) = (decide (clr x = 0)) := by
  rw [order_clr_left h (by decide), cmp_nat, if_neg (by omega)]
  by_cases e : clr x = 0
  · rw [if_pos e, decide_eq_true e]; rfl
  · rw [if_neg e, decide_eq_false e]; rfl
theorem okB_mono {x m n : Nat} (h : okB x m = true) (hmn : m ≤ n) : okB x n = true := by
  have := of_decide_eq_true h
  exact decide_eq_true (by omega)
theorem and_abs {x : Nat} (h : okB x INF = true) : x &&& 9223372036854775807 = clr x := by
  have hc := of_decide_eq_true h
  have : x &&& 9223372036854775807 = x % 2 ^ 63 := Nat.and_two_pow_sub_one_eq_mod x 63
  rw [this]
  unfold clr
  by_cases e : x = SGN
  · rw [if_pos e, e]; decide
  · rw [if_neg e]; exact Nat.mod_eq_of_lt (by unfold SGN INF at *; omega)
/-- Which NaN it is, is not told: all are one. -/
abbrev NAN : Nat := 9221120237041090560
def bitsF (x : Nat) : Nat := if D.order x x == some .eq then x else NAN

end Go.FT

/- Plain facts about the text of a double: an odd number, a 'b', a power of two; unlike doubles have unlike texts. No condition. -/
namespace Go.FX
open Go.FT Go.Lib

theorem ctz_of : ∀ (f k q : Nat), k < f → ctzFrom f (2 ^ k * (2 * q + 1)) = k
  | 0, k, q, h => by omega
  | f + 1, 0, q, _ => by
    rw [ctzFrom, if_pos (by rw [Nat.pow_zero]; omega)]
  | f + 1, k + 1, q, h => by
    have e : 2 ^ (k + 1) * (2 * q + 1) = 2 * (2 ^ k * (2 * q + 1)) := by rw [Nat.pow_succ, Nat.mul_comm (2 ^ k) 2, Nat.mul_assoc]
    rw [ctzFrom, e, if_neg (by omega), Nat.mul_div_cancel_left _ (by decide), ctz_of f k q (by omega)]
    omega
def tz (m : Nat) : Nat := ctz 64 m
def od (m : Nat) : Nat := m / 2 ^ tz m
theorem tz_spec {m : Nat} (h0 : 0 < m) (h : m < 2 ^ 64) : m = od m * 2 ^ tz m ∧ od m % 2 = 1 ∧ tz m < 64 := by
  obtain ⟨q, hq, hk⟩ := ctzFrom_spec 64 m h0 h
  have e : tz m = ctzFrom 64 m := by unfold tz ctz; rw [if_neg (by omega)]
  have ho : od m = 2 * q + 1 := by
    unfold od; rw [e]
    have hp : 0 < 2 ^ ctzFrom 64 m := Nat.two_pow_pos _
    calc m / 2 ^ ctzFrom 64 m = (2 ^ ctzFrom 64 m * (2 * q + 1)) / 2 ^ ctzFrom 64 m := by rw [← hq]
      _ = 2 * q + 1 := Nat.mul_div_cancel_left _ hp
  refine ⟨?_, by rw [ho]; omega, by rw [e]; exact hk⟩
  rw [ho, e, Nat.mul_comm]; exact hq
theorem tz_of {m k o : Nat} (h : m < 2 ^ 64) (ho : o % 2 = 1) (e : m = o * 2 ^ k) : tz m = k ∧ od m = o := by
  have hk : k < 64 := by
    apply Nat.lt_of_not_le
    intro hle
    have h1 : 2 ^ 64 ≤ 2 ^ k := Nat.pow_le_pow_right (by decide) hle
    have h2 : 2 ^ k ≤ o * 2 ^ k := Nat.le_mul_of_pos_left _ (by omega)
    omega
  have hp : 0 < 2 ^ k := Nat.two_pow_pos k
  have hm : m ≠ 0 := by
    rw [e]; exact Nat.mul_ne_zero (by omega) (by omega)
  have ht : tz m = k := by
    unfold tz ctz
    rw [if_neg hm, e, Nat.mul_comm, show o = 2 * (o / 2) + 1 by omega]
    exact ctz_of 64 k (o / 2) hk
  refine ⟨ht, ?_⟩
  unfold od; rw [ht, e, Nat.mul_div_cancel _ hp]
theorem tz_half {m : Nat} (h0 : 0 < m) (h : m < 2 ^ 64) (he : m % 2 = 0) : tz m = tz (m / 2) + 1 ∧ od m = od (m / 2) := by
  obtain ⟨e, ho, _⟩ := tz_spec (m := m / 2) (by omega) (by omega)
  refine tz_of h ho ?_
  rw [Nat.pow_succ, ← Nat.mul_assoc, ← e]
  omega
theorem tz_odd {m : Nat} (h : m < 2 ^ 64) (he : m % 2 = 1) : tz m = 0 ∧ od m = m := tz_of h he (by simp)

/-- The odd number and the power of two of a rung. -/
def oe (r : Nat) : Nat × Int := if r = 0 then (0, 0) else (od (mag r), (ex r : Int) + tz (mag r) - 1074)
theorem ex_le {r : Nat} (h : r < INF) : ex r ≤ 2045 := by
  unfold ex; unfold INF at h; unfold B; split <;> omega
theorem oe_zero : oe 0 = (0, 0) := by unfold oe; rw [if_pos rfl]
theorem oe_pos {r : Nat} (h : r ≠ 0) : oe r = (od (mag r), (ex r : Int) + tz (mag r) - 1074) := by unfold oe; rw [if_neg h]
theorem oe_val {r : Nat} (h0 : r ≠ 0) (k : Nat) (hk : k = tz (mag r) + ex r) : V r = od (mag r) * 2 ^ k := by
  have hm := mag_lt r
  have hp := mag_pos (r := r) (by omega)
  obtain ⟨e, ho, ht⟩ := tz_spec hp (by unfold B at hm; omega)
  rw [hk, Nat.pow_add, ← Nat.mul_assoc, ← e]; rfl
theorem oe_spec {r : Nat} (h : r < INF) : V r = (oe r).1 * 2 ^ ((oe r).2 + 1074).toNat ∧ -1074 ≤ (oe r).2 ∧ (oe r).2 ≤ 1034 ∧ (oe r).1 < 2 * B := by
  by_cases h0 : r = 0
  · subst h0
    have h1 : (oe 0).1 = 0 := by rw [oe_zero]
    have h2 : (oe 0).2 = 0 := by rw [oe_zero]
    refine ⟨?_, by omega, by omega, by rw [h1]; decide⟩
    rw [h1, Nat.zero_mul]; exact V_zero
  · have h1 : (oe r).1 = od (mag r) := by rw [oe_pos h0]
    have h2 : (oe r).2 = (ex r : Int) + tz (mag r) - 1074 := by rw [oe_pos h0]
    have hm := mag_lt r
    have hp := mag_pos (r := r) (by omega)
    obtain ⟨e, ho, ht⟩ := tz_spec hp (by unfold B at hm; omega)
    have hx := ex_le h
    refine ⟨?_, by omega, by omega, ?_⟩
    · rw [h1]; exact oe_val h0 _ (by omega)
    · rw [h1]; exact Nat.lt_of_le_of_lt (Nat.div_le_self _ _) hm

/-- The text of a rung, and of a double. -/
def body (r : Nat) : List UInt8 := if r = INF then [105, 110, 102] else decDigits (oe r).1 ++ 98 :: itoa (oe r).2
def isN (b : Nat) : Bool := decide (INF < b % SGN)
def ng (b : Nat) : Bool := decide (SGN ≤ b)
def T (b : Nat) : List UInt8 := if isN b then [110, 97, 110] else (if ng b then [45] else []) ++ body (b % SGN)
def can (b : Nat) : Nat := if isN b then NAN else b

/-! decimal digits, read -/
def isD (d : UInt8) : Prop := 48 ≤ d.toNat ∧ d.toNat ≤ 57
theorem dec_isD (u : Nat) : ∀ d ∈ decDigits u, isD d := by
  induction u using Nat.strongRecOn with
  | _ u ih =>
    rw [decDigits]
    split
    · intro d hd
      simp only [List.mem_singleton] at hd
      subst hd; unfold isD; rw [UInt8.toNat_ofNat']; omega
    · intro d hd
      rcases List.mem_append.1 hd with h1 | h1
      · exact ih (u / 10) (by omega) d h1
      · simp only [List.mem_singleton] at h1
        subst h1; unfold isD; rw [UInt8.toNat_ofNat']; omega
theorem dec_ne (u : Nat) : decDigits u ≠ [] := by
  rw [decDigits]; split <;> simp
theorem pu_app : ∀ (l : List UInt8) (acc a : Nat) (r : List UInt8), parseUint10 acc l = .ok a → parseUint10 acc (l ++ r) = parseUint10 a r
  | [], acc, a, r, h => by
    simp only [parseUint10] at h; injection h with h; subst h; rfl
  | c :: l, acc, a, r, h => by
    simp only [parseUint10, List.cons_append] at h ⊢
    split at h
    · rename_i hc
      rw [if_pos hc]
      split at h
      · cases h
      · rename_i h1
        rw [if_neg h1]
        split at h
        · cases h
        · rename_i h2
          rw [if_neg h2]
          exact pu_app l _ a r h
    · cases h
theorem pu_dec (u : Nat) : u < 18446744073709551616 → parseUint10 0 (decDigits u) = .ok u := by
  induction u using Nat.strongRecOn with
  | _ u ih =>
    intro hu
    rw [decDigits]
    split
    · rename_i h
      simp only [parseUint10]
      rw [UInt8.toNat_ofNat']
      rw [if_pos (by omega), if_neg (by omega), if_neg (by omega)]
      congr 1; omega
    · rename_i h
      rw [pu_app _ 0 (u / 10) _ (ih (u / 10) (by omega) (by omega))]
      simp only [parseUint10]
      rw [UInt8.toNat_ofNat']
      rw [if_pos (by omega), if_neg (by omega), if_neg (by omega)]
      congr 1; omega
theorem mag_dec {u : Nat} (h : u < 18446744073709551616) : parseMag (decDigits u) = .ok u := by
  unfold parseMag; rw [if_neg (dec_ne u)]; exact pu_dec u h
theorem uint_dec {u : Nat} (h : u < 18446744073709551616) : parseUintB 64 (decDigits u) = .ok u := by rw [parseUintB_64]; exact mag_dec h
theorem dec_cons (u : Nat) : ∃ c r, decDigits u = c :: r ∧ isD c := by
  cases h : decDigits u with
  | nil => exact absurd h (dec_ne u)
  | cons c r => exact ⟨c, r, rfl, dec_isD u c (by rw [h]; simp)⟩
theorem atoi_itoa {e : Int} (h : -9223372036854775808 ≤ e) (h2 : e ≤ 9223372036854775807) : atoiAll (itoa e) = .ok e := by
  unfold itoa
  split
  · rename_i h0
    rw [atoiAll_minus, mag_dec (u := e.natAbs) (by omega)]
    unfold signed
    simp only
    rw [if_neg (by omega)]
    congr 1; omega
  · obtain ⟨c, r, hc, hd⟩ := dec_cons e.toNat
    unfold isD at hd
    rw [hc, atoiAll_plain c r (by omega) (by omega), ← hc, mag_dec (by omega)]
    unfold signless
    simp only
    rw [if_neg (by omega)]
    congr 1; omega
theorem itoa_chars (e : Int) : ∀ d ∈ itoa e, d.toNat = 45 ∨ isD d := by
  unfold itoa
  split
  · intro d hd
    rcases List.mem_cons.1 hd with rfl | h
    · left; rfl
    · right; exact dec_isD _ d h
  · intro d hd; right; exact dec_isD _ d hd
theorem dec_inj {a b : Nat} (h : decDigits a = decDigits b) (ha : a < 18446744073709551616) (hb : b < 18446744073709551616) : a = b := by
  have h1 := pu_dec a ha
  rw [h, pu_dec b hb] at h1
  injection h1 with h1; exact h1.symm
theorem itoa_inj {a b : Int} (h : itoa a = itoa b) (ha : -9223372036854775808 ≤ a ∧ a ≤ 9223372036854775807) (hb : -9223372036854775808 ≤ b ∧ b ≤ 9223372036854775807) : a = b := by
  have h1 := atoi_itoa ha.1 ha.2
  rw [h, atoi_itoa hb.1 hb.2] at h1
  injection h1 with h1; exact h1.symm

/-! what stands ahead of the first 'b' -/
theorem split_inj : ∀ {xs ys us vs : List UInt8}, (∀ d ∈ xs, d ≠ 98) → (∀ d ∈ us, d ≠ 98) → xs ++ 98 :: ys = us ++ 98 :: vs → xs = us ∧ ys = vs
  | [], ys, [], vs, _, _, h => by simpa using h
  | [], ys, u :: us, vs, _, h2, h => by
    simp only [List.nil_append, List.cons_append, List.cons.injEq] at h
    exact absurd h.1.symm (h2 u (by simp))
  | x :: xs, ys, [], vs, h1, _, h => by
    simp only [List.nil_append, List.cons_append, List.cons.injEq] at h
    exact absurd h.1 (h1 x (by simp))
  | x :: xs, ys, u :: us, vs, h1, h2, h => by
    simp only [List.cons_append, List.cons.injEq] at h
    obtain ⟨e1, e2⟩ := split_inj (xs := xs) (us := us) (fun d hd => h1 d (by simp [hd])) (fun d hd => h2 d (by simp [hd])) h.2
    exact ⟨by rw [h.1, e1], e2⟩
theorem isD_ne98 {d : UInt8} (h : isD d) : d ≠ 98 := by
  intro e; subst e; unfold isD at h
  rw [show (98 : UInt8).toNat = 98 from rfl] at h; omega
theorem dec_ne98 (u : Nat) : ∀ d ∈ decDigits u, d ≠ 98 := fun d hd => isD_ne98 (dec_isD u d hd)
theorem index_b (xs ys : List UInt8) (h : ∀ d ∈ xs, d ≠ 98) : index (xs ++ 98 :: ys) [98] = xs.length := by
  refine index_first (by simp) (by simp [occAt]) (fun j hj => ?_)
  rw [Bool.eq_false_iff]
  intro ho
  have h1 := occAt_head (c := 98) (t := []) rfl ho
  rw [List.getElem?_append_left hj, List.getElem?_eq_getElem hj] at h1
  injection h1 with h1
  exact h _ (List.getElem_mem hj) h1
theorem cut_b (xs ys : List UInt8) (h : ∀ d ∈ xs, d ≠ 98) : cut (xs ++ 98 :: ys) [98] = (xs, ys, true) := by
  have hi := index_b xs ys h
  unfold cut
  rw [hi, if_pos (by omega)]
  simp

theorem body_head {r : Nat} : ∃ c t, body r = c :: t ∧ c ≠ 45 ∧ c ≠ 110 := by
  unfold body
  split
  · exact ⟨105, [110, 102], rfl, by decide, by decide⟩
  · obtain ⟨c, t, hc, hd⟩ := dec_cons (oe r).1
    refine ⟨c, t ++ 98 :: itoa (oe r).2, by rw [hc]; rfl, ?_, ?_⟩ <;> (intro e; subst e; unfold isD at hd)
    · rw [show (45 : UInt8).toNat = 45 from rfl] at hd; omega
    · rw [show (110 : UInt8).toNat = 110 from rfl] at hd; omega
theorem V_eq_oe {r s : Nat} (hr : r < INF) (hs : s < INF) (h : oe r = oe s) : r = s := by
  apply V_inj
  rw [(oe_spec hr).1, (oe_spec hs).1, h]
theorem body_inj {r s : Nat} (hr : r ≤ INF) (hs : s ≤ INF) (h : body r = body s) : r = s := by
  have key : ∀ t : Nat, body t = [105, 110, 102] → t = INF := by
    intro t ht
    unfold body at ht
    split at ht
    · assumption
    · obtain ⟨c, u, hc, hd⟩ := dec_cons (oe t).1
      rw [hc] at ht
      simp only [List.cons_append, List.cons.injEq] at ht
      unfold isD at hd
      rw [ht.1, show (105 : UInt8).toNat = 105 from rfl] at hd
      omega
  have key2 : body INF = [105, 110, 102] := by unfold body; rw [if_pos rfl]
  by_cases h1 : r = INF
  · subst h1; rw [key2] at h; exact (key s h.symm).symm
  · by_cases h2 : s = INF
    · subst h2; rw [key2] at h; exact key r h
    · have hr' : r < INF := by omega
      have hs' : s < INF := by omega
      unfold body at h
      rw [if_neg h1, if_neg h2] at h
      obtain ⟨e1, e2⟩ := split_inj (dec_ne98 _) (dec_ne98 _) h
      obtain ⟨_, a1, a2, a3⟩ := oe_spec hr'
      obtain ⟨_, b1, b2, b3⟩ := oe_spec hs'
      have f1 := dec_inj e1 (by unfold B at a3; omega) (by unfold B at b3; omega)
      have f2 := itoa_inj e2 (by omega) (by omega)
      exact V_eq_oe hr' hs' (Prod.ext f1 f2)
theorem T_inj {a b : Nat} (ha : a < W64) (hb : b < W64) (h : T a = T b) : can a = can b := by
  have key : ∀ c : Nat, T c = [110, 97, 110] → isN c = true := by
    intro c hc
    unfold T at hc
    split at hc
    · assumption
    · obtain ⟨d, t, hd, h1, h2⟩ := body_head (r := c % SGN)
      rw [hd] at hc
      split at hc
      · simp only [List.cons_append, List.cons.injEq] at hc
        exact absurd hc.1 (by decide)
      · simp only [List.nil_append, List.cons.injEq] at hc
        exact absurd hc.1 h2
  by_cases h1 : isN a = true
  · have e : T a = [110, 97, 110] := by unfold T; rw [if_pos h1]
    rw [e] at h
    unfold can
    rw [if_pos h1, if_pos (key b h.symm)]
  · by_cases h2 : isN b = true
    · have e : T b = [110, 97, 110] := by unfold T; rw [if_pos h2]
      rw [e] at h
      exact absurd (key a h) h1
    · unfold can
      rw [if_neg h1, if_neg h2]
      unfold T at h
      rw [if_neg h1, if_neg h2] at h
      obtain ⟨d, t, hd, g1, g2⟩ := body_head (r := a % SGN)
      obtain ⟨d', t', hd', g1', g2'⟩ := body_head (r := b % SGN)
      unfold isN at h1 h2
      simp only [decide_eq_true_eq] at h1 h2
      have hng : ng a = ng b := by
        cases p : ng a <;> cases q : ng b
        · rfl
        · rw [p, q, hd, hd'] at h
          simp only [Bool.false_eq_true, if_false, if_true, List.nil_append, List.cons_append, List.cons.injEq] at h
          exact absurd h.1 g1
        · rw [p, q, hd, hd'] at h
          simp only [Bool.false_eq_true, if_false, if_true, List.nil_append, List.cons_append, List.cons.injEq] at h
          exact absurd h.1.symm g1'
        · rfl
      rw [hng] at h
      have hb2 := body_inj (by omega) (by omega) (List.append_cancel_left h)
      unfold ng at hng
      unfold W64 at ha hb
      have hq : (SGN ≤ a) ↔ (SGN ≤ b) := by
        constructor <;> intro hx
        · rw [decide_eq_true hx] at hng; exact of_decide_eq_true hng.symm
        · rw [decide_eq_true hx] at hng; exact of_decide_eq_true hng
      unfold SGN at *
      omega
end Go.FX

/- Plain facts about doubles that are read: doubling, halving, a power of two times a whole number are without rounding where they can be. No condition. -/
namespace Go.FX
open Go.FT Go.Lib Ieee

abbrev TWO : Nat := 4611686018427387904       -- 1024 * 2^52
theorem V_rung (t f : Nat) (hf : f < B) : V ((t + 1) * B + f) = (B + f) * 2 ^ t := by
  unfold V mag ex
  have h1 : ¬ (t + 1) * B + f < B := by unfold B; omega
  have h2 : ((t + 1) * B + f) % B = f := by unfold B at *; omega
  have h3 : ((t + 1) * B + f) / B = t + 1 := by unfold B at *; omega
  rw [if_neg h1, if_neg h1, h2, h3, Nat.add_sub_cancel]
theorem V_low {r : Nat} (h : r < B) : V r = r := by
  unfold V mag ex; rw [if_pos h, if_pos h, Nat.pow_zero, Nat.mul_one]
theorem rung_split {r : Nat} (h : ¬ r < B) : r = (r / B - 1 + 1) * B + r % B := by unfold B at *; omega
def dbl (r : Nat) : Nat := if r < B then 2 * r else r + B
theorem V_dbl (r : Nat) : V (dbl r) = 2 * V r := by
  unfold dbl
  by_cases h : r < B
  · rw [if_pos h, V_low h]
    by_cases h2 : 2 * r < B
    · rw [V_low h2]
    · have e : 2 * r = (0 + 1) * B + (2 * r - B) := by omega
      have h3 : 2 * r - B < B := by omega
      rw [e, V_rung 0 _ h3, Nat.pow_zero]; omega
  · rw [if_neg h]
    have e := rung_split h
    have hf : r % B < B := Nat.mod_lt _ (by decide)
    have e2 : r + B = (r / B - 1 + 1 + 1) * B + r % B := by unfold B at *; omega
    have v1 : V r = (B + r % B) * 2 ^ (r / B - 1) := by
      have := V_rung (r / B - 1) (r % B) hf
      rw [← e] at this; exact this
    rw [e2, V_rung _ _ hf, v1, Nat.pow_succ]
    generalize (2 : Nat) ^ (r / B - 1) = g
    rw [Nat.mul_comm g 2, ← Nat.mul_assoc, Nat.mul_comm _ 2, Nat.mul_assoc]
theorem V_pow (r : Nat) : ∀ j : Nat, ∃ s, V s = V r * 2 ^ j
  | 0 => ⟨r, by rw [Nat.pow_zero, Nat.mul_one]⟩
  | j + 1 => by
    obtain ⟨s, hs⟩ := V_pow r j
    refine ⟨dbl s, ?_⟩
    rw [V_dbl, hs, Nat.pow_succ]
    generalize (2 : Nat) ^ j = g
    rw [Nat.mul_comm g 2, Nat.mul_comm 2, Nat.mul_assoc, Nat.mul_comm g 2]
theorem V_INF : V INF = 2 ^ 52 * 2 ^ 2046 := by
  have := V_rung 2046 0 (by decide)
  rw [show (2046 + 1) * B + 0 = INF by decide, Nat.add_zero] at this
  rw [this, show B = 2 ^ 52 by decide]
theorem two_aux (j k : Nat) (h : 52 + j = k + 1) : 2 ^ 52 * 2 ^ j = 2 ^ k * 2 := by
  rw [← Nat.pow_add, h, Nat.pow_succ]
theorem V_TWO : V TWO = 2 ^ 1074 * 2 := by
  have := V_rung 1023 0 (by decide)
  rw [show (1023 + 1) * B + 0 = TWO by decide, Nat.add_zero, show B = 2 ^ 52 by decide] at this
  exact this.trans (two_aux 1023 1074 rfl)
theorem pow_lt_B {b d : Nat} (h : b + 1 < d) : 2 * (B * 2 ^ b) < 2 ^ 52 * 2 ^ d := by
  rw [show B = 2 ^ 52 by decide, Nat.mul_left_comm, ← Nat.pow_succ']
  exact Nat.mul_lt_mul_of_pos_left (Nat.pow_lt_pow_right (by decide) h) (by decide)
theorem lt_of_V {r s : Nat} (h : V r < V s) : r < s := V_lt_iff.1 h

/-! whole numbers -/
theorem F_full {n : Nat} (h : n ≤ 2 * B) : F n < INF ∧ V (F n) = n * 2 ^ 1074 := by
  by_cases h1 : n < 2 * B
  · exact ⟨F_lt h1, V_F h1⟩
  · have e : n = 2 * B := by omega
    subst e
    have hb := V_F (n := B) (by decide)
    have hlt : dbl (F B) < INF := lt_of_V (Nat.lt_of_le_of_lt (Nat.le_of_eq ((V_dbl _).trans (congrArg (2 * ·) hb))) (Nat.lt_of_lt_of_eq (pow_lt_B (b := 1074) (d := 2046) (by omega)) V_INF.symm))
    have e2 : F (2 * B) = dbl (F B) := by
      unfold F at *
      refine nearest_of_V hlt 0 (by omega) ?_
      rw [V_dbl, hb, Nat.pow_zero, Nat.mul_one, show ((0 : Int) + 1074 + (0 : Nat)).toNat = 1074 from rfl]
      generalize (2 : Nat) ^ 1074 = g
      rw [Nat.mul_assoc]
    rw [e2]
    refine ⟨hlt, ?_⟩
    rw [V_dbl, hb]
    generalize (2 : Nat) ^ 1074 = g
    rw [Nat.mul_assoc]

/-! times 2 -/
theorem mul_two_fin {x : Nat} (h : x < INF) : D.mul x TWO = some (mulR x TWO) := mul_fin h (by decide)
theorem mulR_two {x y : Nat} (hy : y < INF) (h : V y = 2 * V x) : mulR x TWO = y := by
  unfold mulR
  refine nearest_of_V hy 1074 (by omega) ?_
  rw [show ((-2148 : Int) + 1074 + (1074 : Nat)).toNat = 0 from rfl, Nat.pow_zero, Nat.mul_one, h, V_TWO]
  generalize (2 : Nat) ^ 1074 = g
  rw [Nat.mul_comm g 2, ← Nat.mul_assoc, Nat.mul_comm (V x) 2]
theorem mul_two {x : Nat} (h : x ≤ INF) : ∃ y, D.mul x TWO = some y ∧ y ≤ INF ∧ ∀ r, r < INF → V r = 2 * V x → y = r := by
  by_cases e : x = INF
  · subst e
    refine ⟨INF, by decide, Nat.le_refl _, fun r hr hv => ?_⟩
    have := V_lt hr
    have hp : 0 < V INF := Nat.lt_of_lt_of_eq (Nat.mul_pos (Nat.two_pow_pos 52) (Nat.two_pow_pos 2046)) V_INF.symm
    omega
  · exact ⟨_, mul_two_fin (by omega), nearest_le_inf _ _, fun r hr hv => mulR_two hr hv⟩
/-! by 2 -/
theorem read_TWO : D.read TWO = .number false B (-51) := by decide
theorem half_aux {m e v s : Nat} (h : m * 2 ^ e = 2 * v) : 2 * (m * 2 ^ s) * 2 ^ (e + 2998) = v * 2 ^ (s + 3000) := by
  have h1 : 2 * (m * 2 ^ s) * 2 ^ (e + 2998) = m * 2 ^ e * (2 * 2 ^ s * 2 ^ 2998) := by
    rw [Nat.pow_add]
    generalize (2 : Nat) ^ 2998 = g
    generalize (2 : Nat) ^ s = p
    generalize (2 : Nat) ^ e = q
    ac_rfl
  have h2 : v * 2 ^ (s + 3000) = 2 * v * (2 * 2 ^ s * 2 ^ 2998) := by
    rw [show s + 3000 = 2998 + s + 1 + 1 by omega, Nat.pow_succ, Nat.pow_succ, Nat.pow_add]
    generalize (2 : Nat) ^ 2998 = g
    generalize (2 : Nat) ^ s = p
    ac_rfl
  rw [h1, h2, h]
theorem div_two_fin {x : Nat} (h : x < INF) : ∃ y, D.div x TWO = some y ∧ y ≤ INF ∧ ∀ r, r < INF → V x = 2 * V r → y = r := by
  unfold Format.div
  rw [read_fin h, read_TWO]
  simp only [Datum.quotient, Bool.xor_self]
  rw [if_neg (by decide : ¬ B = 0)]
  refine ⟨_, rfl, nearest_le_inf _ _, fun r hr hv => ?_⟩
  have hm := mag_lt x
  have hl : (mag x).log2 ≤ 52 := by
    by_cases h0 : mag x = 0
    · rw [h0]; decide
    · have := (Nat.log2_lt h0 (k := 53)).2 (by unfold B at hm; omega)
      omega
  have hB : B.log2 = 52 := by decide
  obtain ⟨s, hs⟩ : ∃ s, D.fractionBits + 2 + B.log2 - (mag x).log2 = s + 52 := ⟨D.fractionBits + 2 + B.log2 - (mag x).log2 - 52, by rw [hB, D_fb]; omega⟩
  rw [hs]
  have hd : (mag x <<< (s + 52)) = (mag x * 2 ^ s) * B := by
    rw [Nat.shiftLeft_eq, Nat.pow_add, ← Nat.mul_assoc]
  rw [hd, Nat.mul_div_cancel _ (by decide : 0 < B), Nat.mul_mod_left]
  refine nearest_of_V hr (s + 3000) (by omega) ?_
  have hx : V x = mag x * 2 ^ ex x := rfl
  rw [show (0 != 0).toNat = 0 from rfl, Nat.add_zero]
  rw [show (-1074 + (ex x : Int) - -51 - ((s + 52 : Nat) : Int) - 1 + 1074 + ((s + 3000 : Nat) : Int)).toNat = ex x + 2998 by omega]
  exact half_aux (by rw [← hx]; exact hv)
theorem div_two {x : Nat} (h : x ≤ INF) : ∃ y, D.div x TWO = some y ∧ y ≤ INF ∧ ∀ r, r < INF → V x = 2 * V r → x ≠ INF → y = r := by
  by_cases e : x = INF
  · subst e
    exact ⟨INF, by decide, Nat.le_refl _, fun r _ _ h => absurd rfl h⟩
  · obtain ⟨y, h1, h2, h3⟩ := div_two_fin (x := x) (by omega)
    exact ⟨y, h1, h2, fun r hr hv _ => h3 r hr hv⟩
end Go.FX

/- Plain facts: a power of two times a whole number, as math.Ldexp makes it. No condition. -/
namespace Go.FX
open Go.FT Go.Lib Ieee

/-- A power of two, not reckoned out. -/
theorem P_ex (k : Nat) : ∃ n : Nat, n = 2 ^ k := ⟨_, rfl⟩
noncomputable def P (k : Nat) : Nat := (P_ex k).choose
theorem P_is (k : Nat) : P k = 2 ^ k := (P_ex k).choose_spec
theorem pp (j : Nat) : 0 < P j := by rw [P_is]; exact Nat.two_pow_pos j
theorem P_add (a b : Nat) : P (a + b) = P a * P b := by rw [P_is, P_is, P_is]; exact Nat.pow_add 2 a b
theorem P_zero : P 0 = 1 := by rw [P_is]
theorem P_succ (a : Nat) : P (a + 1) = P a * 2 := by rw [P_is, P_is, Nat.pow_succ]
theorem P_succ' (a : Nat) : P (a + 1) = 2 * P a := by rw [P_succ, Nat.mul_comm]
theorem P_le {a b : Nat} (h : a ≤ b) : P a ≤ P b := by rw [P_is, P_is]; exact Nat.pow_le_pow_right (by decide) h
theorem P_eq (a b c : Nat) (h : a + b = c) : P a * P b = P c := by rw [← P_add, h]
theorem P_B : B = P 52 := by rw [P_is]
theorem P_53 : P 53 = 2 * B := by rw [P_succ, ← P_B, Nat.mul_comm]
theorem VP_rung (t f : Nat) (hf : f < B) : V ((t + 1) * B + f) = (B + f) * P t := by rw [P_is]; exact V_rung t f hf
theorem VP_F {n : Nat} (h : n ≤ 2 * B) : F n < INF ∧ V (F n) = n * P 1074 := by rw [P_is]; exact F_full h
theorem VP_ONE : V ONE = P 1074 := V_ONE.trans (P_is 1074).symm
theorem VP_rung0 (t : Nat) : V ((t + 1) * B) = P 52 * P t := by
  have := VP_rung t 0 (by decide)
  rw [Nat.add_zero, Nat.add_zero] at this
  rw [this, ← P_B]
theorem VP_INF : V INF = P 52 * P 2046 := by
  rw [show INF = (2046 + 1) * B by decide]; exact VP_rung0 2046
theorem VP_pow (r : Nat) (j : Nat) : ∃ s, V s = V r * P j := by rw [P_is]; exact V_pow r j
theorem VP_oe {r : Nat} (h : r < INF) : V r = (oe r).1 * P ((oe r).2 + 1074).toNat ∧ -1074 ≤ (oe r).2 ∧ (oe r).2 ≤ 1034 ∧ (oe r).1 < 2 * B := by rw [P_is]; exact oe_spec h
theorem nearestP {r m : Nat} {p : Int} (h : r < INF) (q : Nat) (hp : 0 ≤ p + 1074 + q) (hv : m * P (p + 1074 + q).toNat = V r * P q) : D.nearest false m p = r := by
  rw [P_is, P_is] at hv; exact nearest_of_V h q hp hv
/-- What a rung is to a whole number and an exponent. -/
def Is (n : Nat) (k : Int) (r : Nat) : Prop := -1074 ≤ k ∧ r < INF ∧ V r = n * P (k + 1074).toNat
theorem F_ge_aux {g n : Nat} (h1 : 1 ≤ n) : g ≤ n * g := Nat.le_mul_of_pos_left g h1
theorem F_lt_aux {g n : Nat} (hg : 0 < g) (h : n < 2 * B) : n * g < B * (g * 2) := by
  rw [Nat.mul_comm g 2, ← Nat.mul_assoc, Nat.mul_comm B 2]
  exact Nat.mul_lt_mul_of_pos_right h hg
theorem F_ge {n : Nat} (h1 : 1 ≤ n) (h2 : n < 2 * B) : ONE ≤ F n ∧ F n < 1076 * B := by
  have hv := (VP_F (Nat.le_of_lt h2)).2
  constructor
  · apply Nat.le_of_not_lt
    intro h
    have h3 := V_lt h
    have h5 := Nat.le_trans (Nat.le_of_eq VP_ONE) (F_ge_aux (g := P 1074) h1)
    rw [← hv] at h5
    omega
  · apply lt_of_V
    have h3 := VP_rung 1075 0 (by decide)
    rw [Nat.add_zero, Nat.add_zero] at h3
    have h4 := F_lt_aux (pp 1074) h2
    rw [← P_succ, ← hv] at h4
    exact Nat.lt_of_lt_of_eq h4 h3.symm
theorem F_parts {n : Nat} (h1 : 1 ≤ n) (h2 : n < 2 * B) : 1023 ≤ F n / B ∧ F n / B ≤ 1075 ∧ (B + F n % B) * P (F n / B - 1) = n * P 1074 := by
  obtain ⟨a, b⟩ := F_ge h1 h2
  refine ⟨by unfold ONE B at *; omega, by unfold B at *; omega, ?_⟩
  rw [← (VP_F (Nat.le_of_lt h2)).2]
  have hx : ¬ F n < B := by unfold ONE at a; unfold B; omega
  have := VP_rung (F n / B - 1) (F n % B) (Nat.mod_lt _ (by decide))
  rw [← rung_split hx] at this
  exact this.symm
theorem cancel_aux {a b g : Nat} (hg : 0 < g) (h : a * g = b * g) : a = b := Nat.eq_of_mul_eq_mul_right hg h
/-- The value that is sought, in parts. -/
theorem Is.parts {n r : Nat} {k : Int} (h : Is n k r) (h1 : 1 ≤ n) (h2 : n < 2 * B) {j : Nat} (hj : k + 1074 = j) : V r * P 1074 = (B + F n % B) * P (F n / B - 1 + j) := by
  obtain ⟨_, _, hv⟩ := h
  obtain ⟨_, _, hp⟩ := F_parts h1 h2
  rw [hv, show (k + 1074).toNat = j by omega, P_add, ← Nat.mul_assoc, hp, Nat.mul_right_comm]
theorem ld_mid {n r : Nat} {k : Int} (h : Is n k r) (h1 : 1 ≤ n) (h2 : n < 2 * B) (t : Nat) (ht : (t : Int) = k + (F n / B : Nat) - 1) : (t + 1) * B + F n % B = r := by
  apply V_inj
  have hb : 1023 ≤ F n / B := (F_parts h1 h2).1
  obtain ⟨j, hj⟩ : ∃ j : Nat, k + 1074 = j := ⟨(k + 1074).toNat, by have := h.1; omega⟩
  have hp := h.parts h1 h2 hj
  rw [VP_rung t _ (Nat.mod_lt _ (by decide))]
  refine cancel_aux (pp 1074) ?_
  rw [hp, Nat.mul_assoc, ← P_add]
  congr 2; omega
theorem V_970 : V (970 * B) = P 52 * P 969 := VP_rung0 969
theorem low_aux {M v s j q : Nat} (h : v * P 1074 = M * P q) (hs : 52 + 969 + s = q) : P 52 * P 969 * (M * P s) * P j = v * P 1074 * P j := by
  rw [h]
  congr 1
  rw [Nat.mul_left_comm, ← P_add, ← P_add, hs]
theorem ld_low {n r : Nat} {k : Int} (h : Is n k r) (h1 : 1 ≤ n) (h2 : n < 2 * B) (s : Nat) (hs : (s : Int) = k + (F n / B : Nat) - 1 + 53) : mulR (970 * B) ((s + 1) * B + F n % B) = r := by
  have hb : 1023 ≤ F n / B := (F_parts h1 h2).1
  obtain ⟨j, hj⟩ : ∃ j : Nat, k + 1074 = j := ⟨(k + 1074).toNat, by have := h.1; omega⟩
  have hp := h.parts h1 h2 hj
  unfold mulR
  refine nearestP h.2.1 1074 (by omega) ?_
  rw [show ((-2148 : Int) + 1074 + (1074 : Nat)).toNat = 0 from rfl]
  rw [VP_rung s _ (Nat.mod_lt _ (by decide)), V_970]
  have := low_aux (j := 0) (s := s) hp (by omega)
  rw [P_zero, Nat.mul_one, Nat.mul_one] at this
  rw [P_zero, Nat.mul_one]
  exact this
theorem pow_gap {M v q : Nat} (h : v * P 1074 = M * P q) (hv : 1 ≤ v) (hM : M < P 53) : 1021 < q := by
  apply Nat.lt_of_not_le
  intro hq
  have a : P 1074 ≤ v * P 1074 := Nat.le_mul_of_pos_left _ hv
  have b : M * P q ≤ M * P 1021 := Nat.mul_le_mul_left _ (P_le hq)
  have c : M * P 1021 < P 53 * P 1021 := Nat.mul_lt_mul_of_pos_right hM (pp _)
  rw [P_eq 53 1021 1074 rfl] at c
  omega
theorem pos_aux {v n g : Nat} (h : v = n * g) (h1 : 1 ≤ n) (hg : 0 < g) : 1 ≤ v := by subst h; exact Nat.mul_pos h1 hg
theorem ld_under {n r : Nat} {k : Int} (h : Is n k r) (h1 : 1 ≤ n) (h2 : n < 2 * B) : -1075 ≤ k + (F n / B : Nat) - 1023 := by
  obtain ⟨j, hj⟩ : ∃ j : Nat, k + 1074 = j := ⟨(k + 1074).toNat, by have := h.1; omega⟩
  have hp := h.parts h1 h2 hj
  have hM : B + F n % B < P 53 := by
    have : F n % B < B := Nat.mod_lt _ (by decide)
    rw [P_53]; omega
  have := pow_gap hp (pos_aux h.2.2 h1 (pp _)) hM
  have hb := (F_parts h1 h2).1
  omega
theorem top_aux {M v q : Nat} (h : v * P 1074 = M * P q) (hM : P 52 ≤ M) (hq : 3120 ≤ q) : P 52 * P 2046 ≤ v := by
  refine Nat.le_of_mul_le_mul_right (c := P 1074) ?_ (pp _)
  rw [h, Nat.mul_assoc, P_eq 2046 1074 3120 rfl]
  exact Nat.mul_le_mul hM (P_le hq)
theorem ld_over {n r : Nat} {k : Int} (h : Is n k r) (h1 : 1 ≤ n) (h2 : n < 2 * B) : k + (F n / B : Nat) - 1023 ≤ 1023 := by
  obtain ⟨j, hj⟩ : ∃ j : Nat, k + 1074 = j := ⟨(k + 1074).toNat, by have := h.1; omega⟩
  have hp := h.parts h1 h2 hj
  have hb := (F_parts h1 h2).1
  apply Int.not_lt.1
  intro hlt
  have ht := top_aux hp (by rw [← P_B]; exact Nat.le_add_right _ _) (by omega)
  rw [← VP_INF] at ht
  have := V_lt h.2.1
  omega
theorem Is.k_le {n r : Nat} {k : Int} (h : Is n k r) (h1 : 1 ≤ n) (h2 : n < 2 * B) : k ≤ 1023 := by
  have := ld_over h h1 h2
  have := (F_parts h1 h2).1
  omega
theorem Is.zero {r : Nat} {k : Int} (h : Is 0 k r) : r = 0 := by
  apply V_inj
  rw [h.2.2, Nat.zero_mul, V_zero]

/-! the reference's way: doubled, halved -/
/-- So many doublings (d ≥ 0) or halvings (d < 0) are still to come. -/
def To (x : Nat) (d : Int) (r : Nat) : Prop := V r * P (-d).toNat = V x * P d.toNat
theorem Is.to {n r : Nat} {k : Int} (h : Is n k r) (h2 : n ≤ 2 * B) : To (F n) k r := by
  unfold To
  obtain ⟨h0, hr, hv⟩ := h
  rw [hv, (VP_F h2).2, Nat.mul_assoc, Nat.mul_assoc, ← P_add, ← P_add]
  congr 2; omega
theorem To.up {x y r : Nat} {d : Int} (h : To x d r) (hd : 0 < d) (hr : r < INF) (hy : ∀ s, s < INF → V s = 2 * V x → y = s) : To y (d - 1) r := by
  unfold To at *
  have e0 : (-d).toNat = 0 := by omega
  have e1 : (-(d - 1)).toNat = 0 := by omega
  obtain ⟨m, hm⟩ : ∃ m : Nat, d = m + 1 := ⟨(d - 1).toNat, by omega⟩
  have e2 : d.toNat = m + 1 := by omega
  have e3 : (d - 1).toNat = m := by omega
  rw [e0, e2, P_zero, Nat.mul_one] at h
  rw [e1, e3, P_zero, Nat.mul_one]
  have h3 : V r = 2 * V x * P m := by
    rw [h, P_succ]
    generalize P m = g
    ac_rfl
  have h4 : V (dbl x) ≤ V r := by
    rw [V_dbl, h3]; exact Nat.le_mul_of_pos_right _ (pp m)
  have h5 : dbl x < INF := lt_of_V (Nat.lt_of_le_of_lt h4 (V_lt hr))
  rw [hy (dbl x) h5 (V_dbl x), V_dbl]
  exact h3
theorem To.down {x y r : Nat} {d : Int} (h : To x d r) (hd : d < 0) (hx : x < INF) (hy : ∀ s, s < INF → V x = 2 * V s → y = s) : To y (d + 1) r ∧ y < INF := by
  unfold To at *
  have e0 : d.toNat = 0 := by omega
  have e1 : (d + 1).toNat = 0 := by omega
  obtain ⟨m, hm⟩ : ∃ m : Nat, d = -((m : Int) + 1) := ⟨(-d - 1).toNat, by omega⟩
  have e2 : (-d).toNat = m + 1 := by omega
  have e3 : (-(d + 1)).toNat = m := by omega
  rw [e0, e2, P_zero, Nat.mul_one] at h
  rw [e1, e3, P_zero, Nat.mul_one]
  obtain ⟨s, hs⟩ := VP_pow r m
  have h3 : V x = 2 * V s := by
    rw [← h, hs, P_succ]
    generalize P m = g
    ac_rfl
  have h5 : s < INF := by
    by_cases h0 : V s = 0
    · apply lt_of_V
      rw [h0]
      exact Nat.lt_of_lt_of_eq (Nat.mul_pos (pp 52) (pp 2046)) VP_INF.symm
    · exact Nat.lt_trans (lt_of_V (by omega : V s < V x)) hx
  rw [hy s h5 h3]
  exact ⟨hs.symm, h5⟩
theorem To.done {x r : Nat} (h : To x 0 r) : x = r := by
  apply V_inj
  unfold To at h
  rw [show (0 : Int).toNat = 0 from rfl, show (-(0 : Int)).toNat = 0 from rfl, P_zero, Nat.mul_one, Nat.mul_one] at h
  exact h.symm
end Go.FX

/- Plain facts: how two doubles stand to each other, as numbers and by their places. No condition. -/
namespace Go.FX
open Go.FT Go.Lib Ieee

/-- A double's value in units of the least one; of the infinities a stand-in beyond all. -/
def sv (x : Nat) : Int := if ng x then -(V (x - SGN) : Int) else (V x : Int)
theorem cmp_V (r s : Nat) : compare r s = compare (V r : Int) (V s : Int) := by
  rw [cmp_nat, cmp_int]
  have h1 : (r < s) ↔ ((V r : Int) < V s) := by rw [← V_lt_iff]; omega
  have h2 : (r = s) ↔ ((V r : Int) = V s) := ⟨fun h => by rw [h], fun h => V_inj (by omega)⟩
  by_cases a : r < s
  · rw [if_pos a, if_pos (h1.1 a)]
  · rw [if_neg a, if_neg (fun h => a (h1.2 h))]
    by_cases b : r = s
    · rw [if_pos b, if_pos (h2.1 b)]
    · rw [if_neg b, if_neg (fun h => b (h2.2 h))]
theorem V_zero_iff {r : Nat} : V r = 0 ↔ r = 0 := ⟨fun h => V_inj (by rw [h, V_zero]), fun h => by rw [h, V_zero]⟩
theorem mag_zero_iff {r : Nat} : mag r = 0 ↔ r = 0 := by
  constructor
  · intro h
    apply Nat.eq_zero_of_not_pos
    intro hp
    have := mag_pos hp
    omega
  · intro h; subst h; unfold mag; rw [if_pos (by decide)]
theorem shl_zero {m k : Nat} : m <<< k = 0 ↔ m = 0 := by
  rw [Nat.shiftLeft_eq]
  constructor
  · intro h
    rcases Nat.mul_eq_zero.1 h with h | h
    · exact h
    · have := Nat.two_pow_pos k; omega
  · intro h; rw [h, Nat.zero_mul]
theorem cmp_pm {a b c d : Nat} (h1 : a = 0 ↔ c = 0) (h2 : b = 0 ↔ d = 0) : compare (a : Int) (-(b : Int)) = compare (c : Int) (-(d : Int)) := by
  rw [cmp_int, cmp_int, if_neg (show ¬ ((a : Int) < -(b : Int)) by omega), if_neg (show ¬ ((c : Int) < -(d : Int)) by omega)]
  by_cases h : (a : Int) = -(b : Int)
  · rw [if_pos h, if_pos (show (c : Int) = -(d : Int) by omega)]
  · rw [if_neg h, if_neg (show ¬ (c : Int) = -(d : Int) by omega)]
theorem cmp_mp {a b c d : Nat} (h1 : a = 0 ↔ c = 0) (h2 : b = 0 ↔ d = 0) : compare (-(a : Int)) (b : Int) = compare (-(c : Int)) (d : Int) := by
  rw [cmp_int, cmp_int]
  by_cases h : (-(a : Int)) < (b : Int)
  · rw [if_pos h, if_pos (show -(c : Int) < (d : Int) by omega)]
  · rw [if_neg h, if_neg (show ¬ -(c : Int) < (d : Int) by omega), if_pos (show -(a : Int) = (b : Int) by omega), if_pos (show -(c : Int) = (d : Int) by omega)]
theorem V_INF_pos : 0 < V INF := by rw [VP_INF]; exact Nat.mul_pos (pp _) (pp _)
theorem order_pm {r s : Nat} (hr : r ≤ INF) (hs : s ≤ INF) : D.order r (SGN + s) = some (compare (V r : Int) (-(V s : Int))) := by
  have hs2 : s < SGN := Nat.lt_of_le_of_lt hs (by decide)
  have hi := V_INF_pos
  have gt : ∀ a b : Nat, 0 < a ∨ 0 < b → compare (a : Int) (-(b : Int)) = .gt := fun a b h => by
    rw [cmp_int, if_neg (by omega), if_neg (by omega)]
  unfold Format.order
  rw [read_high hs2]
  by_cases a : r = INF
  · subst a
    rw [gt _ _ (Or.inl hi), read_inf]
    by_cases b : s = INF
    · subst b; rw [read_inf]; rfl
    · rw [read_fin (r := s) (by omega)]; rfl
  · rw [read_fin (r := r) (by omega)]
    by_cases b : s = INF
    · subst b; rw [gt _ _ (Or.inr hi), read_inf]; rfl
    · rw [read_fin (r := s) (by omega)]
      simp only [Datum.opposite, Datum.order, Bool.not_false, Ieee.signed, if_true, Bool.false_eq_true, if_false]
      congr 1
      exact cmp_pm (by rw [shl_zero, mag_zero_iff, V_zero_iff]) (by rw [shl_zero, mag_zero_iff, V_zero_iff])
theorem order_mp {r s : Nat} (hr : r ≤ INF) (hs : s ≤ INF) : D.order (SGN + r) s = some (compare (-(V r : Int)) (V s : Int)) := by
  have hs2 : r < SGN := Nat.lt_of_le_of_lt hr (by decide)
  have hi := V_INF_pos
  have lt : ∀ a b : Nat, 0 < a ∨ 0 < b → compare (-(a : Int)) (b : Int) = .lt := fun a b h => by
    rw [cmp_int, if_pos (by omega)]
  unfold Format.order
  rw [read_high hs2]
  by_cases a : r = INF
  · subst a
    rw [lt _ _ (Or.inl hi), read_inf]
    by_cases b : s = INF
    · subst b; rw [read_inf]; rfl
    · rw [read_fin (r := s) (by omega)]; rfl
  · rw [read_fin (r := r) (by omega)]
    by_cases b : s = INF
    · subst b; rw [lt _ _ (Or.inr hi), read_inf]; rfl
    · rw [read_fin (r := s) (by omega)]
      simp only [Datum.opposite, Datum.order, Bool.not_false, Ieee.signed, if_true, Bool.false_eq_true, if_false]
      congr 1
      exact cmp_mp (by rw [shl_zero, mag_zero_iff, V_zero_iff]) (by rw [shl_zero, mag_zero_iff, V_zero_iff])
theorem cmp_neg (a b : Int) : compare (-a) (-b) = compare b a := by
  rw [cmp_int, cmp_int]
  by_cases h : b < a
  · rw [if_pos h, if_pos (by omega)]
  · rw [if_neg h, if_neg (by omega)]
    by_cases e : b = a
    · rw [if_pos e, if_pos (by omega)]
    · rw [if_neg e, if_neg (by omega)]
theorem order_mm {r s : Nat} (hr : r ≤ INF) (hs : s ≤ INF) : D.order (SGN + r) (SGN + s) = some (compare (-(V r : Int)) (-(V s : Int))) := by
  have hr2 : r < SGN := Nat.lt_of_le_of_lt hr (by decide)
  have hs2 : s < SGN := Nat.lt_of_le_of_lt hs (by decide)
  have h := order_fin hs hr
  rw [cmp_V] at h
  rw [cmp_neg, ← h]
  unfold Format.order
  rw [read_high hs2, read_high hr2]
  by_cases a : r = INF
  · subst a
    rw [read_inf]
    by_cases b : s = INF
    · subst b; rw [read_inf]; rfl
    · rw [read_fin (r := s) (by omega)]; rfl
  · rw [read_fin (r := r) (by omega)]
    by_cases b : s = INF
    · subst b; rw [read_inf]; rfl
    · rw [read_fin (r := s) (by omega)]
      simp only [Datum.opposite, Datum.order, Bool.not_false, Ieee.signed, if_true, Bool.false_eq_true, if_false]
      rw [cmp_neg, Int.min_comm]
theorem isN_false {x : Nat} (h : isN x = false) : x % SGN ≤ INF := by
  unfold isN at h
  have := of_decide_eq_false h
  omega
theorem hi_split {x : Nat} (hx : x < W64) (m : x % SGN ≤ INF) (a : SGN ≤ x) : ∃ r, x = SGN + r ∧ r ≤ INF := ⟨x - SGN, by omega, by unfold W64 SGN at *; omega⟩
theorem lo_split {x : Nat} (m : x % SGN ≤ INF) (a : ¬ SGN ≤ x) : x ≤ INF := by unfold SGN at *; omega
theorem sv_hi (r : Nat) : sv (SGN + r) = -(V r : Int) := by
  unfold sv ng
  rw [decide_eq_true (Nat.le_add_right _ _), if_pos rfl, Nat.add_sub_cancel_left]
theorem sv_lo {x : Nat} (a : ¬ SGN ≤ x) : sv x = (V x : Int) := by
  unfold sv ng
  rw [decide_eq_false a, if_neg Bool.false_ne_true]
theorem order_sv {x y : Nat} (hx : x < W64) (hy : y < W64) (nx : isN x = false) (ny : isN y = false) : D.order x y = some (compare (sv x) (sv y)) := by
  have mx := isN_false nx
  have my := isN_false ny
  by_cases a : SGN ≤ x
  · obtain ⟨r, rfl, hr⟩ := hi_split hx mx a
    by_cases b : SGN ≤ y
    · obtain ⟨s, rfl, hs⟩ := hi_split hy my b
      rw [sv_hi, sv_hi]; exact order_mm hr hs
    · rw [sv_hi, sv_lo b]; exact order_mp hr (lo_split my b)
  · by_cases b : SGN ≤ y
    · obtain ⟨s, rfl, hs⟩ := hi_split hy my b
      rw [sv_hi, sv_lo a]; exact order_pm (lo_split mx a) hs
    · rw [sv_lo a, sv_lo b, order_fin (lo_split mx a) (lo_split my b), cmp_V]
theorem order_nan {x y : Nat} (h : isN x = true ∨ isN y = true) : D.order x y = none := by
  rcases h with h | h
  · exact order_nan_left (read_nan (of_decide_eq_true h))
  · exact order_nan_right (read_nan (of_decide_eq_true h))
/-- 'x != x' as the model says it. -/
theorem order_self {x : Nat} (hx : x < W64) : (D.order x x == some .eq) = !isN x := by
  cases h : isN x
  · rw [order_sv hx hx h h, cmp_int, if_neg (by omega), if_pos rfl]; rfl
  · rw [order_nan (Or.inl h)]; rfl
theorem can_bitsF {x : Nat} (hx : x < W64) : bitsF x = can x := by
  unfold bitsF can
  rw [order_self hx]
  cases isN x <;> rfl
theorem can_lt {x : Nat} (hx : x < W64) : can x < W64 := by
  unfold can; split
  · decide
  · exact hx
theorem can_can {x : Nat} : can (can x) = can x := by
  cases h : isN x
  · have e : can x = x := by unfold can; rw [h, if_neg Bool.false_ne_true]
    rw [e, e]
  · have e : can x = NAN := by unfold can; rw [h, if_pos rfl]
    rw [e]; decide

/-- A number's place among all. -/
def pl (b : Nat) : Nat := if isN b then 0 else if ng b then 18446744073709551615 - b else b + SGN
def less (a b : Nat) : Bool := decide (pl a < pl b)
def same (a b : Nat) : Bool := decide (can a = can b)
theorem pl_inj {a b : Nat} (ha : a < W64) (hb : b < W64) : pl a = pl b ↔ can a = can b := by
  unfold pl can isN ng
  unfold W64 at ha hb
  by_cases na : INF < a % SGN
  · rw [decide_eq_true na, if_pos rfl, if_pos rfl]
    by_cases nb : INF < b % SGN
    · rw [decide_eq_true nb, if_pos rfl, if_pos rfl]; simp
    · rw [decide_eq_false nb, if_neg Bool.false_ne_true, if_neg Bool.false_ne_true]
      constructor
      · intro h
        by_cases g : SGN ≤ b
        · rw [decide_eq_true g, if_pos rfl] at h; unfold INF SGN at *; omega
        · rw [decide_eq_false g, if_neg Bool.false_ne_true] at h; unfold SGN at *; omega
      · intro h; subst h; exact absurd (by decide) nb
  · rw [decide_eq_false na, if_neg Bool.false_ne_true, if_neg Bool.false_ne_true]
    by_cases nb : INF < b % SGN
    · rw [decide_eq_true nb, if_pos rfl, if_pos rfl]
      constructor
      · intro h
        by_cases g : SGN ≤ a
        · rw [decide_eq_true g, if_pos rfl] at h; unfold INF SGN at *; omega
        · rw [decide_eq_false g, if_neg Bool.false_ne_true] at h; unfold SGN at *; omega
      · intro h; subst h; exact absurd (by decide) na
    · rw [decide_eq_false nb, if_neg Bool.false_ne_true, if_neg Bool.false_ne_true]
      by_cases g : SGN ≤ a <;> by_cases g2 : SGN ≤ b
      · rw [decide_eq_true g, decide_eq_true g2, if_pos rfl, if_pos rfl]; omega
      · rw [decide_eq_true g, decide_eq_false g2, if_pos rfl, if_neg Bool.false_ne_true]; unfold INF SGN at *; omega
      · rw [decide_eq_false g, decide_eq_true g2, if_pos rfl, if_neg Bool.false_ne_true]; unfold INF SGN at *; omega
      · rw [decide_eq_false g, decide_eq_false g2, if_neg Bool.false_ne_true, if_neg Bool.false_ne_true]; omega
theorem sv_lt_pl {x y : Nat} (hx : x < W64) (hy : y < W64) (nx : isN x = false) (ny : isN y = false) (h : sv x < sv y) : pl x < pl y := by
  have mx := isN_false nx
  have my := isN_false ny
  unfold pl
  rw [nx, ny, if_neg Bool.false_ne_true, if_neg Bool.false_ne_true]
  unfold sv ng at *
  unfold W64 at hx hy
  by_cases a : SGN ≤ x <;> by_cases b : SGN ≤ y
  · rw [decide_eq_true a, decide_eq_true b, if_pos rfl, if_pos rfl] at *
    have := V_lt_iff.1 (show V (y - SGN) < V (x - SGN) by omega)
    omega
  · rw [decide_eq_true a, decide_eq_false b, if_pos rfl, if_neg Bool.false_ne_true]; unfold INF SGN at *; omega
  · rw [decide_eq_false a, decide_eq_true b, if_pos rfl, if_neg Bool.false_ne_true] at h
    omega
  · rw [decide_eq_false a, decide_eq_false b, if_neg Bool.false_ne_true, if_neg Bool.false_ne_true] at *
    have := V_lt_iff.1 (show V x < V y by omega)
    omega
theorem lt_less {x y : Nat} (hx : x < W64) (hy : y < W64) (h : (D.order x y == some .lt) = true) : less x y = true := by
  cases nx : isN x
  · cases ny : isN y
    · rw [order_sv hx hy nx ny, cmp_int] at h
      refine decide_eq_true (sv_lt_pl hx hy nx ny ?_)
      apply Int.not_le.1
      intro hle
      rw [if_neg (by omega)] at h
      split at h <;> cases h
    · rw [order_nan (Or.inr ny)] at h; cases h
  · rw [order_nan (Or.inl nx)] at h; cases h
theorem nan_less {x y : Nat} (hy : y < W64) (nx : isN x = true) (ny : isN y = false) : less x y = true := by
  have my := isN_false ny
  unfold W64 at hy
  refine decide_eq_true ?_
  unfold pl
  rw [nx, ny, if_pos rfl, if_neg Bool.false_ne_true]
  unfold ng
  by_cases b : SGN ≤ y
  · rw [decide_eq_true b, if_pos rfl]; unfold INF SGN at *; omega
  · rw [decide_eq_false b, if_neg Bool.false_ne_true]; unfold SGN at *; omega
theorem same_pl {x y : Nat} (hx : x < W64) (hy : y < W64) : same x y = decide (pl x = pl y) := by
  unfold same
  by_cases h : can x = can y
  · rw [decide_eq_true h, decide_eq_true ((pl_inj hx hy).2 h)]
  · rw [decide_eq_false h, decide_eq_false (fun e => h ((pl_inj hx hy).1 e))]
end Go.FX

/- Plain facts: what a text is read as, as a double. No condition. -/
namespace Go.FX
open Go.FT Go.Lib

open Classical in
/-- What a text is read as: the double whose text it is; else none. -/
noncomputable def pv (S : List UInt8) : Nat × Int := if h : ∃ b, b < W64 ∧ T b = S then (can h.choose, 0) else (0, 16)
theorem pv_of {S : List UInt8} {b : Nat} (hb : b < W64) (h : T b = S) : pv S = (can b, 0) := by
  have hx : ∃ b, b < W64 ∧ T b = S := ⟨b, hb, h⟩
  unfold pv
  rw [dif_pos hx, T_inj hx.choose_spec.1 hb (hx.choose_spec.2.trans h.symm)]
theorem pv_none {S : List UInt8} (h : ∀ b, b < W64 → T b ≠ S) : pv S = (0, 16) := by
  unfold pv
  rw [dif_neg]
  rintro ⟨b, hb, e⟩
  exact h b hb e
theorem T_can {b : Nat} : T (can b) = T b := by
  cases h : isN b
  · rw [show can b = b by unfold can; rw [h, if_neg Bool.false_ne_true]]
  · rw [show can b = NAN by unfold can; rw [h, if_pos rfl]]
    have h2 : isN NAN = true := by decide
    unfold T; rw [h, h2, if_pos rfl, if_pos rfl]
theorem T_congr {a b : Nat} (h : can a = can b) : T a = T b := by rw [← T_can, h, T_can]
/-- What was read is written again, and held against the text. -/
theorem pv_held {S : List UInt8} {y : Nat} (hy : y < W64) (h : ∀ b, b < W64 → T b = S → can b = can y) : (T y = S → pv S = (can y, 0)) ∧ (T y ≠ S → pv S = (0, 16)) := by
  refine ⟨fun e => pv_of hy e, fun hn => pv_none fun b hb e => hn ?_⟩
  rw [← e]; exact T_congr (h b hb e).symm
theorem pv_text {b : Nat} (hb : b < W64) : pv (T b) = (can b, 0) := pv_of hb rfl
theorem pv_range (S : List UInt8) : (pv S).1 < W64 ∧ ((pv S).2 = 0 ∨ (pv S).2 = 16 ∧ (pv S).1 = 0) ∧ can (pv S).1 = (pv S).1 := by
  by_cases hx : ∃ b, b < W64 ∧ T b = S
  · obtain ⟨b, hb, e⟩ := hx
    rw [pv_of hb e]
    exact ⟨can_lt hb, Or.inl rfl, can_can⟩
  · rw [pv_none (fun b hb e => hx ⟨b, hb, e⟩)]
    exact ⟨by decide, Or.inr ⟨rfl, rfl⟩, by decide⟩

/-! a double's text, taken apart -/
abbrev sNan : List UInt8 := [110, 97, 110]
abbrev sInf : List UInt8 := [105, 110, 102]
theorem pre45 {c : UInt8} {t : List UInt8} (h : c ≠ 45) : hasPrefix (c :: t) [45] = false ∧ trimPrefix (c :: t) [45] = c :: t := by
  have h1 : hasPrefix (c :: t) [45] = false := by
    unfold hasPrefix
    simp only [List.isPrefixOf, Bool.and_true, beq_eq_false_iff_ne]
    exact fun e => h e.symm
  refine ⟨h1, ?_⟩
  unfold trimPrefix
  rw [h1, if_neg Bool.false_ne_true]
theorem pre45_yes {t : List UInt8} : hasPrefix (45 :: t) [45] = true ∧ trimPrefix (45 :: t) [45] = t := by
  have h1 : hasPrefix (45 :: t) [45] = true := by
    unfold hasPrefix
    simp [List.isPrefixOf]
  refine ⟨h1, ?_⟩
  unfold trimPrefix
  rw [h1, if_pos rfl]; rfl
/-- A double from its sign and its rung. -/
def sg (n : Bool) (r : Nat) : Nat := if n then SGN + r else r
theorem sg_split {b : Nat} (hb : b < W64) : b = sg (ng b) (b % SGN) := by
  unfold sg ng
  unfold W64 at hb
  by_cases h : SGN ≤ b
  · rw [decide_eq_true h, if_pos rfl]; unfold SGN at *; omega
  · rw [decide_eq_false h, if_neg Bool.false_ne_true]; unfold SGN at *; omega
theorem T_shape {b : Nat} {S : List UInt8} (h : T b = S) :
    (isN b = true ∧ hasPrefix S [45] = false ∧ trimPrefix S [45] = sNan) ∨
    (isN b = false ∧ hasPrefix S [45] = ng b ∧ trimPrefix S [45] = body (b % SGN) ∧ b % SGN ≤ INF) := by
  cases hn : isN b
  · right
    have hm := isN_false hn
    unfold T at h
    rw [hn, if_neg Bool.false_ne_true] at h
    obtain ⟨c, t, hc, h1, h2⟩ := body_head (r := b % SGN)
    refine ⟨rfl, ?_, ?_, hm⟩
    · rw [← h]
      cases ng b
      · rw [if_neg Bool.false_ne_true, List.nil_append, hc]; exact (pre45 h1).1
      · rw [if_pos rfl]; exact pre45_yes.1
    · rw [← h]
      cases ng b
      · rw [if_neg Bool.false_ne_true, List.nil_append, hc]; exact (pre45 h1).2
      · rw [if_pos rfl]; exact pre45_yes.2
  · left
    unfold T at h
    rw [hn, if_pos rfl] at h
    subst h
    exact ⟨rfl, (pre45 (by decide)).1, (pre45 (by decide)).2⟩
theorem body_shape {r : Nat} (h : r ≤ INF) : body r ≠ sNan ∧
    ((r = INF ∧ body r = sInf) ∨ (r < INF ∧ body r ≠ sInf ∧ body r = decDigits (oe r).1 ++ 98 :: itoa (oe r).2 ∧ (oe r).1 < 2 * B ∧ -1074 ≤ (oe r).2 ∧ (oe r).2 ≤ 1023 ∧ Is (oe r).1 (oe r).2 r)) := by
  have hd : ∀ (u : Nat) (c : UInt8) (t x : List UInt8), c.toNat > 57 → decDigits u ++ x ≠ c :: t := by
    intro u c t x hc e
    obtain ⟨d, s, h1, h2⟩ := dec_cons u
    rw [h1] at e
    simp only [List.cons_append, List.cons.injEq] at e
    unfold isD at h2
    rw [e.1] at h2
    omega
  by_cases h0 : r = INF
  · have e : body r = sInf := by unfold body; rw [if_pos h0]
    rw [e]
    exact ⟨by decide, Or.inl ⟨h0, rfl⟩⟩
  · have hr : r < INF := by omega
    have e : body r = decDigits (oe r).1 ++ 98 :: itoa (oe r).2 := by unfold body; rw [if_neg h0]
    obtain ⟨v1, v2, v3, v4⟩ := VP_oe hr
    have hI : Is (oe r).1 (oe r).2 r := ⟨v2, hr, v1⟩
    have hk : (oe r).2 ≤ 1023 := by
      by_cases hz : r = 0
      · subst hz; rw [oe_zero]; decide
      · have hp : 1 ≤ (oe r).1 := by
          apply Nat.one_le_iff_ne_zero.2
          intro e0
          rw [e0, Nat.zero_mul] at v1
          exact hz (V_zero_iff.1 v1)
        exact hI.k_le hp v4
    rw [e]
    exact ⟨hd _ _ _ _ (by decide), Or.inr ⟨hr, hd _ _ _ _ (by decide), rfl, v4, v2, hk, hI⟩⟩

/-! the keys of both readings: which doubles can have the text -/
def neg (S : List UInt8) : Bool := hasPrefix S [45]
def rest (S : List UInt8) : List UInt8 := trimPrefix S [45]
theorem key_nan {S : List UInt8} {y : Nat} (h : rest S = sNan) (hy : isN y = true) : ∀ b, b < W64 → T b = S → can b = can y := by
  intro b _ e
  rcases T_shape e with ⟨h1, _, _⟩ | ⟨_, _, h3, h4⟩
  · unfold can; rw [h1, hy, if_pos rfl, if_pos rfl]
  · have : body (b % SGN) = sNan := h3.symm.trans h
    exact absurd this (body_shape h4).1
theorem key_inf {S : List UInt8} (h : rest S = sInf) : ∀ b, b < W64 → T b = S → can b = can (sg (neg S) INF) := by
  intro b hb e
  rcases T_shape e with ⟨_, _, h3⟩ | ⟨_, h2, h3, h4⟩
  · have : sNan = sInf := h3.symm.trans h
    exact absurd this (by decide)
  · have hq : body (b % SGN) = sInf := h3.symm.trans h
    rcases (body_shape h4).2 with ⟨r1, _⟩ | ⟨_, r2, _⟩
    · unfold neg
      rw [h2, ← r1, ← sg_split hb]
    · exact absurd hq r2
/-- A text that is neither 'nan' nor 'inf': it is a number's. -/
theorem num_of {S : List UInt8} {b : Nat} (hb : b < W64) (e : T b = S) (h1 : rest S ≠ sNan) (h2 : rest S ≠ sInf) :
    ∃ (r o : Nat) (k : Int), b = sg (neg S) r ∧ rest S = decDigits o ++ 98 :: itoa k ∧ o < 2 * B ∧ -1074 ≤ k ∧ k ≤ 1023 ∧ Is o k r := by
  rcases T_shape e with ⟨_, _, h3⟩ | ⟨_, g2, h3, h4⟩
  · exact absurd h3 h1
  · rcases (body_shape h4).2 with ⟨_, r2⟩ | ⟨_, _, r3, r4, r5, r6, r7⟩
    · exact absurd (h3.trans r2) h2
    · refine ⟨b % SGN, (oe (b % SGN)).1, (oe (b % SGN)).2, ?_, h3.trans r3, r4, r5, r6, r7⟩
      unfold neg
      rw [g2, ← sg_split hb]
theorem can_sg {n : Bool} {a b : Nat} (h : a = b) : can (sg n a) = can (sg n b) := by rw [h]

/-! the program's way -/
theorem none_nocut {S a c : List UInt8} (h1 : rest S ≠ sNan) (h2 : rest S ≠ sInf) (h : cut (rest S) [98] = (a, c, false)) : pv S = (0, 16) := by
  refine pv_none fun b hb e => ?_
  obtain ⟨r, o, k, _, hr, _⟩ := num_of hb e h1 h2
  rw [hr, cut_b _ _ (dec_ne98 o)] at h
  cases h
theorem none_bad {S a c : List UInt8} (h1 : rest S ≠ sNan) (h2 : rest S ≠ sInf) (h : cut (rest S) [98] = (a, c, true)) (hbad : (∀ n, parseUintB 64 a ≠ .ok n) ∨ (∀ n, atoiAll c ≠ .ok n) ∨ (∃ n, parseUintB 64 a = .ok n ∧ 2 * B ≤ n)) : pv S = (0, 16) := by
  refine pv_none fun b hb e => ?_
  obtain ⟨r, o, k, _, hr, ho, hk1, hk2, _⟩ := num_of hb e h1 h2
  rw [hr, cut_b _ _ (dec_ne98 o)] at h
  injection h with e1 e2
  injection e2 with e2 _
  subst e1 e2
  have p1 := uint_dec (u := o) (by unfold B at ho; omega)
  have p2 := atoi_itoa (e := k) (by omega) (by omega)
  rcases hbad with hbad | hbad | ⟨n, hn, hbad⟩
  · exact hbad _ p1
  · exact hbad _ p2
  · rw [p1] at hn
    injection hn with hn
    omega
theorem key_num {S a c : List UInt8} {n x : Nat} {k : Int} (h1 : rest S ≠ sNan) (h2 : rest S ≠ sInf) (h : cut (rest S) [98] = (a, c, true)) (hn : parseUintB 64 a = .ok n) (hk : atoiAll c = .ok k)
    (hx : ∀ r, Is n k r → x = r) : ∀ b, b < W64 → T b = S → can b = can (sg (neg S) x) := by
  intro b hb e
  obtain ⟨r, o, k', hs, hr, ho, hk1, hk2, hI⟩ := num_of hb e h1 h2
  rw [hr, cut_b _ _ (dec_ne98 o)] at h
  injection h with e1 e2
  injection e2 with e2 _
  subst e1 e2
  rw [uint_dec (u := o) (by unfold B at ho; omega)] at hn
  rw [atoi_itoa (e := k') (by omega) (by omega)] at hk
  injection hn with hn
  injection hk with hk
  subst hn hk
  rw [hs, hx r hI]
/-! the reference's way: two small numbers -/
/-- What 'small' gives: of a whole number's text the number. -/
def Sm (s : List UInt8) (most : Nat) (n : Int) (ok : Bool) : Prop := ∀ v : Int, -(10 : Int) ^ most < v → v < (10 : Int) ^ most → s = itoa v → n = v ∧ ok = true
theorem dec_itoa (o : Nat) : decDigits o = itoa (o : Int) := by unfold itoa; rw [if_neg (by omega)]; rfl
theorem none_ref {S a c : List UInt8} {m k : Int} {p q : Bool} (h1 : rest S ≠ sNan) (h2 : rest S ≠ sInf) (h : cut (rest S) [98] = (a, c, true)) (hm : Sm a 17 m p) (hk : Sm c 5 k q)
    (hbad : p = false ∨ q = false ∨ m < 0 ∨ 2 * (B : Int) < m ∨ k < -1074 ∨ 1023 < k) : pv S = (0, 16) := by
  refine pv_none fun b hb e => ?_
  obtain ⟨r, o, k', _, hr, ho, hk1, hk2, _⟩ := num_of hb e h1 h2
  rw [hr, cut_b _ _ (dec_ne98 o)] at h
  injection h with e1 e2
  injection e2 with e2 _
  subst e1 e2
  obtain ⟨a1, a2⟩ := hm o (by omega) (by unfold B at ho; omega) (dec_itoa o)
  obtain ⟨b1, b2⟩ := hk k' (by omega) (by omega) rfl
  subst a1 a2 b1 b2
  rcases hbad with h | h | h | h | h | h
  · cases h
  · cases h
  · omega
  · omega
  · omega
  · omega
theorem key_ref {S a c : List UInt8} {x : Nat} {m k : Int} (h1 : rest S ≠ sNan) (h2 : rest S ≠ sInf) (h : cut (rest S) [98] = (a, c, true)) (hm : Sm a 17 m true) (hk : Sm c 5 k true)
    (hx : ∀ r, Is m.toNat k r → x = r) : ∀ b, b < W64 → T b = S → can b = can (sg (neg S) x) := by
  intro b hb e
  obtain ⟨r, o, k', hs, hr, ho, hk1, hk2, hI⟩ := num_of hb e h1 h2
  rw [hr, cut_b _ _ (dec_ne98 o)] at h
  injection h with e1 e2
  injection e2 with e2 _
  subst e1 e2
  obtain ⟨a1, a2⟩ := hm o (by omega) (by unfold B at ho; omega) (dec_itoa o)
  obtain ⟨b1, b2⟩ := hk k' (by omega) (by omega) rfl
  subst a1 b1
  rw [hs, hx r hI]
end Go.FX

/- Plain facts: the bits of a double as Go takes them apart. No condition. -/
namespace Go.FX
open Go.FT

theorem top_bit {x : Nat} (hx : x < W64) : x.testBit 63 = ng x := by
  unfold ng
  rw [Nat.testBit_eq_decide_div_mod_eq]
  unfold W64 at hx
  by_cases g : SGN ≤ x
  · rw [decide_eq_true g]; apply decide_eq_true; unfold SGN at *; omega
  · rw [decide_eq_false g]; apply decide_eq_false; unfold SGN at *; omega
theorem and_sgn_nat {x : Nat} (hx : x < W64) : x &&& SGN = if ng x then SGN else 0 := by
  apply Nat.eq_of_testBit_eq
  intro i
  rw [← top_bit hx, Nat.testBit_and, show SGN = 2 ^ 63 by decide, Nat.testBit_two_pow]
  by_cases g : 63 = i
  · subst g
    rw [decide_eq_true rfl, Bool.and_true]
    cases h : x.testBit 63
    · rw [if_neg Bool.false_ne_true, Nat.zero_testBit]
    · rw [if_pos rfl, Nat.testBit_two_pow, decide_eq_true rfl]
  · rw [decide_eq_false g, Bool.and_false]
    cases h : x.testBit 63
    · rw [if_neg Bool.false_ne_true, Nat.zero_testBit]
    · rw [if_pos rfl, Nat.testBit_two_pow, decide_eq_false g]
theorem xor_max_nat {x : Nat} (hx : x < W64) : 18446744073709551615 ^^^ x = 18446744073709551615 - x := by
  apply Nat.eq_of_testBit_eq
  intro i
  have h1 := Nat.testBit_two_pow_sub_succ (x := x) (n := 64) hx i
  rw [show 18446744073709551615 - x = 2 ^ 64 - (x + 1) by unfold W64 at hx; omega, h1, Nat.testBit_xor]
  have h2 := Nat.testBit_two_pow_sub_one 64 i
  rw [show (2 : Nat) ^ 64 - 1 = 18446744073709551615 by decide] at h2
  rw [h2]
  by_cases g : i < 64
  · rw [decide_eq_true g]; simp
  · rw [decide_eq_false g]
    have : x.testBit i = false := Nat.testBit_lt_two_pow (Nat.lt_of_lt_of_le hx (Nat.le_trans (by decide : W64 ≤ 2 ^ 64) (Nat.pow_le_pow_right (by decide) (by omega))))
    rw [this]; rfl
theorem mod_sgn_nat (x : Nat) : x &&& 9223372036854775807 = x % SGN := Nat.and_two_pow_sub_one_eq_mod x 63

theorem w_and {x m : Nat} (hx : x < W64) (hm : m < W64) : bits .and .u64 (x : Int) (m : Int) = ((x &&& m : Nat) : Int) := u64_and_nat x m hx hm
theorem w_or {x m : Nat} (hx : x < W64) (hm : m < W64) : bits .or .u64 (x : Int) (m : Int) = ((x ||| m : Nat) : Int) := u64_or_nat x m hx hm
theorem w_xor {x m : Nat} (hx : x < W64) (hm : m < W64) : bits .xor .u64 (x : Int) (m : Int) = ((x ^^^ m : Nat) : Int) := u64_xor_nat x m hx hm
theorem sgn_test {x : Nat} (hx : x < W64) : (bits .and .u64 (x : Int) 9223372036854775808 != 0) = ng x := by
  have h := w_and hx (show SGN < W64 by decide)
  rw [and_sgn_nat hx] at h
  rw [show ((9223372036854775808 : Int)) = ((SGN : Nat) : Int) from rfl, h]
  cases ng x <;> rfl
theorem not_w {x : Nat} (hx : x < W64) : bits .xor .u64 IntKind.u64.max (x : Int) = ((18446744073709551615 - x : Nat) : Int) := by
  have h := w_xor (show 18446744073709551615 < W64 by decide) hx
  rw [xor_max_nat hx] at h
  exact h
theorem or_sgn {x : Nat} (hx : x < SGN) : bits .or .u64 (x : Int) 9223372036854775808 = ((x + SGN : Nat) : Int) := by
  have h := w_or (show x < W64 by unfold SGN at hx; unfold W64; omega) (show SGN < W64 by decide)
  have h2 := Nat.two_pow_add_eq_or_of_lt (i := 63) (b := x) (by rw [show (2 : Nat) ^ 63 = SGN by decide]; exact hx) 1
  rw [show (2 : Nat) ^ 63 * 1 = SGN by decide] at h2
  rw [Nat.or_comm, ← h2, Nat.add_comm] at h
  exact h
theorem exp_bits {x : Nat} (hx : x < W64) : bits .and .u64 ((x : Int) / 4503599627370496) 2047 = ((x % SGN / B : Nat) : Int) := by
  have h := u64_and_nat (x / 4503599627370496) 2047 (by unfold W64 at hx; omega) (by omega)
  rw [show x / 4503599627370496 &&& 2047 = x / 4503599627370496 % 2 ^ 11 from Nat.and_two_pow_sub_one_eq_mod _ 11] at h
  rw [show ((x : Int) / 4503599627370496) = ((x / 4503599627370496 : Nat) : Int) by omega]
  rw [show (2047 : Int) = ((2047 : Nat) : Int) from rfl, h]
  unfold W64 at hx; unfold SGN B; omega
theorem frac_bits {x : Nat} (hx : x < W64) : bits .and .u64 (x : Int) 4503599627370495 = ((x % SGN % B : Nat) : Int) := by
  have h := u64_and_nat x 4503599627370495 hx (by omega)
  rw [show x &&& 4503599627370495 = x % 2 ^ 52 from Nat.and_two_pow_sub_one_eq_mod _ 52] at h
  rw [show (4503599627370495 : Int) = ((4503599627370495 : Nat) : Int) from rfl, h]
  unfold SGN B; omega
theorem or_B {f : Nat} (hf : f < B) : bits .or .u64 (f : Int) 4503599627370496 = ((B + f : Nat) : Int) := by
  have h := u64_or_nat f 4503599627370496 (by unfold B at hf; omega) (by omega)
  have h2 := Nat.two_pow_add_eq_or_of_lt (i := 52) (b := f) (by unfold B at hf; exact hf) 1
  rw [show (2 : Nat) ^ 52 * 1 = 4503599627370496 by decide] at h2
  rw [Nat.or_comm, ← h2] at h
  rw [show (4503599627370496 : Int) = ((4503599627370496 : Nat) : Int) from rfl, h]
theorem andNot_sgn {x : Nat} (hx : x < W64) : bits .andNot .u64 (x : Int) 9223372036854775808 = ((x % SGN : Nat) : Int) := by
  have h := u64_andNot_nat x SGN hx (by decide)
  rw [show 18446744073709551615 - SGN = 9223372036854775807 by decide, mod_sgn_nat] at h
  exact h
theorem isN_bits {x : Nat} (hx : x < W64) : decide (9218868437227405312 < bits .andNot .u64 (x : Int) 9223372036854775808) = isN x := by
  rw [andNot_sgn hx]
  unfold isN
  rw [Bool.eq_iff_iff, decide_eq_true_iff, decide_eq_true_iff]
  unfold INF SGN; omega
end Go.FX
