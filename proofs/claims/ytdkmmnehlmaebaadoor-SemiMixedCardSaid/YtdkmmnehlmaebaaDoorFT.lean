/- Plain facts about doubles from 0 to infinity: their bits stand in the order of their values; rounding keeps the order, and leaves what is a double alone. No condition. -/
import Ieee.Arith
namespace Go.FT
open Ieee

abbrev D : Format := Ieee.double
abbrev B : Nat := 4503599627370496            -- 2^52
abbrev INF : Nat := 9218868437227405312       -- 2047 * 2^52
abbrev SGN : Nat := 9223372036854775808       -- 2^63

theorem D_fb : D.fractionBits = 52 := rfl
theorem D_lp : D.leastPlace = -1074 := by decide
theorem D_binade : D.binade = B := by decide
theorem D_inf : D.infRung = INF := by decide
theorem D_sgn : D.signWeight = SGN := by decide

/-- The digits and the place of a rung; its value in units of the least one. -/
def mag (r : Nat) : Nat := if r < B then r else B + r % B
def ex (r : Nat) : Nat := if r < B then 0 else r / B - 1
def V (r : Nat) : Nat := mag r * 2 ^ ex r

theorem read_fin {r : Nat} (h : r < INF) : D.read r = .number false (mag r) (-1074 + (ex r : Int)) := by
  unfold Format.read
  simp only [D_sgn, D_binade, D_inf, D_lp]
  have h1 : r / SGN % 2 == 1 ↔ False := by
    have : r / SGN = 0 := Nat.div_eq_of_lt (by unfold SGN; unfold INF at h; omega)
    simp [this]
  have h2 : r % SGN = r := Nat.mod_eq_of_lt (by unfold SGN; unfold INF at h; omega)
  have h3 : (r / SGN % 2 == 1) = false := by simpa using h1
  rw [h2, h3]
  unfold mag ex
  by_cases hb : r < B
  · simp [hb]
  · rw [if_neg hb, if_pos h, if_neg hb, if_neg hb]

theorem read_inf : D.read INF = .infinity false := by decide

theorem V_lt_succ (r : Nat) : V r < V (r + 1) := by
  unfold V mag ex
  by_cases h1 : r + 1 < B
  · rw [if_pos (by omega), if_pos h1, if_pos (by omega), if_pos h1]; omega
  · by_cases h0 : r < B
    · have : r + 1 = B := by omega
      rw [if_pos h0, if_pos h0, if_neg h1, if_neg h1, this]; unfold B at *; simp; omega
    · rw [if_neg h0, if_neg h0, if_neg h1, if_neg h1]
      by_cases ht : r % B + 1 < B
      · have e1 : (r + 1) % B = r % B + 1 := by unfold B at *; omega
        have e2 : (r + 1) / B = r / B := by unfold B at *; omega
        rw [e1, e2]
        exact Nat.mul_lt_mul_of_pos_right (by omega) (Nat.two_pow_pos _)
      · have e1 : (r + 1) % B = 0 := by unfold B at *; omega
        have e2 : (r + 1) / B = r / B + 1 := by unfold B at *; omega
        have e3 : r / B - 1 + 1 = r / B := by unfold B at *; omega
        rw [e1, e2, Nat.add_sub_cancel, ← e3, Nat.add_sub_cancel, Nat.pow_succ]
        have hp := Nat.two_pow_pos (r / B - 1)
        have : r % B < B := Nat.mod_lt _ (by decide)
        calc (B + r % B) * 2 ^ (r / B - 1) < (2 * B) * 2 ^ (r / B - 1) := Nat.mul_lt_mul_of_pos_right (by omega) hp
          _ = (B + 0) * (2 ^ (r / B - 1) * 2) := by rw [Nat.add_zero, Nat.mul_comm 2 B, Nat.mul_assoc, Nat.mul_comm 2]

theorem V_lt {r s : Nat} (h : r < s) : V r < V s := by
  induction s with
  | zero => omega
  | succ s ih =>
    by_cases e : r = s
    · subst e; exact V_lt_succ r
    · exact Nat.lt_trans (ih (by omega)) (V_lt_succ s)

theorem V_lt_iff {r s : Nat} : V r < V s ↔ r < s := by
  constructor
  · intro h
    by_cases e : r < s
    · exact e
    · by_cases e' : r = s
      · subst e'; omega
      · have := V_lt (r := s) (s := r) (by omega); omega
  · exact V_lt
theorem V_inj {r s : Nat} (h : V r = V s) : r = s := by
  by_cases e : r < s
  · have := V_lt e; omega
  · by_cases e' : s < r
    · have := V_lt e'; omega
    · omega
theorem V_le {r s : Nat} (h : r ≤ s) : V r ≤ V s := by
  by_cases e : r = s
  · subst e; exact Nat.le_refl _
  · exact Nat.le_of_lt (V_lt (by omega))

/-- The nearest whole number, between two the even one. -/
def rne (n d : Nat) : Nat := n / d + (if d < 2 * (n % d) ∨ (d = 2 * (n % d) ∧ n / d % 2 = 1) then 1 else 0)

theorem rne_mono {n m d : Nat} (h : n ≤ m) : rne n d ≤ rne m d := by
  unfold rne
  have hq : n / d ≤ m / d := Nat.div_le_div_right h
  by_cases e : n / d = m / d
  · have hn := Nat.div_add_mod n d
    have hm := Nat.div_add_mod m d
    rw [e] at hn
    rw [e]
    have : n % d ≤ m % d := by omega
    split <;> split <;> rename_i a b <;> omega
  · split <;> split <;> omega

theorem rne_scale (n d s : Nat) (hs : 0 < s) : rne (n * s) (d * s) = rne n d := by
  unfold rne
  rw [Nat.mul_div_mul_right _ _ hs, Nat.mul_mod_mul_right]
  have e1 : (d * s < 2 * (n % d * s)) ↔ (d < 2 * (n % d)) := by
    rw [← Nat.mul_assoc]; exact Nat.mul_lt_mul_right hs
  have e2 : (d * s = 2 * (n % d * s)) ↔ (d = 2 * (n % d)) := by
    rw [← Nat.mul_assoc]; exact Nat.mul_right_cancel_iff hs
  simp only [e1, e2]

theorem rne_ge (n d : Nat) : n / d ≤ rne n d := by unfold rne; omega
theorem rne_le (n d : Nat) : rne n d ≤ n / d + 1 := by unfold rne; split <;> omega
theorem rne_exact (n d : Nat) (hd : 0 < d) : rne (n * d) d = n := by
  unfold rne
  rw [Nat.mul_div_cancel _ hd, Nat.mul_mod_left]
  simp
  omega

theorem cut_even (n drop : Nat) : Toward.even.cut false n drop = rne n (2 ^ drop) := by
  unfold Toward.cut
  simp only [Nat.one_shiftLeft]
  by_cases h : drop ≤ n.log2 + 2
  · rw [Nat.min_eq_left h]
    unfold rne
    congr 1
    generalize 2 ^ drop = g
    generalize n % g = x
    generalize n / g % 2 = y
    by_cases a : g < 2 * x
    · rw [if_pos (Or.inl a), decide_eq_true a]; rfl
    · rw [decide_eq_false a, Bool.false_or]
      by_cases b : g = 2 * x ∧ y = 1
      · rw [if_pos (Or.inr b), b.2, ← b.1]; simp
      · rw [if_neg (fun h => h.elim a b)]
        have : (g == 2 * x && y == 1) = false := by
          rw [Bool.and_eq_false_iff]
          by_cases c : g = 2 * x
          · right; simpa using fun e => b ⟨c, e⟩
          · left; simpa using c
        rw [this]; rfl
  · rw [Nat.min_eq_right (by omega)]
    have hn : n < 2 ^ (n.log2 + 1) := Nat.lt_log2_self
    have h1 : 2 ^ (n.log2 + 2) = 2 * 2 ^ (n.log2 + 1) := by rw [Nat.pow_succ]; omega
    have h2 : 2 ^ (n.log2 + 2) ≤ 2 ^ drop := Nat.pow_le_pow_right (by omega) (by omega)
    unfold rne
    have g1 : n < 2 ^ (n.log2 + 2) := by omega
    have g2 : n < 2 ^ drop := by omega
    rw [Nat.div_eq_of_lt g1, Nat.mod_eq_of_lt g1, Nat.div_eq_of_lt g2, Nat.mod_eq_of_lt g2]
    rw [if_neg (by omega)]
    have a : decide (2 ^ (n.log2 + 2) < 2 * n) = false := by simp; omega
    simp [a]

/-- Rounding, in the form that proofs like: 'last' is the place of the last digit. -/
def lastOf (m : Nat) (p : Int) : Int := max (p + m.log2 - 52) (-1074)
def kept (m : Nat) (p last : Int) : Nat := rne (m * 2 ^ (p - last).toNat) (2 ^ (last - p).toNat)

theorem nearest_eq (m : Nat) (p : Int) (h : m ≠ 0) :
    D.nearest false m p = min ((lastOf m p + 1074).toNat * B + kept m p (lastOf m p)) INF := by
  unfold Format.nearest
  rw [if_neg h]
  simp only [D_lp, D_fb, D_binade, D_inf, Format.word, Nat.shiftLeft_eq, cut_even, Bool.false_eq_true, if_false]
  unfold kept lastOf
  congr 3

theorem nearest_zero (p : Int) : D.nearest false 0 p = 0 := by
  unfold Format.nearest; simp [Format.word]

theorem nearest_le_inf (m : Nat) (p : Int) : D.nearest false m p ≤ INF := by
  by_cases h : m = 0
  · subst h; rw [nearest_zero]; unfold INF; omega
  · rw [nearest_eq m p h]; exact Nat.min_le_right _ _

theorem kept_scale (m : Nat) (p last : Int) (c : Int) (h1 : 0 ≤ p + c) (h2 : 0 ≤ last + c) :
    kept m p last = rne (m * 2 ^ (p + c).toNat) (2 ^ (last + c).toNat) := by
  unfold kept
  by_cases h : p ≤ last
  · have e1 : (p - last).toNat = 0 := by omega
    have e2 : (last + c).toNat = (last - p).toNat + (p + c).toNat := by omega
    rw [e1, e2, Nat.pow_zero, Nat.mul_one, Nat.pow_add, rne_scale _ _ _ (Nat.two_pow_pos _)]
  · have e1 : (last - p).toNat = 0 := by omega
    have e2 : (p + c).toNat = (p - last).toNat + (last + c).toNat := by omega
    rw [e1, e2, Nat.pow_zero, Nat.pow_add, ← Nat.mul_assoc]
    have := rne_scale (m * 2 ^ (p - last).toNat) 1 (2 ^ (last + c).toNat) (Nat.two_pow_pos _)
    rw [Nat.one_mul] at this
    exact this.symm

theorem pow_lt_of_log2 {m : Nat} (h : m ≠ 0) : 2 ^ m.log2 ≤ m ∧ m < 2 ^ (m.log2 + 1) :=
  ⟨Nat.log2_self_le h, Nat.lt_log2_self⟩

theorem min_mono {a b c : Nat} (h : a ≤ b) : min a c ≤ min b c := by omega
theorem glue {x y b k k' : Nat} (hk : k ≤ 2 * b) (hk' : b ≤ k') (h : x + b ≤ y) : x + k ≤ y + k' := by omega
/-- ROUNDING KEEPS THE ORDER: 'c' brings both to whole numbers. -/
theorem nearest_mono {m m' : Nat} {p p' c : Int} (hp : 0 ≤ p + c) (hp' : 0 ≤ p' + c)
    (h : m * 2 ^ (p + c).toNat ≤ m' * 2 ^ (p' + c).toNat) : D.nearest false m p ≤ D.nearest false m' p' := by
  by_cases hm : m = 0
  · subst hm; rw [nearest_zero]; omega
  have hm' : m' ≠ 0 := by
    intro e; subst e
    have := Nat.two_pow_pos (p + c).toNat
    rw [Nat.zero_mul] at h
    have h2 : m * 2 ^ (p + c).toNat = 0 := by omega
    rcases Nat.mul_eq_zero.1 h2 with h3 | h3 <;> omega
  rw [nearest_eq m p hm, nearest_eq m' p' hm']
  obtain ⟨l1, l2⟩ := pow_lt_of_log2 hm
  obtain ⟨l3, l4⟩ := pow_lt_of_log2 hm'
  have hL : p + m.log2 ≤ p' + m'.log2 := by
    have a : 2 ^ (m.log2 + (p + c).toNat) < 2 ^ (m'.log2 + 1 + (p' + c).toNat) := by
      rw [Nat.pow_add, Nat.pow_add 2 (m'.log2 + 1)]
      calc 2 ^ m.log2 * 2 ^ (p + c).toNat ≤ m * 2 ^ (p + c).toNat := Nat.mul_le_mul_right _ l1
        _ ≤ m' * 2 ^ (p' + c).toNat := h
        _ < 2 ^ (m'.log2 + 1) * 2 ^ (p' + c).toNat := Nat.mul_lt_mul_of_pos_right l4 (Nat.two_pow_pos _)
    have := (Nat.pow_lt_pow_iff_right (a := 2) (by omega)).1 a
    omega
  have hlast : lastOf m p ≤ lastOf m' p' := by unfold lastOf; omega
  -- a finer unit
  obtain ⟨C, hC⟩ : ∃ C : Nat, (C : Int) = max c 1074 - c := ⟨(max c 1074 - c).toNat, by omega⟩
  have hge : -1074 ≤ lastOf m p := by unfold lastOf; omega
  have hge' : -1074 ≤ lastOf m' p' := by unfold lastOf; omega
  have k1 := kept_scale m p (lastOf m p) (c + C) (by omega) (by omega)
  have k2 := kept_scale m' p' (lastOf m' p') (c + C) (by omega) (by omega)
  have e1 : (p + (c + C)).toNat = (p + c).toNat + C := by omega
  have e2 : (p' + (c + C)).toNat = (p' + c).toNat + C := by omega
  have hh : m * 2 ^ (p + (c + C)).toNat ≤ m' * 2 ^ (p' + (c + C)).toNat := by
    rw [e1, e2, Nat.pow_add, Nat.pow_add, ← Nat.mul_assoc, ← Nat.mul_assoc]
    exact Nat.mul_le_mul_right _ h
  have main : (lastOf m p + 1074).toNat * B + kept m p (lastOf m p) ≤ (lastOf m' p' + 1074).toNat * B + kept m' p' (lastOf m' p') := by
    by_cases e : lastOf m p = lastOf m' p'
    · rw [k1, k2, e]
      exact Nat.add_le_add_left (rne_mono hh) _
    · have hlt : lastOf m p < lastOf m' p' := by omega
      have hk : kept m p (lastOf m p) ≤ 2 * B := by
        have hle : p + m.log2 - 52 ≤ lastOf m p := by unfold lastOf; omega
        rw [k1]
        have : m * 2 ^ (p + (c + C)).toNat / 2 ^ (lastOf m p + (c + C)).toNat < 2 * B := by
          rw [Nat.div_lt_iff_lt_mul (Nat.two_pow_pos _)]
          calc m * 2 ^ (p + (c + C)).toNat < 2 ^ (m.log2 + 1) * 2 ^ (p + (c + C)).toNat := Nat.mul_lt_mul_of_pos_right l2 (Nat.two_pow_pos _)
            _ = 2 ^ (m.log2 + 1 + (p + (c + C)).toNat) := by rw [← Nat.pow_add]
            _ ≤ 2 ^ (53 + (lastOf m p + (c + C)).toNat) := Nat.pow_le_pow_right (by omega) (by omega)
            _ = 2 * B * 2 ^ (lastOf m p + (c + C)).toNat := by rw [Nat.pow_add]; rfl
        have := rne_le (m * 2 ^ (p + (c + C)).toNat) (2 ^ (lastOf m p + (c + C)).toNat)
        omega
      have hk' : B ≤ kept m' p' (lastOf m' p') := by
        have hle : lastOf m' p' = p' + m'.log2 - 52 := by unfold lastOf at hlt ⊢; omega
        rw [k2]
        have : B ≤ m' * 2 ^ (p' + (c + C)).toNat / 2 ^ (lastOf m' p' + (c + C)).toNat := by
          rw [Nat.le_div_iff_mul_le (Nat.two_pow_pos _)]
          calc B * 2 ^ (lastOf m' p' + (c + C)).toNat = 2 ^ (52 + (lastOf m' p' + (c + C)).toNat) := by rw [Nat.pow_add]
            _ = 2 ^ (m'.log2 + (p' + (c + C)).toNat) := by congr 1; omega
            _ = 2 ^ m'.log2 * 2 ^ (p' + (c + C)).toNat := by rw [← Nat.pow_add]
            _ ≤ m' * 2 ^ (p' + (c + C)).toNat := Nat.mul_le_mul_right _ l3
        have := rne_ge (m' * 2 ^ (p' + (c + C)).toNat) (2 ^ (lastOf m' p' + (c + C)).toNat)
        omega
      have : (lastOf m p + 1074).toNat + 1 ≤ (lastOf m' p' + 1074).toNat := by omega
      have := Nat.mul_le_mul_right B this
      rw [Nat.add_mul, Nat.one_mul] at this
      exact glue hk hk' this
  exact min_mono main

theorem nearest_congr {m m' : Nat} {p p' c : Int} (hp : 0 ≤ p + c) (hp' : 0 ≤ p' + c)
    (h : m * 2 ^ (p + c).toNat = m' * 2 ^ (p' + c).toNat) : D.nearest false m p = D.nearest false m' p' :=
  Nat.le_antisymm (nearest_mono hp hp' (by omega)) (nearest_mono hp' hp (by omega))

theorem mag_lt (r : Nat) : mag r < 2 * B := by
  unfold mag; split
  · omega
  · have : r % B < B := Nat.mod_lt _ (by decide)
    omega

theorem log2_of {m k : Nat} (h1 : 2 ^ k ≤ m) (h2 : m < 2 ^ (k + 1)) : m.log2 = k := by
  have h0 : m ≠ 0 := by have := Nat.two_pow_pos k; omega
  have a := (Nat.le_log2 h0).2 h1
  have b := (Nat.log2_lt h0).2 h2
  omega

theorem kept_self (m : Nat) (p : Int) : kept m p p = m := by
  unfold kept
  rw [Int.sub_self, Int.toNat_zero, Nat.pow_zero]
  exact rne_exact m 1 (by omega)
theorem log2_lt52 {r : Nat} (h0 : r ≠ 0) (h : r < B) : r.log2 < 52 := (Nat.log2_lt h0).2 h
theorem self_low {r : Nat} (h : r < INF) (hb : r < B) : D.nearest false r (-1074) = r := by
  by_cases h0 : r = 0
  · subst h0; exact nearest_zero _
  · rw [nearest_eq _ _ h0]
    have hl := log2_lt52 h0 hb
    have : lastOf r (-1074) = -1074 := by unfold lastOf; omega
    rw [this, kept_self]
    rw [show ((-1074 : Int) + 1074).toNat = 0 from rfl, Nat.zero_mul, Nat.zero_add]
    exact Nat.min_eq_left (Nat.le_of_lt h)
theorem log2_mid {t : Nat} (h : t < B) : (B + t).log2 = 52 := by
  refine log2_of ?_ ?_
  · exact Nat.le_add_right B t
  · have : (2 : Nat) ^ (52 + 1) = B + B := by decide
    rw [this]; omega
theorem self_high {q t : Nat} (hq : 1 ≤ q) (ht : t < B) (h : q * B + t < INF) : D.nearest false (B + t) (-1074 + ((q - 1 : Nat) : Int)) = q * B + t := by
  have h0 : B + t ≠ 0 := by have : 0 < B := by decide
                            omega
  rw [nearest_eq _ _ h0]
  have hl := log2_mid ht
  have hlast : lastOf (B + t) (-1074 + ((q - 1 : Nat) : Int)) = -1074 + ((q - 1 : Nat) : Int) := by unfold lastOf; rw [hl]; omega
  rw [hlast, kept_self]
  have e : (-1074 + ((q - 1 : Nat) : Int) + 1074).toNat = q - 1 := by omega
  rw [e]
  have e2 : (q - 1) * B + (B + t) = q * B + t := by
    obtain ⟨k, rfl⟩ : ∃ k, q = k + 1 := ⟨q - 1, by omega⟩
    rw [Nat.add_sub_cancel, Nat.add_mul, Nat.one_mul, Nat.add_assoc]
  rw [e2]
  exact Nat.min_eq_left (Nat.le_of_lt h)
/-- WHAT IS A DOUBLE STAYS AS IT IS. -/
theorem nearest_self {r : Nat} (h : r < INF) : D.nearest false (mag r) (-1074 + (ex r : Int)) = r := by
  by_cases hb : r < B
  · have hm : mag r = r := by unfold mag; rw [if_pos hb]
    have he : ex r = 0 := by unfold ex; rw [if_pos hb]
    rw [hm, he]
    exact self_low h hb
  · have hm : mag r = B + r % B := by unfold mag; rw [if_neg hb]
    have he : ex r = r / B - 1 := by unfold ex; rw [if_neg hb]
    have hdm : r / B * B + r % B = r := by rw [Nat.mul_comm]; exact Nat.div_add_mod r B
    rw [hm, he]
    have := self_high (q := r / B) (t := r % B) ((Nat.le_div_iff_mul_le (by decide)).2 (by omega)) (Nat.mod_lt _ (by decide)) (by rw [hdm]; exact h)
    rw [this, hdm]

theorem nearest_of_V {r m : Nat} {p : Int} (h : r < INF) (q : Nat) (hp : 0 ≤ p + 1074 + q) (hv : m * 2 ^ (p + 1074 + q).toNat = V r * 2 ^ q) : D.nearest false m p = r := by
  rw [← nearest_self h]
  refine nearest_congr (c := 1074 + q) (by omega) (by omega) ?_
  have e : (-1074 + (ex r : Int) + (1074 + q)).toNat = ex r + q := by omega
  rw [e, Nat.pow_add, ← Nat.mul_assoc, ← Int.add_assoc]
  exact hv

/-! ### Order, sum, product of the doubles from 0 on -/

theorem cmp_nat (a b : Nat) : compare a b = if a < b then .lt else if a = b then .eq else .gt := by
  show compareOfLessAndEq a b = _
  rfl
theorem cmp_int (a b : Int) : compare a b = if a < b then .lt else if a = b then .eq else .gt := by
  show compareOfLessAndEq a b = _
  rfl

theorem V_shift (r k : Nat) (h : k ≤ ex r) : mag r * 2 ^ (ex r - k) * 2 ^ k = V r := by
  unfold V
  rw [Nat.mul_assoc, ← Nat.pow_add, Nat.sub_add_cancel h]

theorem order_fin {r s : Nat} (hr : r ≤ INF) (hs : s ≤ INF) : D.order r s = some (compare r s) := by
  unfold Format.order
  by_cases h1 : r = INF
  · by_cases h2 : s = INF
    · subst h1 h2; rw [read_inf, cmp_nat]; rfl
    · subst h1; rw [read_inf, read_fin (r := s) (by omega), cmp_nat, if_neg (by omega), if_neg (by omega)]; rfl
  · by_cases h2 : s = INF
    · subst h2; rw [read_inf, read_fin (r := r) (by omega), cmp_nat, if_pos (by omega)]; rfl
    · rw [read_fin (r := r) (by omega), read_fin (r := s) (by omega)]
      simp only [Datum.order, signed, Bool.false_eq_true, if_false, Nat.shiftLeft_eq]
      obtain ⟨k, hk⟩ : ∃ k : Nat, k = min (ex r) (ex s) := ⟨_, rfl⟩
      have e1 : ((-1074 + (ex r : Int)) - min (-1074 + (ex r : Int)) (-1074 + (ex s : Int))).toNat = ex r - k := by omega
      have e2 : ((-1074 + (ex s : Int)) - min (-1074 + (ex r : Int)) (-1074 + (ex s : Int))).toNat = ex s - k := by omega
      rw [e1, e2]
      have v1 := V_shift r k (by omega)
      have v2 := V_shift s k (by omega)
      have hp := Nat.two_pow_pos k
      rw [cmp_int, cmp_nat]
      by_cases a : r < s
      · have := V_lt a
        rw [← v1, ← v2] at this
        have := Nat.lt_of_mul_lt_mul_right this
        rw [if_pos a, if_pos (by exact_mod_cast this)]
      · by_cases b : r = s
        · subst b; rw [if_neg a, if_pos rfl, if_neg (by omega), if_pos rfl]
        · have := V_lt (r := s) (s := r) (by omega)
          rw [← v1, ← v2] at this
          have := Nat.lt_of_mul_lt_mul_right this
          rw [if_neg a, if_neg b, if_neg (by have : ((mag s * 2 ^ (ex s - k) : Nat) : Int) < ((mag r * 2 ^ (ex r - k) : Nat) : Int) := by exact_mod_cast this
                                             omega), if_neg (by have : ((mag s * 2 ^ (ex s - k) : Nat) : Int) < ((mag r * 2 ^ (ex r - k) : Nat) : Int) := by exact_mod_cast this
                                                                omega)]

def addR (r s : Nat) : Nat := if r = INF ∨ s = INF then INF else D.nearest false (V r + V s) (-1074)
def mulR (r s : Nat) : Nat := D.nearest false (V r * V s) (-2148)

theorem add_fin {r s : Nat} (hr : r ≤ INF) (hs : s ≤ INF) : D.add r s = some (addR r s) := by
  unfold Format.add addR
  by_cases h1 : r = INF
  · rw [if_pos (Or.inl h1)]
    by_cases h2 : s = INF
    · subst h1 h2; rw [read_inf]; decide
    · subst h1; rw [read_inf, read_fin (r := s) (by omega)]; simp only [Datum.sum, Option.map_some, Format.write]; decide
  · by_cases h2 : s = INF
    · rw [if_pos (Or.inr h2)]
      subst h2; rw [read_inf, read_fin (r := r) (by omega)]; simp only [Datum.sum, Option.map_some, Format.write]; decide
    · rw [if_neg (by omega), read_fin (r := r) (by omega), read_fin (r := s) (by omega)]
      simp only [Datum.sum, signed, Bool.false_eq_true, if_false, Nat.shiftLeft_eq, Option.map_some, Format.write]
      obtain ⟨k, hk⟩ : ∃ k : Nat, k = min (ex r) (ex s) := ⟨_, rfl⟩
      have e1 : ((-1074 + (ex r : Int)) - min (-1074 + (ex r : Int)) (-1074 + (ex s : Int))).toNat = ex r - k := by omega
      have e2 : ((-1074 + (ex s : Int)) - min (-1074 + (ex r : Int)) (-1074 + (ex s : Int))).toNat = ex s - k := by omega
      have e3 : min (-1074 + (ex r : Int)) (-1074 + (ex s : Int)) = -1074 + (k : Int) := by omega
      rw [e1, e2, e3]
      have v1 := V_shift r k (by omega)
      have v2 := V_shift s k (by omega)
      obtain ⟨a, ha⟩ : ∃ a, a = mag r * 2 ^ (ex r - k) := ⟨_, rfl⟩
      obtain ⟨b, hb⟩ : ∃ b, b = mag s * 2 ^ (ex s - k) := ⟨_, rfl⟩
      rw [← ha] at v1 ⊢
      rw [← hb] at v2 ⊢
      have n1 : (if (a : Int) + (b : Int) = 0 then (false && false) else decide ((a : Int) + (b : Int) < 0)) = false := by
        split
        · rfl
        · simp; omega
      have n2 : ((a : Int) + (b : Int)).natAbs = a + b := by omega
      rw [n1, n2]
      congr 1
      refine nearest_congr (c := 1074) (by omega) (by omega) ?_
      have e4 : (-1074 + (k : Int) + 1074).toNat = k := by omega
      rw [e4, Nat.add_mul, v1, v2]
      simp

theorem mul_fin {r s : Nat} (hr : r < INF) (hs : s < INF) : D.mul r s = some (mulR r s) := by
  unfold Format.mul mulR
  rw [read_fin hr, read_fin hs]
  simp only [Datum.product, Bool.xor_self, Option.map_some, Format.write]
  congr 1
  refine nearest_congr (c := 2148) (by omega) (by omega) ?_
  have e1 : (-1074 + (ex r : Int) + (-1074 + (ex s : Int)) + 2148).toNat = ex r + ex s := by omega
  have e2 : ((-2148 : Int) + 2148).toNat = 0 := by omega
  rw [e1, e2, Nat.pow_zero, Nat.mul_one, Nat.pow_add]
  unfold V
  rw [Nat.mul_mul_mul_comm]

theorem pow_mul_eq (a b c : Nat) (h : a + b = c) : 2 ^ a * 2 ^ b = 2 ^ c := by rw [← Nat.pow_add, h]
abbrev ONE : Nat := 4607182418800017408       -- 1023 * 2^52
theorem V_ONE : V ONE = 2 ^ 1074 := by
  unfold V mag ex
  rw [if_neg (by decide), if_neg (by decide)]
  have : ONE / B - 1 = 1022 := by decide
  rw [this]
  have : B + ONE % B = 2 ^ 52 := by decide
  rw [this]
  exact pow_mul_eq 52 1022 1074 rfl
theorem V_zero : V 0 = 0 := by unfold V mag; simp

theorem addR_comm (r s : Nat) : addR r s = addR s r := by
  unfold addR
  rw [Nat.add_comm]
  by_cases h1 : r = INF <;> by_cases h2 : s = INF <;> simp [h1, h2]
theorem mulR_comm (r s : Nat) : mulR r s = mulR s r := by
  unfold mulR; rw [Nat.mul_comm]
theorem addR_le (r s : Nat) : addR r s ≤ INF := by
  unfold addR; split
  · exact Nat.le_refl _
  · exact nearest_le_inf _ _
theorem addR_inf_left (s : Nat) : addR INF s = INF := by unfold addR; simp
theorem addR_inf_right (r : Nat) : addR r INF = INF := by unfold addR; simp
theorem nearest_V {r : Nat} (h : r < INF) : D.nearest false (V r) (-1074) = r := nearest_of_V h 0 (by omega) (by simp)
theorem addR_zero {r : Nat} (h : r ≤ INF) : addR r 0 = r := by
  unfold addR
  by_cases e : r = INF
  · rw [if_pos (Or.inl e), e]
  · rw [if_neg (by unfold INF at *; omega), V_zero, Nat.add_zero, nearest_V (by omega)]
theorem addR_ge {r s : Nat} (h : r ≤ INF) : r ≤ addR r s := by
  unfold addR
  by_cases e : r = INF ∨ s = INF
  · rw [if_pos e]; exact h
  · rw [if_neg e]
    have := nearest_mono (m := V r) (m' := V r + V s) (p := -1074) (p' := -1074) (c := 1074) (by omega) (by omega) (Nat.mul_le_mul_right _ (by omega))
    rw [nearest_V (by omega)] at this
    exact this
theorem mulR_le {r s : Nat} (h : r < INF) (hs : s ≤ ONE) : mulR r s ≤ r := by
  unfold mulR
  have v : V s ≤ 2 ^ 1074 := by rw [← V_ONE]; exact V_le hs
  have := nearest_mono (m := V r * V s) (m' := V r) (p := -2148) (p' := -1074) (c := 2148) (by omega) (by omega) (by
    have e1 : ((-2148 : Int) + 2148).toNat = 0 := by omega
    have e2 : ((-1074 : Int) + 2148).toNat = 1074 := by omega
    rw [e1, e2, Nat.pow_zero, Nat.mul_one]
    exact Nat.mul_le_mul_left _ v)
  rw [nearest_V h] at this
  exact this
theorem mulR_one {r : Nat} (h : r < INF) : mulR r ONE = r := by
  unfold mulR
  have := nearest_congr (m := V r * V ONE) (m' := V r) (p := -2148) (p' := -1074) (c := 2148) (by omega) (by omega) (by
    have e1 : ((-2148 : Int) + 2148).toNat = 0 := by omega
    have e2 : ((-1074 : Int) + 2148).toNat = 1074 := by omega
    rw [e1, e2, Nat.pow_zero, Nat.mul_one, V_ONE])
  rw [nearest_V h] at this
  exact this

/-- Whole numbers below 2^53 are doubles. -/
theorem V_nearest_exact {m : Nat} {p : Int} (h0 : m ≠ 0) (hm : m < 2 * B) (hp : -1074 ≤ p) (hq : p + m.log2 ≤ 971) :
    V (D.nearest false m p) = m * 2 ^ (p + 1074).toNat ∧ D.nearest false m p < INF := by
  have hl : m.log2 < 53 := (Nat.log2_lt h0).2 (by unfold B at hm; exact hm)
  obtain ⟨l1, l2⟩ := pow_lt_of_log2 h0
  rw [nearest_eq m p h0]
  have hlast : lastOf m p ≤ p := by unfold lastOf; omega
  have hge : -1074 ≤ lastOf m p := by unfold lastOf; omega
  obtain ⟨k, hk⟩ : ∃ k : Nat, k = (lastOf m p + 1074).toNat := ⟨_, rfl⟩
  have hkept : kept m p (lastOf m p) = m * 2 ^ (p - lastOf m p).toNat := by
    unfold kept
    have e : (lastOf m p - p).toNat = 0 := by omega
    rw [e, Nat.pow_zero]
    have := rne_exact (m * 2 ^ (p - lastOf m p).toNat) 1 (by decide)
    simpa using this
  have hlt : kept m p (lastOf m p) < 2 * B := by
    rw [hkept]
    have hle : p + m.log2 - 52 ≤ lastOf m p := by unfold lastOf; omega
    calc m * 2 ^ (p - lastOf m p).toNat < 2 ^ (m.log2 + 1) * 2 ^ (p - lastOf m p).toNat := Nat.mul_lt_mul_of_pos_right l2 (Nat.two_pow_pos _)
      _ = 2 ^ (m.log2 + 1 + (p - lastOf m p).toNat) := by rw [← Nat.pow_add]
      _ ≤ 2 ^ 53 := Nat.pow_le_pow_right (by omega) (by omega)
      _ = 2 * B := by decide
  rw [← hk]
  have hk2 : k ≤ 1993 := by
    have : lastOf m p ≤ 919 := by unfold lastOf; omega
    omega
  have hsmall : k * B + kept m p (lastOf m p) < INF := by unfold B INF at *; omega
  rw [Nat.min_eq_left (by omega)]
  refine ⟨?_, hsmall⟩
  have hval : m * 2 ^ (p + 1074).toNat = kept m p (lastOf m p) * 2 ^ k := by
    rw [hkept, Nat.mul_assoc, ← Nat.pow_add]
    congr 2; omega
  rw [hval]
  by_cases hb : k = 0
  · rw [hb, Nat.zero_mul, Nat.zero_add, Nat.pow_zero, Nat.mul_one]
    unfold V mag ex
    by_cases h : kept m p (lastOf m p) < B
    · rw [if_pos h, if_pos h, Nat.pow_zero, Nat.mul_one]
    · rw [if_neg h, if_neg h]
      have e1 : kept m p (lastOf m p) / B = 1 := by unfold B at *; omega
      have e2 : B + kept m p (lastOf m p) % B = kept m p (lastOf m p) := by unfold B at *; omega
      rw [e1, e2]; simp
  · have hlast2 : lastOf m p = p + m.log2 - 52 := by unfold lastOf at hk ⊢; omega
    have hge2 : B ≤ kept m p (lastOf m p) := by
      rw [hkept]
      calc B = 2 ^ 52 := by decide
        _ = 2 ^ (m.log2 + (p - lastOf m p).toNat) := by congr 1; omega
        _ = 2 ^ m.log2 * 2 ^ (p - lastOf m p).toNat := by rw [← Nat.pow_add]
        _ ≤ m * 2 ^ (p - lastOf m p).toNat := Nat.mul_le_mul_right _ l1
    generalize kept m p (lastOf m p) = K at *
    unfold V mag ex
    rw [if_neg (by unfold B at *; omega), if_neg (by unfold B at *; omega)]
    have e1 : (k * B + K) / B - 1 = k := by unfold B at *; omega
    have e2 : B + (k * B + K) % B = K := by unfold B at *; omega
    rw [e1, e2]

/-- The double of a whole number. -/
def F (n : Nat) : Nat := D.nearest false n 0
theorem F_lt {n : Nat} (h : n < 2 * B) : F n < INF := by
  unfold F
  by_cases h0 : n = 0
  · subst h0; rw [nearest_zero]; decide
  · have hl : n.log2 < 53 := (Nat.log2_lt h0).2 (by unfold B at h; exact h)
    exact (V_nearest_exact h0 h (by omega) (by omega)).2
theorem V_F {n : Nat} (h : n < 2 * B) : V (F n) = n * 2 ^ 1074 := by
  unfold F
  by_cases h0 : n = 0
  · subst h0; generalize (2 : Nat) ^ 1074 = g; rw [nearest_zero, V_zero, Nat.zero_mul]
  · have hl : n.log2 < 53 := (Nat.log2_lt h0).2 (by unfold B at h; exact h)
    have := (V_nearest_exact h0 h (p := 0) (by omega) (by omega)).1
    rw [show ((0 : Int) + 1074).toNat = 1074 from rfl] at this
    exact this
theorem addR_F {n m : Nat} (hn : n < 2 * B) (hm : m < 2 * B) : addR (F n) (F m) = F (n + m) := by
  have h1 := F_lt hn
  have h2 := F_lt hm
  unfold addR
  rw [if_neg (by omega), V_F hn, V_F hm, ← Nat.add_mul]
  unfold F
  refine nearest_congr (c := 1074) (by omega) (by omega) ?_
  have e1 : ((-1074 : Int) + 1074).toNat = 0 := by omega
  have e2 : ((0 : Int) + 1074).toNat = 1074 := by omega
  rw [e1, e2, Nat.pow_zero, Nat.mul_one]
theorem F_zero : F 0 = 0 := nearest_zero 0
theorem F_mono {n m : Nat} (h : n ≤ m) : F n ≤ F m := by
  unfold F
  exact nearest_mono (c := 0) (by omega) (by omega) (Nat.mul_le_mul_right _ h)

/-! ### All bit patterns: which are numbers from 0 on -/
def okB (x m : Nat) : Bool := decide (x ≤ m ∨ x = SGN)
def clr (x : Nat) : Nat := if x = SGN then 0 else x
abbrev W64 : Nat := 18446744073709551616

theorem read_sgn : D.read SGN = .number true 0 (-1074) := by decide
theorem read_zero : D.read 0 = .number false 0 (-1074) := by decide
theorem clr_le {x m : Nat} (h : okB x m = true) : clr x ≤ m := by
  unfold okB at h; unfold clr
  have := of_decide_eq_true h
  split <;> omega

theorem order_sgn_right {s : Nat} (h : s ≤ INF) : D.order s SGN = some (compare s 0) := by
  unfold Format.order
  by_cases e : s = INF
  · subst e; rw [read_inf, read_sgn]; rfl
  · have h2 := order_fin (r := s) (s := 0) h (by decide)
    unfold Format.order at h2
    rw [read_zero] at h2
    rw [← h2, read_sgn, read_fin (r := s) (by omega)]
    simp only [Datum.order, signed, Nat.zero_shiftLeft]
    simp
theorem order_sgn_left {s : Nat} (h : s ≤ INF) : D.order SGN s = some (compare 0 s) := by
  unfold Format.order
  by_cases e : s = INF
  · subst e; rw [read_inf, read_sgn]; rfl
  · have h2 := order_fin (r := 0) (s := s) (by decide) h
    unfold Format.order at h2
    rw [read_zero] at h2
    rw [← h2, read_sgn, read_fin (r := s) (by omega)]
    simp only [Datum.order, signed, Nat.zero_shiftLeft]
    simp
theorem order_sgn_sgn : D.order SGN SGN = some .eq := by decide

theorem order_clr_right {a s : Nat} (ha : okB a INF = true) (hs : s ≤ INF) : D.order s a = some (compare s (clr a)) := by
  have h := of_decide_eq_true ha
  unfold clr
  by_cases e : a = SGN
  · rw [if_pos e, e]; exact order_sgn_right hs
  · rw [if_neg e]; exact order_fin hs (by omega)
theorem order_clr_left {a s : Nat} (ha : okB a INF = true) (hs : s ≤ INF) : D.order a s = some (compare (clr a) s) := by
  have h := of_decide_eq_true ha
  unfold clr
  by_cases e : a = SGN
  · rw [if_pos e, e]; exact order_sgn_left hs
  · rw [if_neg e]; exact order_fin (by omega) hs

/-- What stands above the last rung is no number. -/
theorem read_nan {x : Nat} (h : INF < x % SGN) : (D.read x).isNaN = true := by
  unfold Format.read
  simp only [D_sgn, D_binade, D_inf]
  have hB : B ≤ INF := by decide
  rw [if_neg (by omega), if_neg (by omega), if_neg (by omega)]; rfl
theorem read_high {r : Nat} (h : r < SGN) : D.read (SGN + r) = (D.read r).opposite := by
  unfold Format.read
  simp only [D_sgn, D_binade, D_inf, D_lp]
  have h1 : (SGN + r) / SGN % 2 = 1 := by unfold SGN at *; omega
  have h2 : (SGN + r) % SGN = r := by unfold SGN at *; omega
  have h3 : r / SGN % 2 = 0 := by unfold SGN at *; omega
  have h4 : r % SGN = r := by unfold SGN at *; omega
  rw [h1, h2, h3, h4]
  by_cases a : r < B
  · rw [if_pos a, if_pos a]; rfl
  · rw [if_neg a, if_neg a]
    by_cases b : r < INF
    · rw [if_pos b, if_pos b]; rfl
    · rw [if_neg b, if_neg b]
      by_cases c : r = INF
      · rw [if_pos c, if_pos c]; rfl
      · rw [if_neg c, if_neg c]; rfl

theorem order_nan_left {x y : Nat} (h : (D.read x).isNaN = true) : D.order x y = none := by
  unfold Format.order
  cases e : D.read x with
  | nan s f => cases D.read y <;> rfl
  | _ => rw [e] at h; cases h
theorem order_nan_right {x y : Nat} (h : (D.read y).isNaN = true) : D.order x y = none := by
  unfold Format.order
  cases e : D.read y with
  | nan s f => cases D.read x <;> rfl
  | _ => rw [e] at h; cases h

theorem mag_pos {r : Nat} (h : 0 < r) : 0 < mag r := by
  unfold mag; split
  · exact h
  · have : 0 < B := by decide
    omega
theorem signed_neg_lt {m k : Nat} (h : 0 < m) : signed true m k < signed false 0 0 := by
  unfold signed
  have : 0 < m <<< k := by rw [Nat.shiftLeft_eq]; exact Nat.mul_pos h (Nat.two_pow_pos _)
  rw [if_pos rfl, if_neg Bool.false_ne_true]
  generalize m <<< k = a at *
  have : (0 <<< 0 : Nat) = 0 := rfl
  rw [this]
  omega

theorem order_neg_zero {r : Nat} (h0 : 0 < r) (h : r ≤ INF) : D.order (SGN + r) 0 = some .lt := by
  unfold Format.order
  have hs : r < SGN := Nat.lt_of_le_of_lt h (by decide)
  rw [read_high hs, read_zero]
  by_cases e : r = INF
  · subst e; rw [read_inf]; rfl
  · rw [read_fin (r := r) (by omega)]
    simp only [Datum.opposite, Datum.order, Bool.not_false]
    rw [cmp_int, if_pos]
    have := signed_neg_lt (m := mag r) (k := (-1074 + (ex r : Int) - min (-1074 + (ex r : Int)) (-1074)).toNat) (mag_pos h0)
    simpa [signed] using this

/-- 'x >= 0' as the model says it. -/
theorem ge_zero {x : Nat} (hx : x < W64) : (D.order x 0 == some .gt || D.order x 0 == some .eq) = okB x INF := by
  by_cases h : okB x INF = true
  · rw [h, order_clr_left h (by decide), cmp_nat, if_neg (by omega)]
    split <;> rfl
  · have hn : ¬ (x ≤ INF ∨ x = SGN) := fun e => h (decide_eq_true e)
    have hf : okB x INF = false := by simpa using h
    rw [hf]
    by_cases hnan : INF < x % SGN
    · rw [order_nan_left (read_nan hnan)]; rfl
    · have e : x = SGN + (x - SGN) := by unfold SGN INF W64 at *; omega
      rw [e, order_neg_zero (by omega) (by unfold SGN INF W64 at *; omega)]; rfl
/-- 'x <= m' of a number from 0 on. -/
theorem le_most {x m : Nat} (h : okB x INF = true) (hm : m ≤ INF) : (D.order x m == some .lt || D.order x m == some .eq) = okB x m := by
  rw [order_clr_left h hm, cmp_nat]
  have hc := of_decide_eq_true h
  unfold okB clr
  by_cases e : x = SGN
  · rw [if_pos e, decide_eq_true (p := x ≤ m ∨ x = SGN) (Or.inr e)]
    by_cases a : 0 < m
    · rw [if_pos a]; rfl
    · rw [if_neg a, if_pos (by omega)]; rfl
  · rw [if_neg e]
    by_cases a : x < m
    · rw [if_pos a, decide_eq_true (p := x ≤ m ∨ x = SGN) (Or.inl (by omega))]; rfl
    · by_cases b : x = m
      · rw [if_neg a, if_pos b, decide_eq_true (p := x ≤ m ∨ x = SGN) (Or.inl (by omega))]; rfl
      · rw [if_neg a, if_neg b, decide_eq_false (p := x ≤ m ∨ x = SGN) (by omega)]; rfl
/-- 'x == 0' of a number from 0 on. -/
theorem eq_zero {x : Nat} (h : okB x INF = true) : (D.order x 0 == some .eq) = (decide (clr x = 0)) := by
  rw [order_clr_left h (by decide), cmp_nat, if_neg (by omega)]
  by_cases e : clr x = 0
  · rw [if_pos e, decide_eq_true e]; rfl
  · rw [if_neg e, decide_eq_false e]; rfl
theorem okB_mono {x m n : Nat} (h : okB x m = true) (hmn : m ≤ n) : okB x n = true := by
  have := of_decide_eq_true h
  exact decide_eq_true (by omega)
theorem and_abs {x : Nat} (h : okB x INF = true) : x &&& 9223372036854775807 = clr x := by
  have hc := of_decide_eq_true h
  have : x &&& 9223372036854775807 = x % 2 ^ 63 := Nat.and_two_pow_sub_one_eq_mod x 63
  rw [this]
  unfold clr
  by_cases e : x = SGN
  · rw [if_pos e, e]; decide
  · rw [if_neg e]; exact Nat.mod_eq_of_lt (by unfold SGN INF at *; omega)
/-- Which NaN it is, is not told: all are one. -/
abbrev NAN : Nat := 9221120237041090560
def bitsF (x : Nat) : Nat := if D.order x x == some .eq then x else NAN

end Go.FT
