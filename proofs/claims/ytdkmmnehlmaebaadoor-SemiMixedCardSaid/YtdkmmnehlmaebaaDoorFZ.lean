/- Plain facts: a power of two times a whole number, as math.Ldexp makes it. No condition. -/
import Derived.Test.YtdkmmnehlmaebaaDoorFY
namespace Go.FX
open Go.FT Go.Lib Ieee

/-- A power of two, not reckoned out. -/
theorem P_ex (k : Nat) : ∃ n : Nat, n = 2 ^ k := ⟨_, rfl⟩
noncomputable def P (k : Nat) : Nat := (P_ex k).choose
theorem P_is (k : Nat) : P k = 2 ^ k := (P_ex k).choose_spec
theorem pp (j : Nat) : 0 < P j := by rw [P_is]; exact Nat.two_pow_pos j
theorem P_add (a b : Nat) : P (a + b) = P a * P b := by rw [P_is, P_is, P_is]; exact Nat.pow_add 2 a b
theorem P_zero : P 0 = 1 := by rw [P_is]
theorem P_succ (a : Nat) : P (a + 1) = P a * 2 := by rw [P_is, P_is, Nat.pow_succ]
theorem P_succ' (a : Nat) : P (a + 1) = 2 * P a := by rw [P_succ, Nat.mul_comm]
theorem P_le {a b : Nat} (h : a ≤ b) : P a ≤ P b := by rw [P_is, P_is]; exact Nat.pow_le_pow_right (by decide) h
theorem P_eq (a b c : Nat) (h : a + b = c) : P a * P b = P c := by rw [← P_add, h]
theorem P_B : B = P 52 := by rw [P_is]
theorem P_53 : P 53 = 2 * B := by rw [P_succ, ← P_B, Nat.mul_comm]
theorem VP_rung (t f : Nat) (hf : f < B) : V ((t + 1) * B + f) = (B + f) * P t := by rw [P_is]; exact V_rung t f hf
theorem VP_F {n : Nat} (h : n ≤ 2 * B) : F n < INF ∧ V (F n) = n * P 1074 := by rw [P_is]; exact F_full h
theorem VP_ONE : V ONE = P 1074 := V_ONE.trans (P_is 1074).symm
theorem VP_rung0 (t : Nat) : V ((t + 1) * B) = P 52 * P t := by
  have := VP_rung t 0 (by decide)
  rw [Nat.add_zero, Nat.add_zero] at this
  rw [this, ← P_B]
theorem VP_INF : V INF = P 52 * P 2046 := by
  rw [show INF = (2046 + 1) * B by decide]; exact VP_rung0 2046
theorem VP_pow (r : Nat) (j : Nat) : ∃ s, V s = V r * P j := by rw [P_is]; exact V_pow r j
theorem VP_oe {r : Nat} (h : r < INF) : V r = (oe r).1 * P ((oe r).2 + 1074).toNat ∧ -1074 ≤ (oe r).2 ∧ (oe r).2 ≤ 1034 ∧ (oe r).1 < 2 * B := by rw [P_is]; exact oe_spec h
theorem nearestP {r m : Nat} {p : Int} (h : r < INF) (q : Nat) (hp : 0 ≤ p + 1074 + q) (hv : m * P (p + 1074 + q).toNat = V r * P q) : D.nearest false m p = r := by
  rw [P_is, P_is] at hv; exact nearest_of_V h q hp hv
/-- What a rung is to a whole number and an exponent. -/
def Is (n : Nat) (k : Int) (r : Nat) : Prop := -1074 ≤ k ∧ r < INF ∧ V r = n * P (k + 1074).toNat
theorem F_ge_aux {g n : Nat} (h1 : 1 ≤ n) : g ≤ n * g := Nat.le_mul_of_pos_left g h1
theorem F_lt_aux {g n : Nat} (hg : 0 < g) (h : n < 2 * B) : n * g < B * (g * 2) := by
  rw [Nat.mul_comm g 2, ← Nat.mul_assoc, Nat.mul_comm B 2]
  exact Nat.mul_lt_mul_of_pos_right h hg
theorem F_ge {n : Nat} (h1 : 1 ≤ n) (h2 : n < 2 * B) : ONE ≤ F n ∧ F n < 1076 * B := by
  have hv := (VP_F (Nat.le_of_lt h2)).2
  constructor
  · apply Nat.le_of_not_lt
    intro h
    have h3 := V_lt h
    have h5 := Nat.le_trans (Nat.le_of_eq VP_ONE) (F_ge_aux (g := P 1074) h1)
    rw [← hv] at h5
    omega
  · apply lt_of_V
    have h3 := VP_rung 1075 0 (by decide)
    rw [Nat.add_zero, Nat.add_zero] at h3
    have h4 := F_lt_aux (pp 1074) h2
    rw [← P_succ, ← hv] at h4
    exact Nat.lt_of_lt_of_eq h4 h3.symm
theorem F_parts {n : Nat} (h1 : 1 ≤ n) (h2 : n < 2 * B) : 1023 ≤ F n / B ∧ F n / B ≤ 1075 ∧ (B + F n % B) * P (F n / B - 1) = n * P 1074 := by
  obtain ⟨a, b⟩ := F_ge h1 h2
  refine ⟨by unfold ONE B at *; omega, by unfold B at *; omega, ?_⟩
  rw [← (VP_F (Nat.le_of_lt h2)).2]
  have hx : ¬ F n < B := by unfold ONE at a; unfold B; omega
  have := VP_rung (F n / B - 1) (F n % B) (Nat.mod_lt _ (by decide))
  rw [← rung_split hx] at this
  exact this.symm
theorem cancel_aux {a b g : Nat} (hg : 0 < g) (h : a * g = b * g) : a = b := Nat.eq_of_mul_eq_mul_right hg h
/-- The value that is sought, in parts. -/
theorem Is.parts {n r : Nat} {k : Int} (h : Is n k r) (h1 : 1 ≤ n) (h2 : n < 2 * B) {j : Nat} (hj : k + 1074 = j) : V r * P 1074 = (B + F n % B) * P (F n / B - 1 + j) := by
  obtain ⟨_, _, hv⟩ := h
  obtain ⟨_, _, hp⟩ := F_parts h1 h2
  rw [hv, show (k + 1074).toNat = j by omega, P_add, ← Nat.mul_assoc, hp, Nat.mul_right_comm]
theorem ld_mid {n r : Nat} {k : Int} (h : Is n k r) (h1 : 1 ≤ n) (h2 : n < 2 * B) (t : Nat) (ht : (t : Int) = k + (F n / B : Nat) - 1) : (t + 1) * B + F n % B = r := by
  apply V_inj
  have hb : 1023 ≤ F n / B := (F_parts h1 h2).1
  obtain ⟨j, hj⟩ : ∃ j : Nat, k + 1074 = j := ⟨(k + 1074).toNat, by have := h.1; omega⟩
  have hp := h.parts h1 h2 hj
  rw [VP_rung t _ (Nat.mod_lt _ (by decide))]
  refine cancel_aux (pp 1074) ?_
  rw [hp, Nat.mul_assoc, ← P_add]
  congr 2; omega
theorem V_970 : V (970 * B) = P 52 * P 969 := VP_rung0 969
theorem low_aux {M v s j q : Nat} (h : v * P 1074 = M * P q) (hs : 52 + 969 + s = q) : P 52 * P 969 * (M * P s) * P j = v * P 1074 * P j := by
  rw [h]
  congr 1
  rw [Nat.mul_left_comm, ← P_add, ← P_add, hs]
theorem ld_low {n r : Nat} {k : Int} (h : Is n k r) (h1 : 1 ≤ n) (h2 : n < 2 * B) (s : Nat) (hs : (s : Int) = k + (F n / B : Nat) - 1 + 53) : mulR (970 * B) ((s + 1) * B + F n % B) = r := by
  have hb : 1023 ≤ F n / B := (F_parts h1 h2).1
  obtain ⟨j, hj⟩ : ∃ j : Nat, k + 1074 = j := ⟨(k + 1074).toNat, by have := h.1; omega⟩
  have hp := h.parts h1 h2 hj
  unfold mulR
  refine nearestP h.2.1 1074 (by omega) ?_
  rw [show ((-2148 : Int) + 1074 + (1074 : Nat)).toNat = 0 from rfl]
  rw [VP_rung s _ (Nat.mod_lt _ (by decide)), V_970]
  have := low_aux (j := 0) (s := s) hp (by omega)
  rw [P_zero, Nat.mul_one, Nat.mul_one] at this
  rw [P_zero, Nat.mul_one]
  exact this
theorem pow_gap {M v q : Nat} (h : v * P 1074 = M * P q) (hv : 1 ≤ v) (hM : M < P 53) : 1021 < q := by
  apply Nat.lt_of_not_le
  intro hq
  have a : P 1074 ≤ v * P 1074 := Nat.le_mul_of_pos_left _ hv
  have b : M * P q ≤ M * P 1021 := Nat.mul_le_mul_left _ (P_le hq)
  have c : M * P 1021 < P 53 * P 1021 := Nat.mul_lt_mul_of_pos_right hM (pp _)
  rw [P_eq 53 1021 1074 rfl] at c
  omega
theorem pos_aux {v n g : Nat} (h : v = n * g) (h1 : 1 ≤ n) (hg : 0 < g) : 1 ≤ v := by subst h; exact Nat.mul_pos h1 hg
theorem ld_under {n r : Nat} {k : Int} (h : Is n k r) (h1 : 1 ≤ n) (h2 : n < 2 * B) : -1075 ≤ k + (F n / B : Nat) - 1023 := by
  obtain ⟨j, hj⟩ : ∃ j : Nat, k + 1074 = j := ⟨(k + 1074).toNat, by have := h.1; omega⟩
  have hp := h.parts h1 h2 hj
  have hM : B + F n % B < P 53 := by
    have : F n % B < B := Nat.mod_lt _ (by decide)
    rw [P_53]; omega
  have := pow_gap hp (pos_aux h.2.2 h1 (pp _)) hM
  have hb := (F_parts h1 h2).1
  omega
theorem top_aux {M v q : Nat} (h : v * P 1074 = M * P q) (hM : P 52 ≤ M) (hq : 3120 ≤ q) : P 52 * P 2046 ≤ v := by
  refine Nat.le_of_mul_le_mul_right (c := P 1074) ?_ (pp _)
  rw [h, Nat.mul_assoc, P_eq 2046 1074 3120 rfl]
  exact Nat.mul_le_mul hM (P_le hq)
theorem ld_over {n r : Nat} {k : Int} (h : Is n k r) (h1 : 1 ≤ n) (h2 : n < 2 * B) : k + (F n / B : Nat) - 1023 ≤ 1023 := by
  obtain ⟨j, hj⟩ : ∃ j : Nat, k + 1074 = j := ⟨(k + 1074).toNat, by have := h.1; omega⟩
  have hp := h.parts h1 h2 hj
  have hb := (F_parts h1 h2).1
  apply Int.not_lt.1
  intro hlt
  have ht := top_aux hp (by rw [← P_B]; exact Nat.le_add_right _ _) (by omega)
  rw [← VP_INF] at ht
  have := V_lt h.2.1
  omega
theorem Is.k_le {n r : Nat} {k : Int} (h : Is n k r) (h1 : 1 ≤ n) (h2 : n < 2 * B) : k ≤ 1023 := by
  have := ld_over h h1 h2
  have := (F_parts h1 h2).1
  omega
theorem Is.zero {r : Nat} {k : Int} (h : Is 0 k r) : r = 0 := by
  apply V_inj
  rw [h.2.2, Nat.zero_mul, V_zero]

/-! the reference's way: doubled, halved -/
/-- So many doublings (d ≥ 0) or halvings (d < 0) are still to come. -/
def To (x : Nat) (d : Int) (r : Nat) : Prop := V r * P (-d).toNat = V x * P d.toNat
theorem Is.to {n r : Nat} {k : Int} (h : Is n k r) (h2 : n ≤ 2 * B) : To (F n) k r := by
  unfold To
  obtain ⟨h0, hr, hv⟩ := h
  rw [hv, (VP_F h2).2, Nat.mul_assoc, Nat.mul_assoc, ← P_add, ← P_add]
  congr 2; omega
theorem To.up {x y r : Nat} {d : Int} (h : To x d r) (hd : 0 < d) (hr : r < INF) (hy : ∀ s, s < INF → V s = 2 * V x → y = s) : To y (d - 1) r := by
  unfold To at *
  have e0 : (-d).toNat = 0 := by omega
  have e1 : (-(d - 1)).toNat = 0 := by omega
  obtain ⟨m, hm⟩ : ∃ m : Nat, d = m + 1 := ⟨(d - 1).toNat, by omega⟩
  have e2 : d.toNat = m + 1 := by omega
  have e3 : (d - 1).toNat = m := by omega
  rw [e0, e2, P_zero, Nat.mul_one] at h
  rw [e1, e3, P_zero, Nat.mul_one]
  have h3 : V r = 2 * V x * P m := by
    rw [h, P_succ]
    generalize P m = g
    ac_rfl
  have h4 : V (dbl x) ≤ V r := by
    rw [V_dbl, h3]; exact Nat.le_mul_of_pos_right _ (pp m)
  have h5 : dbl x < INF := lt_of_V (Nat.lt_of_le_of_lt h4 (V_lt hr))
  rw [hy (dbl x) h5 (V_dbl x), V_dbl]
  exact h3
theorem To.down {x y r : Nat} {d : Int} (h : To x d r) (hd : d < 0) (hx : x < INF) (hy : ∀ s, s < INF → V x = 2 * V s → y = s) : To y (d + 1) r ∧ y < INF := by
  unfold To at *
  have e0 : d.toNat = 0 := by omega
  have e1 : (d + 1).toNat = 0 := by omega
  obtain ⟨m, hm⟩ : ∃ m : Nat, d = -((m : Int) + 1) := ⟨(-d - 1).toNat, by omega⟩
  have e2 : (-d).toNat = m + 1 := by omega
  have e3 : (-(d + 1)).toNat = m := by omega
  rw [e0, e2, P_zero, Nat.mul_one] at h
  rw [e1, e3, P_zero, Nat.mul_one]
  obtain ⟨s, hs⟩ := VP_pow r m
  have h3 : V x = 2 * V s := by
    rw [← h, hs, P_succ]
    generalize P m = g
    ac_rfl
  have h5 : s < INF := by
    by_cases h0 : V s = 0
    · apply lt_of_V
      rw [h0]
      exact Nat.lt_of_lt_of_eq (Nat.mul_pos (pp 52) (pp 2046)) VP_INF.symm
    · exact Nat.lt_trans (lt_of_V (by omega : V s < V x)) hx
  rw [hy s h5 h3]
  exact ⟨hs.symm, h5⟩
theorem To.done {x r : Nat} (h : To x 0 r) : x = r := by
  apply V_inj
  unfold To at h
  rw [show (0 : Int).toNat = 0 from rfl, show (-(0 : Int)).toNat = 0 from rfl, P_zero, Nat.mul_one, Nat.mul_one] at h
  exact h.symm
end Go.FX
