/- The walk of the law NatWords. Conditions: the table of powers is laid. -/
import Derived.Test.YtdpheomokeikbaaDoorWk
import Derived.Laws.MathBits
namespace Go.Proofs.YtdpheomokeikbaaDoor
open Go.RowKit Go.NT Go.Lib

theorem below_hB {a W w' : World} (h : Below a.heap.size a W) (hb : Below W.heap.size W w') : Below a.heap.size a w' := below_step h hb h.size

set_option maxRecDepth 100000 in
set_option maxHeartbeats 4000000 in
theorem natWords_law (w : World) (ht : Tab w) (a b : Int) (ha0 : 0 ≤ a) (ha1 : a < 18446744073709551616) (hb0 : 0 ≤ b) (hb1 : b < 18446744073709551616) :
    Calls Tryd.prog 5 #[.int .u64 a, .int .u64 b] w fun e w' => e = .returned (.bool true) ∧ Below w.heap.size w w' := by
  obtain ⟨x, hx⟩ : ∃ x, x = a / 2 := ⟨_, rfl⟩
  obtain ⟨y, hy⟩ : ∃ y, y = b / 2 := ⟨_, rfl⟩
  have hx0 : 0 ≤ x := by omega
  have hx1 : x < 9223372036854775808 := by omega
  have hy0 : 0 ≤ y := by omega
  have hy1 : y < 9223372036854775808 := by omega
  have hax := hx.symm
  have hby := hy.symm
  clear hx hy
  obtain ⟨p, hp⟩ : ∃ p, p = x % 4294967296 := ⟨_, rfl⟩
  obtain ⟨q, hq⟩ : ∃ q, q = y % 4294967296 := ⟨_, rfl⟩
  have hp0 : 0 ≤ p := by omega
  have hp1 : p < 4294967296 := by omega
  have hq0 : 0 ≤ q := by omega
  have hq1 : q < 4294967296 := by omega
  have hpx : bits .and .u64 x 4294967295 = p := by rw [and_low32 x hx0 (by omega), hp]
  have hqy : bits .and .u64 y 4294967295 = q := by rw [and_low32 y hy0 (by omega), hq]
  clear hp hq
  have hm0 : 0 ≤ p * q := Int.mul_nonneg hp0 hq0
  have hm1 : p * q ≤ 18446744065119617025 := Int.mul_le_mul (c := 4294967295) (d := 4294967295) (by omega) (by omega) hq0 (by omega)
  have hB := Below.refl w.heap.size w
  have hsum : Hid (addM (mean false (ofD x)) (mean false (ofD y)) = mean false (ofD (x + y))) := Lib.hid (by rw [mean_ofD, mean_ofD, mean_ofD]; rfl)
  have hprod : Hid (mulM (mean false (ofD p)) (mean false (ofD q)) = mean false (ofD (p * q))) := Lib.hid (by rw [mean_ofD, mean_ofD, mean_ofD]; rfl)
  obtain ⟨R, hR⟩ : ∃ R, R = cmpM (mean false (ofD x)) (mean false (ofD y)) := ⟨_, rfl⟩
  have hRR := Lib.hid hR
  have hRc : (R < 0 ∧ x < y) ∨ (¬ R < 0 ∧ ¬ x < y) := by
    rw [mean_ofD, mean_ofD] at hR
    rw [show cmpM (some x) (some y) = cmpI x y from rfl] at hR
    subst hR
    unfold cmpI
    by_cases h : x < y
    · left; rw [if_pos h]; exact ⟨by decide, h⟩
    · right; rw [if_neg h]; refine ⟨?_, h⟩; split <;> decide
  clear hR
  have goal : Calls Tryd.prog 5 #[.int .u64 a, .int .u64 b] w fun e w' => e = .returned (.bool true) ∧ Below w.heap.size w w' := by
    rcases hRc with ⟨hc1, hc2⟩ | ⟨hc1, hc2⟩
    all_goals
      go_enter Tryd.func5, Tryd.ntmps5
      go_wp2_with (first
        | (go_at_call 15; (with_reducible refine (of_any x _ hx0 (by omega)).mono ?_); rintro e w1 ⟨A1, n1, c1, rfl, hv1, hb1⟩; have hB := below_hB hB hb1; have hn1 : n1 ≤ 2 := (by rw [← hv1.len]; exact ofD_len _))
        | (go_at_call 15; (with_reducible refine (of_any y _ hy0 (by omega)).mono ?_); rintro e w2 ⟨A2, n2, c2, rfl, hv2, hb2⟩; have hB := below_hB hB hb2; have hv1 := hv1.below hb2; have hn2 : n2 ≤ 2 := (by rw [← hv2.len]; exact ofD_len _))
        | (go_at_call 13; (with_reducible refine (add_any false false A1 A2 n1 n2 c1 c2 8 (ofD x) (ofD y) _ hv1 hv2 (by omega) (by omega) (by omega)).mono ?_); rintro e w3 ⟨b3, A3, n3, c3, r3, rfl, hv3, hm3, hr3, hi3, hN3, hb3⟩; have hB := below_hB hB hb3)
        | (go_at_call 15; (with_reducible refine (of_any (x + y) _ (by omega) (by omega)).mono ?_); rintro e w4 ⟨A4, n4, c4, rfl, hv4, hb4⟩; have hB := below_hB hB hb4; have hv3 := hv3.below hb4; have hmm3 := Lib.hid (hm3.out.trans hsum.out))
        | (go_at_call 16; (with_reducible refine (same_any b3 false A3 A4 n3 n4 c3 c4 r3 (ofD (x + y)) _ hv3 hv4).mono ?_); rw [decide_eq_true hmm3.out]; rintro e w5 ⟨rfl, hb5⟩; have hB := below_hB hB hb5)
        | (go_at_call 15; (with_reducible refine (of_any p _ hp0 (by omega)).mono ?_); rintro e w6 ⟨A6, n6, c6, rfl, hv6, hb6⟩; have hB := below_hB hB hb6; have hn6 : n6 ≤ 2 := (by rw [← hv6.len]; exact ofD_len _))
        | (go_at_call 15; (with_reducible refine (of_any q _ hq0 (by omega)).mono ?_); rintro e w7 ⟨A7, n7, c7, rfl, hv7, hb7⟩; have hB := below_hB hB hb7; have hv6 := hv6.below hb7; have hn7 : n7 ≤ 2 := (by rw [← hv7.len]; exact ofD_len _))
        | (go_at_call 14; (with_reducible refine (mul_any false false A6 A7 n6 n7 c6 c7 8 (ofD p) (ofD q) _ hv6 hv7 (by omega) (by omega) (by omega)).mono ?_); rintro e w8 ⟨b8, A8, n8, c8, r8, rfl, hv8, hm8, hr8, hi8, hN8, hb8⟩; have hB := below_hB hB hb8)
        | (go_at_call 15; (with_reducible refine (of_any (p * q) _ hm0 (by omega)).mono ?_); rintro e w9 ⟨A9, n9, c9, rfl, hv9, hb9⟩; have hB := below_hB hB hb9; have hv8 := hv8.below hb9; have hmm8 := Lib.hid (hm8.out.trans hprod.out))
        | (go_at_call 16; (with_reducible refine (same_any b8 false A8 A9 n8 n9 c8 c9 r8 (ofD (p * q)) _ hv8 hv9).mono ?_); rw [decide_eq_true hmm8.out]; rintro e w10 ⟨rfl, hb10⟩; have hB := below_hB hB hb10)
        | (go_at_call 12; (with_reducible refine (compare_any false false A1 A2 n1 n2 c1 c2 (ofD x) (ofD y) _ hv1 hv2).mono ?_); rw [← hRR.out]; rintro e w11 ⟨rfl, hb11⟩; have hB := below_hB hB hb11)
        | (go_at_call 11; (with_reducible refine (awake_any _ (ht.below hB)).mono ?_); rintro e w12 ⟨rfl, hb12⟩; have hB := below_hB hB hb12))
      go_ret
      exact ⟨rfl, hB⟩
  exact goal
end Go.Proofs.YtdpheomokeikbaaDoor
