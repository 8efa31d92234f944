/- The texts of doubles: the document's. No condition. -/
import Derived.Test.YtplhlpdcdemopaaDoorFi
namespace Go.Proofs.YtplhlpdcdemopaaDoor
open Go.RowKit Go.FT Go.FX Go.Lib

theorem rtext_nan (x : Nat) (hx : x < W64) (h : isN x = true) (w : World) :
    Calls Tryd.prog 31 #[.float .f64 x] w fun e w' => e = .returned (strV (T x)) ∧ Below w.heap.size w w' := by
  have hn := ne_self hx
  rw [h] at hn
  have HT := Lib.hid (T_nan h)
  clear h
  go_enter Tryd.func31, Tryd.ntmps31
  go_wp2_with (go_at_call 28; refine (rbits_any _ _ hx).mono ?_; rintro e w' ⟨rfl, rfl⟩)
  go_ret
  exact ⟨by rw [HT.out]; rfl, Below.refl _ _⟩
theorem T_fin {x : Nat} (h : isN x = false) : T x = (if ng x then [45] else []) ++ body (x % SGN) := by unfold T; rw [h, if_neg Bool.false_ne_true]
set_option maxRecDepth 100000 in
set_option maxHeartbeats 1000000 in
theorem rtext_inf (x : Nat) (hx : x < W64) (h : isN x = false) (hi : x % SGN = INF) (w : World) :
    Calls Tryd.prog 31 #[.float .f64 x] w fun e w' => e = .returned (strV (T x)) ∧ Below w.heap.size w w' := by
  have hn := ne_self hx
  rw [h] at hn
  have HC := Lib.hid (can_no h)
  have ht := sgn_test hx
  have hE : bits .and .u64 ((x : Int) / 4503599627370496) 2047 = 2047 := by rw [exp_bits hx, hi]; decide
  have HT : Hid (T x = (if ng x then [45] else []) ++ [105, 110, 102]) := Lib.hid (by rw [T_fin h, hi]; rfl)
  clear hi h
  cases g : ng x
  all_goals
    rw [g] at ht
    go_enter Tryd.func31, Tryd.ntmps31
    go_wp2_with (go_at_call 28; refine (rbits_any _ _ hx).mono ?_; rw [HC.out]; rintro e w' ⟨rfl, rfl⟩)
    go_ret
    exact ⟨by rw [HT.out, g]; rfl, Below.refl _ _⟩
set_option maxRecDepth 100000 in
set_option maxHeartbeats 1000000 in
theorem rtext_zero (x : Nat) (hx : x < W64) (h : isN x = false) (hz : x % SGN = 0) (w : World) :
    Calls Tryd.prog 31 #[.float .f64 x] w fun e w' => e = .returned (strV (T x)) ∧ Below w.heap.size w w' := by
  have hn := ne_self hx
  rw [h] at hn
  have HC := Lib.hid (can_no h)
  have ht := sgn_test hx
  have hE : bits .and .u64 ((x : Int) / 4503599627370496) 2047 = 0 := by rw [exp_bits hx, hz]; decide
  have hF : bits .and .u64 (x : Int) 4503599627370495 = 0 := by rw [frac_bits hx, hz]; decide
  have HT : Hid (T x = (if ng x then [45] else []) ++ [48, 98, 48]) := Lib.hid (by
    rw [T_fin h, hz]; congr 1; unfold body
    rw [if_neg (by decide), oe_zero]
    exact zero_txt)
  clear h hz
  cases g : ng x
  all_goals
    rw [g] at ht
    go_enter Tryd.func31, Tryd.ntmps31
    go_wp2_with (go_at_call 28; refine (rbits_any _ _ hx).mono ?_; rw [HC.out]; rintro e w' ⟨rfl, rfl⟩)
    go_ret
    exact ⟨by rw [HT.out, g]; rfl, Below.refl _ _⟩
/-- How far the document's halving is. -/
def HalfI (M : Nat) (z0 : Int) (k : Nat) (z : Int) : Prop := od k = od M ∧ z + FX.tz k = z0 + FX.tz M
theorem HalfI.step {M k : Nat} {z0 z : Int} (h : HalfI M z0 k z) (h0 : 0 < k) (hk : k < 2 * B) (he : k % 2 = 0) : HalfI M z0 (k / 2) (z + 1) := by
  obtain ⟨a, b⟩ := tz_half h0 (by unfold B at hk; omega) he
  unfold HalfI at *
  rw [← b, ← h.1]
  exact ⟨rfl, by omega⟩
theorem HalfI.done {M k : Nat} {z0 z : Int} (h : HalfI M z0 k z) (hk : k < 2 * B) (he : k % 2 = 1) : k = od M ∧ z = z0 + FX.tz M := by
  obtain ⟨a, b⟩ := tz_odd (m := k) (by unfold B at hk; omega) he
  unfold HalfI at h
  rw [b, a] at h
  exact ⟨h.1, by omega⟩
theorem dec_i {z : Int} (n : Int) (hz : z = n) (h0 : -9223372036854775808 ≤ n) (h1 : n ≤ 9223372036854775807) (w : World) :
    Calls Tryd.prog 61 #[.int .i64 z] w fun e w' => SR w w' e (itoa n) 21 := by
  subst hz; exact decimal_any z h0 h1 w
set_option maxRecDepth 100000 in
set_option maxHeartbeats 2000000 in
theorem rtext_lo (x : Nat) (hx : x < W64) (h : isN x = false) (hz : ¬ x % SGN = 0) (hb0 : x % SGN < B) (w : World) :
    Calls Tryd.prog 31 #[.float .f64 x] w fun e w' => e = .returned (strV (T x)) ∧ Below w.heap.size w w' := by
  have hn := ne_self hx
  rw [h] at hn
  have HC := Lib.hid (can_no h)
  have ht := sgn_test hx
  have HT := Lib.hid (T_fin h)
  have hE := exp_bits hx
  have hF := frac_bits hx
  generalize x % SGN = r at *
  clear h
  have hr : r < INF := Nat.lt_trans hb0 (by decide)
  rw [Nat.div_eq_of_lt hb0] at hE
  rw [Nat.mod_eq_of_lt hb0] at hF
  obtain ⟨_, _, p3, p4⟩ := parts_lo hb0
  have hE' : bits .and .u64 ((x : Int) / 4503599627370496) 2047 = 0 := hE
  have hrm : r = mag r := by omega
  clear hE
  have hex := ex_le hr
  have hm := mag_lt r
  have hm0 := mag_pos (r := r) (by omega)
  have hm53 : mag r < 9007199254740992 := by unfold B at hm; omega
  have HB := Lib.hid (body_fin hz hr)
  have hne : ((mag r : Int) == 0) = false := by
    rw [beq_eq_false_iff_ne]; omega
  have hEX : Hid (ex r = 0) := Lib.hid p4
  rw [hrm] at hF
  clear p3 p4 hrm hb0 hz hr hm
  generalize hM : mag r = M at *
  clear hM
  have htz : Hid (FX.tz M < 64) := Lib.hid (tz_spec hm0 (by omega)).2.2
  cases g : ng x
  all_goals
    rw [g] at ht
    go_enter Tryd.func31, Tryd.ntmps31
    go_wp2_with (go_at_call 28; refine (rbits_any _ _ hx).mono ?_; rw [HC.out]; rintro e w' ⟨rfl, rfl⟩)
    go_loopw [5, 6] (fun e m wr => ∃ (k : Nat) (z : Int), wr = w ∧ m = .int .u64 k ∧ e = .int .i64 z ∧ 0 < k ∧ k < 9007199254740992 ∧ -1074 ≤ z ∧ Hid (HalfI M (-1074) k z)) (fun _ m _ => (RowKit.intOf m).toNat)
    case atStart => exact ⟨M, _, rfl, rfl, rfl, hm0, hm53, by omega, Lib.hid ⟨rfl, by omega⟩⟩
    case round =>
      obtain ⟨k, z, rfl, rfl, rfl, hk0, hk1, hz1, hI⟩ := hrel
      have hk2 : Hid (k < 2 * B) := Lib.hid (by unfold B; omega)
      have hz9 : z ≤ 1035 := by
        have h1 := hI.out.2
        have h2 := htz.out
        omega
      by_cases he : k % 2 = 0
      · have hs := Lib.hid (hI.out.step hk0 hk2.out he)
        have he' : ((k : Int) % 2 == 0) = true := by rw [beq_iff_eq]; omega
        have hkk : 0 < k / 2 := by omega
        clear he
        go_wp2
        go_roundw
        case rel => exact ⟨k / 2, z + 1, trivial, congrArg (Value.int .u64) (by omega), rfl, hkk, by omega, by omega, hs⟩
        case measure => simp [RowKit.intOf]; omega
      · have hd := Lib.hid (hI.out.done hk2.out (by omega))
        have he' : ((k : Int) % 2 == 0) = false := by rw [beq_eq_false_iff_ne]; omega
        clear he
        go_wp2_with (first | (go_at_call 61; (with_reducible refine (decimal_any (k : Int) (by omega) (by omega) _).mono ?_); rintro e w1 ⟨S1, rfl, HS1, hs1, hb1⟩) | (go_at_call 61; (with_reducible refine (decimal_any z (by omega) (by omega) _).mono ?_); rintro e w2 ⟨S2, rfl, HS2, hs2, hb2⟩))
        go_ret
        have e1 : itoa (k : Int) = decDigits (od M) := by rw [hd.out.1, dec_itoa]
        have e2 : itoa z = itoa ((ex r : Int) + FX.tz M - 1074) := by congr 1; have := hd.out.2; have := hEX.out; omega
        exact ⟨by rw [HT.out, HB.out, g]; exact congrArg Ending.returned (strV_of (by simp [HS1.out, HS2.out, e1, e2])), hb1.trans (hb2.mono hb1.size)⟩
set_option maxRecDepth 100000 in
set_option maxHeartbeats 2000000 in
theorem rtext_hi (x : Nat) (hx : x < W64) (h : isN x = false) (hi : x % SGN < INF) (hb0 : ¬ x % SGN < B) (w : World) :
    Calls Tryd.prog 31 #[.float .f64 x] w fun e w' => e = .returned (strV (T x)) ∧ Below w.heap.size w w' := by
  have hn := ne_self hx
  rw [h] at hn
  have HC := Lib.hid (can_no h)
  have ht := sgn_test hx
  have HT := Lib.hid (T_fin h)
  have hE := exp_bits hx
  have hF := frac_bits hx
  generalize x % SGN = r at *
  clear h
  have hr := hi
  have hz : ¬ r = 0 := by intro e; subst e; exact hb0 (by decide)
  obtain ⟨p1, p2, p3⟩ := parts_hi hr hb0
  have hE' : bits .and .u64 ((x : Int) / 4503599627370496) 2047 = ((ex r + 1 : Nat) : Int) := by rw [hE, ← p1]; unfold B; omega
  have hO := or_B (f := r % B) (Nat.mod_lt _ (by decide))
  have hme : B + r % B = mag r := by unfold B at *; omega
  rw [hme] at hO
  clear hE p1 p2 p3 hme
  generalize r % B = f at *
  have hex := ex_le hr
  have hm := mag_lt r
  have hm0 := mag_pos (r := r) (by omega)
  have hm53 : mag r < 9007199254740992 := by unfold B at hm; omega
  have HB := Lib.hid (body_fin hz hr)
  have hne : ((mag r : Int) == 0) = false := by
    rw [beq_eq_false_iff_ne]; omega
  clear hb0 hz hr hi hm
  generalize hM : mag r = M at *
  clear hM
  have htz : Hid (FX.tz M < 64) := Lib.hid (tz_spec hm0 (by omega)).2.2
  cases g : ng x
  all_goals
    rw [g] at ht
    go_enter Tryd.func31, Tryd.ntmps31
    go_wp2_with (go_at_call 28; refine (rbits_any _ _ hx).mono ?_; rw [HC.out]; rintro e w' ⟨rfl, rfl⟩)
    go_loopw [5, 6] (fun e m wr => ∃ (k : Nat) (z : Int), wr = w ∧ m = .int .u64 k ∧ e = .int .i64 z ∧ 0 < k ∧ k < 9007199254740992 ∧ -1074 ≤ z ∧ Hid (HalfI M ((ex r : Int) - 1074) k z)) (fun _ m _ => (RowKit.intOf m).toNat)
    case atStart => exact ⟨M, _, rfl, rfl, rfl, hm0, hm53, by omega, Lib.hid ⟨rfl, by omega⟩⟩
    case round =>
      obtain ⟨k, z, rfl, rfl, rfl, hk0, hk1, hz1, hI⟩ := hrel
      have hk2 : Hid (k < 2 * B) := Lib.hid (by unfold B; omega)
      have hz9 : z ≤ 1035 := by
        have h1 := hI.out.2
        have h2 := htz.out
        omega
      by_cases he : k % 2 = 0
      · have hs := Lib.hid (hI.out.step hk0 hk2.out he)
        have he' : ((k : Int) % 2 == 0) = true := by rw [beq_iff_eq]; omega
        have hkk : 0 < k / 2 := by omega
        clear he
        go_wp2
        go_roundw
        case rel => exact ⟨k / 2, z + 1, trivial, congrArg (Value.int .u64) (by omega), rfl, hkk, by omega, by omega, hs⟩
        case measure => simp [RowKit.intOf]; omega
      · have hd := Lib.hid (hI.out.done hk2.out (by omega))
        have he' : ((k : Int) % 2 == 0) = false := by rw [beq_eq_false_iff_ne]; omega
        clear he
        go_wp2_with (first | (go_at_call 61; (with_reducible refine (decimal_any (k : Int) (by omega) (by omega) _).mono ?_); rintro e w1 ⟨S1, rfl, HS1, hs1, hb1⟩) | (go_at_call 61; (with_reducible refine (decimal_any z (by omega) (by omega) _).mono ?_); rintro e w2 ⟨S2, rfl, HS2, hs2, hb2⟩))
        go_ret
        have e1 : itoa (k : Int) = decDigits (od M) := by rw [hd.out.1, dec_itoa]
        have e2 : itoa z = itoa ((ex r : Int) + FX.tz M - 1074) := by congr 1; have := hd.out.2;  omega
        exact ⟨by rw [HT.out, HB.out, g]; exact congrArg Ending.returned (strV_of (by simp [HS1.out, HS2.out, e1, e2])), hb1.trans (hb2.mono hb1.size)⟩
theorem rtext_any (x : Nat) (hx : x < W64) (w : World) :
    Calls Tryd.prog 31 #[.float .f64 x] w fun e w' => e = .returned (strV (T x)) ∧ Below w.heap.size w w' := by
  cases h : isN x
  · have hm := isN_false h
    by_cases hi : x % SGN = INF
    · exact rtext_inf x hx h hi w
    · by_cases hz : x % SGN = 0
      · exact rtext_zero x hx h hz w
      · by_cases hb : x % SGN < B
        · exact rtext_lo x hx h hz hb w
        · exact rtext_hi x hx h (by omega) hb w
  · exact rtext_nan x hx h w
end Go.Proofs.YtplhlpdcdemopaaDoor
