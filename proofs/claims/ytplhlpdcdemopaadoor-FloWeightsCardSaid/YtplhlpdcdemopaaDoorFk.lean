/- The walk of math.Ldexp at whole numbers. No condition. -/
import Derived.Test.YtplhlpdcdemopaaDoorFj
import Derived.Outline
namespace Go.Proofs.YtplhlpdcdemopaaDoor
open Go.RowKit Go.FT Go.FX Go.Lib

theorem normalize_any (x : Nat) (w : World) (h1 : B ≤ x) (h2 : x < INF) : Calls Tryd.prog 110 #[.float .f64 x] w fun e w' => e = .returned (.tuple #[.float .f64 x, .int .i64 0]) ∧ w = w' := by
  have hx : x < W64 := Nat.lt_trans h2 (by decide)
  have ho : (FloatKind.f64.format.order x 4503599627370496 == some .lt) = false := by
    show (D.order x B == some .lt) = false
    rw [order_fin (by omega) (by decide), cmp_nat, if_neg (by omega)]
    split <;> rfl
  have hm : x % SGN = x := Nat.mod_eq_of_lt (Nat.lt_trans h2 (by decide))
  have HM := Lib.hid hm
  clear hm
  go_enter Tryd.func110, Tryd.ntmps110
  go_wp2_with (go_at_call 90; refine (abs_any _ _ hx).mono ?_; rw [HM.out]; rintro e w' ⟨rfl, rfl⟩)
  go_ret2
  exact ⟨rfl, rfl⟩
theorem andNot_exp {x : Nat} (hx : x < SGN) : bits .andNot .u64 (x : Int) 9218868437227405312 = ((x % B : Nat) : Int) := by
  have hw : x < W64 := Nat.lt_trans hx (by decide)
  have h := u64_andNot_nat x 9218868437227405312 hw (by omega)
  have hg : ng x = false := decide_eq_false (by omega)
  have h2 := and_sgn_nat hw
  rw [hg, if_neg Bool.false_ne_true] at h2
  rw [show 18446744073709551615 - 9218868437227405312 = SGN ||| 4503599627370495 by decide, Nat.and_or_distrib_left, h2, Nat.zero_or] at h
  rw [show x &&& 4503599627370495 = x % 2 ^ 52 from Nat.and_two_pow_sub_one_eq_mod _ 52] at h
  exact h
theorem or_exp {f q : Nat} (hf : f < B) (hq : q < 2048) : bits .or .u64 (f : Int) ((q : Int) * 4503599627370496) = ((q * B + f : Nat) : Int) := by
  have h := u64_or_nat f (q * 4503599627370496) (by unfold B at hf; omega) (by omega)
  have h2 := Nat.two_pow_add_eq_or_of_lt (i := 52) (b := f) (by unfold B at hf; exact hf) q
  rw [show (2 : Nat) ^ 52 * q = q * 4503599627370496 by rw [Nat.mul_comm]] at h2
  rw [Nat.or_comm, ← h2] at h
  rw [show ((q : Int) * 4503599627370496) = ((q * 4503599627370496 : Nat) : Int) by omega, h]
theorem exp_i64 {x : Nat} (hx : x < SGN) : bits .and .i64 ((x : Int) / 4503599627370496) 2047 = ((x / B : Nat) : Int) := by
  have h := bits_mask .i64 63 (by decide) (fun n h0 h1 => by rw [IntKind.wrap_i64]; omega) 11 (by decide) ((x : Int) / 4503599627370496) (by omega) (by unfold SGN at hx; omega)
  rw [show (2 : Int) ^ 11 - 1 = 2047 by decide] at h
  rw [h]
  unfold SGN at hx; unfold B; omega
theorem gt0_order {x : Nat} (h0 : 0 < x) (h : x ≤ INF) : (FloatKind.f64.format.order x 0 == some .eq) = false ∧ (FloatKind.f64.format.order x 0 == some .lt) = false := by
  show (D.order x 0 == some .eq) = false ∧ (D.order x 0 == some .lt) = false
  rw [order_fin h (by decide), cmp_nat, if_neg (by omega), if_neg (by omega)]
  exact ⟨rfl, rfl⟩
theorem copy0 (x : Nat) (w : World) (hx : x < SGN) : Calls Tryd.prog 111 #[.float .f64 0, .float .f64 x] w fun e w' => e = .returned (.float .f64 0) ∧ w = w' := by
  have hg : ng x = false := decide_eq_false (by omega)
  have h2 : bits .and .u64 (x : Int) 9223372036854775808 = 0 := by
    have h := w_and (Nat.lt_trans hx (by decide) : x < W64) (show SGN < W64 by decide)
    rw [and_sgn_nat (Nat.lt_trans hx (by decide)), hg] at h
    exact h
  have h3 : bits .andNot .u64 0 9223372036854775808 = 0 := by decide +kernel
  have h4 : bits .or .u64 0 0 = 0 := by decide +kernel
  go_enter Tryd.func111, Tryd.ntmps111
  go_wp2
  go_ret
  exact ⟨rfl, rfl⟩
theorem mul_any {x y : Nat} (h1 : x < INF) (h2 : y < INF) (w : World) : (binOp .mul 23 (.float .f64 x) (.float .f64 y)).run Tryd.prog w = .ok (.float .f64 (mulR x y)) w :=
  run_float_arith w .mul 23 .f64 _ _ _ (mul_fin h1 h2)
set_option maxRecDepth 100000 in
set_option maxHeartbeats 2000000 in
theorem ldexp_pos (n : Nat) (h1 : 1 ≤ n) (h2 : n < 2 * B) (k : Int) (hk0 : -9223372036854775808 ≤ k) (hk1 : k ≤ 9223372036854775807) (w : World) :
    Calls Tryd.prog 89 #[.float .f64 (F n), .int .i64 k] w fun e w' => ∃ y, e = .returned (.float .f64 y) ∧ y ≤ INF ∧ (∀ r, Is n k r → y = r) ∧ w = w' := by
  obtain ⟨g1, g2⟩ := F_ge h1 h2
  have hp := F_parts h1 h2
  have HU := Lib.hid (fun r (h : Is n k r) => ld_under h h1 h2)
  have HO := Lib.hid (fun r (h : Is n k r) => ld_over h h1 h2)
  have HMI := Lib.hid (fun r (h : Is n k r) t ht => ld_mid h h1 h2 t ht)
  have HLO := Lib.hid (fun r (h : Is n k r) s hs => ld_low h h1 h2 s hs)
  have HK := Lib.hid (fun r (h : Is n k r) => h.k_le h1 h2)
  have hI : F n < INF := F_lt h2
  generalize F n = X at *
  have hX : X < SGN := Nat.lt_trans hI (by decide)
  have hXw : X < W64 := Nat.lt_trans hI (by decide)
  have hn0 : isN X = false := by unfold isN; rw [Nat.mod_eq_of_lt hX]; exact decide_eq_false (by omega)
  have hi0 : isI X = false := by unfold isI; rw [Nat.mod_eq_of_lt hX]; exact decide_eq_false (by omega)
  have HN := Lib.hid hn0
  have HII := Lib.hid hi0
  obtain ⟨o1, o2⟩ := gt0_order (x := X) (by unfold ONE at g1; omega) (by omega)
  have hE := exp_i64 hX
  have hBX : B ≤ X := Nat.le_trans (by decide) g1
  have hA := andNot_exp hX
  have he1 : 1023 ≤ X / B := hp.1
  have he2 : X / B ≤ 1075 := hp.2.1
  have hf : X % B < B := Nat.mod_lt _ (by decide)
  have hE' : bits .and .i64 (wrap64 ((X : Int) / 4503599627370496)) 2047 = ((X / B : Nat) : Int) := by
    rw [show wrap64 ((X : Int) / 4503599627370496) = (X : Int) / 4503599627370496 by unfold wrap64; unfold SGN at hX; omega]; exact hE
  clear hn0 hi0 hp h1 h2 g1 g2 hE
  generalize X / B = E at *
  generalize X % B = f at *
  obtain ⟨e1, he⟩ : ∃ e1, wrap64 (k + ((E : Int) - 1023)) = e1 := ⟨_, rfl⟩
  have HE : Hid (k ≤ 1023 → -1074 ≤ k → e1 = k + (E : Int) - 1023) := Lib.hid (fun a b => by rw [← he]; unfold wrap64; omega)
  have hb1 : -9223372036854775808 ≤ e1 := by rw [← he]; unfold wrap64; omega
  have hb2 : e1 ≤ 9223372036854775807 := by rw [← he]; unfold wrap64; omega
  by_cases c1 : e1 < -1075
  · have HR : Hid (∀ r, Is n k r → 0 = r) := Lib.hid (fun r h => by
      have a := HU.out r h; have b := HK.out r h; have c := HE.out b h.1; omega)
    go_enter Tryd.func89, Tryd.ntmps89
    go_wp2_with (first | (go_at_call 51; refine (isInf_any _ _ hXw).mono ?_; rw [HII.out]; rintro e w' ⟨rfl, rfl⟩) | (go_at_call 109; refine (isNaN_any _ _ hXw).mono ?_; rw [HN.out]; rintro e w' ⟨rfl, rfl⟩) | (go_at_call 110; refine (normalize_any _ _ hBX hI).mono ?_; rintro e w' ⟨rfl, rfl⟩) | (go_at_call 111; refine (copy0 _ _ hX).mono ?_; rintro e w' ⟨rfl, rfl⟩) | (go_at_call 46; refine (inf_any _).mono ?_; rintro e w' ⟨rfl, rfl⟩))
    go_ret
    exact ⟨0, rfl, by decide, HR.out, rfl⟩
  · by_cases c2 : 1023 < e1
    · have HR : Hid (∀ r, Is n k r → INF = r) := Lib.hid (fun r h => by
        have a := HO.out r h; have b := HK.out r h; have c := HE.out b h.1; omega)
      go_enter Tryd.func89, Tryd.ntmps89
      go_wp2_with (first | (go_at_call 51; refine (isInf_any _ _ hXw).mono ?_; rw [HII.out]; rintro e w' ⟨rfl, rfl⟩) | (go_at_call 109; refine (isNaN_any _ _ hXw).mono ?_; rw [HN.out]; rintro e w' ⟨rfl, rfl⟩) | (go_at_call 110; refine (normalize_any _ _ hBX hI).mono ?_; rintro e w' ⟨rfl, rfl⟩) | (go_at_call 111; refine (copy0 _ _ hX).mono ?_; rintro e w' ⟨rfl, rfl⟩) | (go_at_call 46; refine (inf_any _).mono ?_; rintro e w' ⟨rfl, rfl⟩))
      go_ret
      exact ⟨INF, rfl, Nat.le_refl _, HR.out, rfl⟩
    · by_cases c3 : e1 < -1022
      · obtain ⟨s, hs⟩ : ∃ s : Nat, e1 + 1075 = s := ⟨(e1 + 1075).toNat, by omega⟩
        have HR : Hid (∀ r, Is n k r → mulR (970 * B) ((s + 1) * B + f) = r) := Lib.hid (fun r h => by
          have b := HK.out r h; have c := HE.out b h.1
          exact HLO.out r h s (by omega))
        have hq : bits .or .u64 (f : Int) ((e1 + 53 + 1023) * 4503599627370496) = (((s + 1) * B + f : Nat) : Int) := by
          rw [show e1 + 53 + 1023 = ((s + 1 : Nat) : Int) by omega]; exact or_exp hf (by omega)
        have hy : (s + 1) * B + f < INF := by unfold B INF at *; omega
        have em := mul_any (x := 4368491638549381120) (y := (s + 1) * B + f) (by decide) hy w
        generalize (s + 1) * B + f = y at *
        go_enter Tryd.func89, Tryd.ntmps89
        go_wp2_with (first | (go_at_call 51; refine (isInf_any _ _ hXw).mono ?_; rw [HII.out]; rintro e w' ⟨rfl, rfl⟩) | (go_at_call 109; refine (isNaN_any _ _ hXw).mono ?_; rw [HN.out]; rintro e w' ⟨rfl, rfl⟩) | (go_at_call 110; refine (normalize_any _ _ hBX hI).mono ?_; rintro e w' ⟨rfl, rfl⟩) | (go_at_call 111; refine (copy0 _ _ hX).mono ?_; rintro e w' ⟨rfl, rfl⟩) | (go_at_call 46; refine (inf_any _).mono ?_; rintro e w' ⟨rfl, rfl⟩))
        go_ret
        exact ⟨_, rfl, nearest_le_inf _ _, HR.out, rfl⟩
      · obtain ⟨t, ht⟩ : ∃ t : Nat, e1 + 1022 = t := ⟨(e1 + 1022).toNat, by omega⟩
        have hy : (t + 1) * B + f < INF := by unfold B INF at *; omega
        have HR : Hid (∀ r, Is n k r → mulR ONE ((t + 1) * B + f) = r) := Lib.hid (fun r h => by
          have b := HK.out r h; have c := HE.out b h.1
          rw [mulR_comm, mulR_one hy]
          exact HMI.out r h t (by omega))
        have hq : bits .or .u64 (f : Int) ((e1 + 1023) * 4503599627370496) = (((t + 1) * B + f : Nat) : Int) := by
          rw [show e1 + 1023 = ((t + 1 : Nat) : Int) by omega]; exact or_exp hf (by omega)
        have em := mul_any (x := 4607182418800017408) (y := (t + 1) * B + f) (by decide) hy w
        generalize (t + 1) * B + f = y at *
        go_enter Tryd.func89, Tryd.ntmps89
        go_wp2_with (first | (go_at_call 51; refine (isInf_any _ _ hXw).mono ?_; rw [HII.out]; rintro e w' ⟨rfl, rfl⟩) | (go_at_call 109; refine (isNaN_any _ _ hXw).mono ?_; rw [HN.out]; rintro e w' ⟨rfl, rfl⟩) | (go_at_call 110; refine (normalize_any _ _ hBX hI).mono ?_; rintro e w' ⟨rfl, rfl⟩) | (go_at_call 111; refine (copy0 _ _ hX).mono ?_; rintro e w' ⟨rfl, rfl⟩) | (go_at_call 46; refine (inf_any _).mono ?_; rintro e w' ⟨rfl, rfl⟩))
        go_ret
        exact ⟨_, rfl, nearest_le_inf _ _, HR.out, rfl⟩
theorem ldexp_zero (k : Int) (w : World) :
    Calls Tryd.prog 89 #[.float .f64 (F 0), .int .i64 k] w fun e w' => ∃ y, e = .returned (.float .f64 y) ∧ y ≤ INF ∧ (∀ r, Is 0 k r → y = r) ∧ w = w' := by
  have ho : (FloatKind.f64.format.order 0 0 == some .eq) = true := by decide
  rw [F_zero]
  go_enter Tryd.func89, Tryd.ntmps89
  go_wp2
  go_ret
  exact ⟨0, rfl, by decide, fun r h => h.zero.symm, rfl⟩
theorem ldexp_any (n : Nat) (h2 : n < 2 * B) (k : Int) (hk0 : -9223372036854775808 ≤ k) (hk1 : k ≤ 9223372036854775807) (w : World) :
    Calls Tryd.prog 49 #[.float .f64 (F n), .int .i64 k] w fun e w' => ∃ y, e = .returned (.float .f64 y) ∧ y ≤ INF ∧ (∀ r, Is n k r → y = r) ∧ w = w' := by
  have h : Calls Tryd.prog 89 #[.float .f64 (F n), .int .i64 k] w fun e w' => ∃ y, e = .returned (.float .f64 y) ∧ y ≤ INF ∧ (∀ r, Is n k r → y = r) ∧ w = w' := by
    by_cases h1 : n = 0
    · subst h1; exact ldexp_zero k w
    · exact ldexp_pos n (by omega) h2 k hk0 hk1 w
  go_enter Tryd.func49, Tryd.ntmps49
  go_wp2_with (go_at_call 89; refine h.mono ?_; rintro e w' ⟨y, rfl, h1, h2, rfl⟩)
  go_ret
  exact ⟨y, rfl, h1, h2, rfl⟩
end Go.Proofs.YtplhlpdcdemopaaDoor
