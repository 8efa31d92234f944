/- The walks of places and of what bits stand for. No condition but that a double has 64 bits. -/
import Derived.Test.YtdkmmnehlmaebaaDoorFa
import Derived.Outline
namespace Go.Proofs.YtdkmmnehlmaebaaDoor
open Go.RowKit Go.FT Go.FX

theorem mod_lt (x : Nat) : x % SGN < SGN := Nat.mod_lt _ (by decide)
theorem of_any (x : Nat) (w : World) (hx : x < W64) : Calls Tryd.prog 20 #[.int .u64 x] w fun e w' => e = .returned (.float .f64 (can x)) ∧ w = w' := by
  have hi := isN_bits hx
  cases h : isN x with
  | true =>
    rw [h] at hi
    have HB := Lib.hid (can_yes h)
    clear h
    go_enter Tryd.func20, Tryd.ntmps20
    go_wp2
    go_ret
    exact ⟨ret_f HB.out.symm, rfl⟩
  | false =>
    rw [h] at hi
    have HB := Lib.hid (can_no h)
    clear h
    go_enter Tryd.func20, Tryd.ntmps20
    go_wp2
    go_ret
    exact ⟨ret_f HB.out.symm, rfl⟩
theorem rof_any (x : Nat) (w : World) (hx : x < W64) : Calls Tryd.prog 41 #[.int .u64 x] w fun e w' => e = .returned (.float .f64 (can x)) ∧ w = w' := by
  have hn := ne_self hx
  cases h : isN x with
  | true =>
    rw [h] at hn
    have HB := Lib.hid (can_yes h)
    clear h
    go_enter Tryd.func41, Tryd.ntmps41
    go_wp2
    go_ret
    exact ⟨ret_f HB.out.symm, rfl⟩
  | false =>
    rw [h] at hn
    have HB := Lib.hid (can_no h)
    clear h
    go_enter Tryd.func41, Tryd.ntmps41
    go_wp2
    go_ret
    exact ⟨ret_f HB.out.symm, rfl⟩
theorem pl_nan {x : Nat} (h : isN x = true) : pl x = 0 := by unfold pl; rw [h, if_pos rfl]
theorem pl_neg {x : Nat} (h : isN x = false) (g : ng x = true) : pl x = 18446744073709551615 - x := by unfold pl; rw [h, g, if_neg Bool.false_ne_true, if_pos rfl]
theorem pl_pos {x : Nat} (h : isN x = false) (g : ng x = false) : pl x = x + SGN := by unfold pl; rw [h, g, if_neg Bool.false_ne_true, if_neg Bool.false_ne_true]
theorem ng_lt {x : Nat} (g : ng x = false) : x < SGN := by
  have := of_decide_eq_false g
  omega
theorem place_any (x : Nat) (w : World) (hx : x < W64) : Calls Tryd.prog 72 #[.float .f64 x] w fun e w' => e = .returned (.int .u64 (pl x : Nat)) ∧ w = w' := by
  have hn := ne_self hx
  cases h : isN x with
  | true =>
    rw [h] at hn
    have HB := Lib.hid (pl_nan h)
    clear h
    go_enter Tryd.func72, Tryd.ntmps72
    go_wp2_with (go_at_call 38; refine (bits_any _ _ hx).mono ?_; rintro e w' ⟨rfl, rfl⟩)
    go_ret
    exact ⟨ret_u (by rw [HB.out]; rfl), rfl⟩
  | false =>
    rw [h] at hn
    have HC := Lib.hid (can_no h)
    have ht := sgn_test hx
    cases g : ng x with
    | true =>
      rw [g] at ht
      have HB := Lib.hid (pl_neg h g)
      have HN := Lib.hid (not_w hx)
      clear h g
      go_enter Tryd.func72, Tryd.ntmps72
      go_wp2_with (go_at_call 38; refine (bits_any _ _ hx).mono ?_; rw [HC.out]; rintro e w' ⟨rfl, rfl⟩)
      go_ret
      exact ⟨ret_u (by rw [HB.out]; exact HN.out), rfl⟩
    | false =>
      rw [g] at ht
      have HB := Lib.hid (pl_pos h g)
      have HN := Lib.hid (or_sgn (ng_lt g))
      clear h g
      go_enter Tryd.func72, Tryd.ntmps72
      go_wp2_with (go_at_call 38; refine (bits_any _ _ hx).mono ?_; rw [HC.out]; rintro e w' ⟨rfl, rfl⟩)
      go_ret
      exact ⟨ret_u (by rw [HB.out]; exact HN.out), rfl⟩
theorem rank_any (x : Nat) (w : World) (hx : x < W64) : Calls Tryd.prog 81 #[.float .f64 x] w fun e w' => e = .returned (.int .u64 (pl x : Nat)) ∧ w = w' := by
  have hn := ne_self hx
  cases h : isN x with
  | true =>
    rw [h] at hn
    have HB := Lib.hid (pl_nan h)
    clear h
    go_enter Tryd.func81, Tryd.ntmps81
    go_wp2_with (go_at_call 39; refine (rbits_any _ _ hx).mono ?_; rintro e w' ⟨rfl, rfl⟩)
    go_ret
    exact ⟨ret_u (by rw [HB.out]; rfl), rfl⟩
  | false =>
    rw [h] at hn
    have HC := Lib.hid (can_no h)
    have ht := sgn_test hx
    cases g : ng x with
    | true =>
      rw [g] at ht
      have HB := Lib.hid (pl_neg h g)
      have HN := Lib.hid (not_w hx)
      clear h g
      go_enter Tryd.func81, Tryd.ntmps81
      go_wp2_with (go_at_call 39; refine (rbits_any _ _ hx).mono ?_; rw [HC.out]; rintro e w' ⟨rfl, rfl⟩)
      go_ret
      exact ⟨ret_u (by rw [HB.out]; exact HN.out), rfl⟩
    | false =>
      rw [g] at ht
      have HB := Lib.hid (pl_pos h g)
      have HN := Lib.hid (or_sgn (ng_lt g))
      clear h g
      go_enter Tryd.func81, Tryd.ntmps81
      go_wp2_with (go_at_call 39; refine (rbits_any _ _ hx).mono ?_; rw [HC.out]; rintro e w' ⟨rfl, rfl⟩)
      go_ret
      exact ⟨ret_u (by rw [HB.out]; exact HN.out), rfl⟩
theorem less_int (x y : Nat) : decide ((pl x : Int) < (pl y : Int)) = less x y := by
  unfold less
  rw [Bool.eq_iff_iff, decide_eq_true_iff, decide_eq_true_iff]; omega
theorem less_nat (x y : Nat) : decide (pl x < pl y) = less x y := rfl
theorem less_any (x y : Nat) (w : World) (hx : x < W64) (hy : y < W64) : Calls Tryd.prog 25 #[.float .f64 x, .float .f64 y] w fun e w' => e = .returned (.bool (less x y)) ∧ w = w' := by
  go_enter Tryd.func25, Tryd.ntmps25
  go_wp2_with (go_at_call 72; refine (place_any _ _ (by first | exact hx | exact hy)).mono ?_; rintro e w' ⟨rfl, rfl⟩)
  go_ret
  exact ⟨ret_b (by first | exact less_int x y | rfl), rfl⟩
theorem rless_any (x y : Nat) (w : World) (hx : x < W64) (hy : y < W64) : Calls Tryd.prog 40 #[.float .f64 x, .float .f64 y] w fun e w' => e = .returned (.bool (less x y)) ∧ w = w' := by
  go_enter Tryd.func40, Tryd.ntmps40
  go_wp2_with (go_at_call 81; refine (rank_any _ _ (by first | exact hx | exact hy)).mono ?_; rintro e w' ⟨rfl, rfl⟩)
  go_ret
  exact ⟨ret_b (by first | exact less_int x y | rfl), rfl⟩

/-! math's small ones -/
theorem isNaN_any (x : Nat) (w : World) (hx : x < W64) : Calls Tryd.prog 113 #[.float .f64 x] w fun e w' => e = .returned (.bool (isN x)) ∧ w = w' := by
  have hn := Lib.hid (ne_self hx)
  go_enter Tryd.func113, Tryd.ntmps113
  go_wp2
  go_ret
  exact ⟨ret_b hn.out, rfl⟩
theorem inf_any (w : World) : Calls Tryd.prog 63 #[.int .i64 1] w fun e w' => e = .returned (.float .f64 INF) ∧ w = w' := by
  go_enter Tryd.func63, Tryd.ntmps63
  go_wp2
  go_ret
  exact ⟨rfl, rfl⟩
theorem abs_any (x : Nat) (w : World) (hx : x < W64) : Calls Tryd.prog 95 #[.float .f64 x] w fun e w' => e = .returned (.float .f64 (x % SGN)) ∧ w = w' := by
  have H := Lib.hid (andNot_sgn hx)
  go_enter Tryd.func95, Tryd.ntmps95
  go_wp2
  go_ret
  exact ⟨ret_f (by rw [H.out]; rfl), rfl⟩
theorem sign_int {x : Nat} (hx : x < W64) : decide (wrap64 (x : Int) < 0) = ng x := by
  unfold ng wrap64
  rw [Bool.eq_iff_iff, decide_eq_true_iff, decide_eq_true_iff]
  unfold W64 at hx; unfold SGN; omega
theorem signbit_any (x : Nat) (w : World) (hx : x < W64) : Calls Tryd.prog 67 #[.float .f64 x] w fun e w' => e = .returned (.bool (ng x)) ∧ w = w' := by
  have hs := Lib.hid (sign_int hx)
  go_enter Tryd.func67, Tryd.ntmps67
  go_wp2
  go_ret
  exact ⟨ret_b hs.out, rfl⟩
/-- Is it an infinity? -/
def isI (x : Nat) : Bool := decide (x % SGN = INF)
theorem gt_max {r : Nat} (h : r < SGN) : (FloatKind.f64.format.order r 9218868437227405311 == some .gt) = decide (r = INF) := by
  show (D.order r 9218868437227405311 == some .gt) = decide (r = INF)
  by_cases hn : INF < r
  · rw [order_nan_left (read_nan (by rw [Nat.mod_eq_of_lt h]; exact hn)), decide_eq_false (by omega)]; rfl
  · rw [order_fin (by omega) (by decide), cmp_nat]
    by_cases e : r = INF
    · subst e; rw [decide_eq_true rfl]; decide
    · rw [decide_eq_false e]
      have hr : r ≤ 9218868437227405311 := by unfold INF at *; omega
      by_cases l : r < 9218868437227405311
      · rw [if_pos l]; rfl
      · rw [if_neg l, if_pos (by omega)]; rfl
theorem isInf_any (x : Nat) (w : World) (hx : x < W64) : Calls Tryd.prog 68 #[.float .f64 x, .int .i64 0] w fun e w' => e = .returned (.bool (isI x)) ∧ w = w' := by
  have hg := Lib.hid (gt_max (mod_lt x))
  go_enter Tryd.func68, Tryd.ntmps68
  go_wp2_with (go_at_call 95; refine (abs_any _ _ hx).mono ?_; rintro e w' ⟨rfl, rfl⟩)
  go_ret
  exact ⟨ret_b hg.out, rfl⟩
end Go.Proofs.YtdkmmnehlmaebaaDoor
