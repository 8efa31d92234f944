
/- The walks of places and of what bits stand for. No condition but that a double has 64 bits. -/
import Derived.Test.YtdkmmnehlmaebaaGreatDoorFa
import Derived.Outline
namespace Go.Proofs.YtdkmmnehlmaebaaGreatDoor
open Go.RowKit Go.FT Go.FX

theorem mod_lt (x : Nat) : x % SGN < SGN := Nat.mod_lt _ (by decide)
theorem of_any (x : Nat) (w : World) (hx : x < W64) : Calls Tryz.prog 94 #[.int .u64 x] w fun e w' => e = .returned (.float .f64 (can x)) ∧ w = w' := by
  have hi := isN_bits hx
  cases h : isN x with
  | true =>
    rw [h] at hi
    have HB := Lib.hid (can_yes h)
    clear h
    go_enter Tryz.func94, Tryz.ntmps94
    go_wp2
    go_ret
    exact ⟨ret_f HB.out.symm, rfl⟩
  | false =>
    rw [h] at hi
    have HB := Lib.hid (can_no h)
    clear h
    go_enter Tryz.func94, Tryz.ntmps94
    go_wp2
    go_ret
    exact ⟨ret_f HB.out.symm, rfl⟩
theorem rof_any (x : Nat) (w : World) (hx : x < W64) : Calls Tryz.prog 34 #[.int .u64 x] w fun e w' => e = .returned (.float .f64 (can x)) ∧ w = w' := by
  have hn := ne_self hx
  cases h : isN x with
  | true =>
    rw [h] at hn
    have HB := Lib.hid (can_yes h)
    clear h
    go_enter Tryz.func34, Tryz.ntmps34
    go_wp2
    go_ret
    exact ⟨ret_f HB.out.symm, rfl⟩
  | false =>
    rw [h] at hn
    have HB := Lib.hid (can_no h)
    clear h
    go_enter Tryz.func34, Tryz.ntmps34
    go_wp2
    go_ret
    exact ⟨ret_f HB.out.symm, rfl⟩
theorem pl_nan {x : Nat} (h : isN x = true) : pl x = 0 := by unfold pl; rw [h, if_pos rfl]
theorem pl_neg {x : Nat} (h : isN x = false) (g : ng x = true) : pl x = 18446744073709551615 - x := by unfold pl; rw [h, g, if_neg Bool.false_ne_true, if_pos rfl]
theorem pl_pos {x : Nat} (h : isN x = false) (g : ng x = false) : pl x = x + SGN := by unfold pl; rw [h, g, if_neg Bool.false_ne_true, if_neg Bool.false_ne_true]
theorem ng_lt {x : Nat} (g : ng x = false) : x < SGN := by
  have := of_decide_eq_false g
  omega
theorem less_int (x y : Nat) : decide ((pl x : Int) < (pl y : Int)) = less x y := by
  unfold less
  rw [Bool.eq_iff_iff, decide_eq_true_iff, decide_eq_true_iff]; omega
theorem less_nat (x y : Nat) : decide (pl x < pl y) = less x y := rfl
/-! math's small ones -/
theorem isNaN_any (x : Nat) (w : World) (hx : x < W64) : Calls Tryz.prog 121 #[.float .f64 x] w fun e w' => e = .returned (.bool (isN x)) ∧ w = w' := by
  have hn := Lib.hid (ne_self hx)
  go_enter Tryz.func121, Tryz.ntmps121
  go_wp2
  go_ret
  exact ⟨ret_b hn.out, rfl⟩
theorem inf_any (w : World) : Calls Tryz.prog 65 #[.int .i64 1] w fun e w' => e = .returned (.float .f64 INF) ∧ w = w' := by
  go_enter Tryz.func65, Tryz.ntmps65
  go_wp2
  go_ret
  exact ⟨rfl, rfl⟩
theorem abs_any (x : Nat) (w : World) (hx : x < W64) : Calls Tryz.prog 110 #[.float .f64 x] w fun e w' => e = .returned (.float .f64 (x % SGN)) ∧ w = w' := by
  have H := Lib.hid (andNot_sgn hx)
  go_enter Tryz.func110, Tryz.ntmps110
  go_wp2
  go_ret
  exact ⟨ret_f (by rw [H.out]; rfl), rfl⟩
theorem sign_int {x : Nat} (hx : x < W64) : decide (wrap64 (x : Int) < 0) = ng x := by
  unfold ng wrap64
  rw [Bool.eq_iff_iff, decide_eq_true_iff, decide_eq_true_iff]
  unfold W64 at hx; unfold SGN; omega
theorem signbit_any (x : Nat) (w : World) (hx : x < W64) : Calls Tryz.prog 87 #[.float .f64 x] w fun e w' => e = .returned (.bool (ng x)) ∧ w = w' := by
  have hs := Lib.hid (sign_int hx)
  go_enter Tryz.func87, Tryz.ntmps87
  go_wp2
  go_ret
  exact ⟨ret_b hs.out, rfl⟩
/-- Is it an infinity? -/
def isI (x : Nat) : Bool := decide (x % SGN = INF)
theorem gt_max {r : Nat} (h : r < SGN) : (FloatKind.f64.format.order r 9218868437227405311 == some .gt) = decide (r = INF) := by
  show (D.order r 9218868437227405311 == some .gt) = decide (r = INF)
  by_cases hn : INF < r
  · rw [order_nan_left (read_nan (by rw [Nat.mod_eq_of_lt h]; exact hn)), decide_eq_false (by omega)]; rfl
  · rw [order_fin (by omega) (by decide), cmp_nat]
    by_cases e : r = INF
    · subst e; rw [decide_eq_true rfl]; decide
    · rw [decide_eq_false e]
      have hr : r ≤ 9218868437227405311 := by unfold INF at *; omega
      by_cases l : r < 9218868437227405311
      · rw [if_pos l]; rfl
      · rw [if_neg l, if_pos (by omega)]; rfl
theorem isInf_any (x : Nat) (w : World) (hx : x < W64) : Calls Tryz.prog 88 #[.float .f64 x, .int .i64 0] w fun e w' => e = .returned (.bool (isI x)) ∧ w = w' := by
  have hg := Lib.hid (gt_max (mod_lt x))
  go_enter Tryz.func88, Tryz.ntmps88
  go_wp2_with (go_at_call 110; refine (abs_any _ _ hx).mono ?_; rintro e w' ⟨rfl, rfl⟩)
  go_ret
  exact ⟨ret_b hg.out, rfl⟩
end Go.Proofs.YtdkmmnehlmaebaaGreatDoor
