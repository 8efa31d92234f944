
/- The walks of the small functions on doubles: bits, sameness, places. No condition but that a double has 64 bits. -/
import Derived.Test.YtdkmmnehlmaebaaGreatDoorRows
import Derived.Test.YtdkmmnehlmaebaaGreatDoorFB
import Derived.WalkKit
import Derived.WalkSpells
import Derived.WalkLawsBesides
import Derived.Laws.FloatArith
import Derived.Laws.BitsLemmas
import Derived.Lib.Hide
namespace Go.Proofs.YtdkmmnehlmaebaaGreatDoor
open Go.RowKit Go.FT Go.FX

@[go_sem] theorem extBits (x : Nat) (w : World) : (callFunc 77 #[.float .f64 x]).run Tryz.prog w = .ok (.value (.int .u64 x)) w := by
  rw [run_callFunc_extern Tryz.func77 (by kernel_rfl) (by kernel_rfl) (by kernel_rfl) (e := Extern.MathFloatBits.float64bits) (by kernel_rfl)]; rfl
@[go_sem] theorem extFrom (x : Int) (w : World) : (callFunc 66 #[.int .u64 x]).run Tryz.prog w = .ok (.value (.float .f64 x.toNat)) w := by
  rw [run_callFunc_extern Tryz.func66 (by kernel_rfl) (by kernel_rfl) (by kernel_rfl) (e := Extern.MathFloatBits.float64frombits) (by kernel_rfl)]; rfl

theorem ret_f {a b : Nat} (h : a = b) : Ending.returned (.float .f64 a) = .returned (.float .f64 b) := by rw [h]
theorem ret_u {a b : Int} (h : a = b) : Ending.returned (.int .u64 a) = .returned (.int .u64 b) := by rw [h]
theorem ret_b {a b : Bool} (h : a = b) : Ending.returned (.bool a) = .returned (.bool b) := by rw [h]
theorem tup2 {v v' : Nat} {e e' : Int} (h1 : v = v') (h2 : e = e') : Ending.returned (.tuple #[.float .f64 v, .int .i64 e]) = .returned (.tuple #[.float .f64 v', .int .i64 e']) := by rw [h1, h2]
theorem ne_self {x : Nat} (hx : x < W64) : (FloatKind.f64.format.order x x != some .eq) = isN x := by
  have h := order_self hx
  show (!(D.order x x == some .eq)) = isN x
  rw [h, Bool.not_not]
theorem eq_self {x : Nat} (hx : x < W64) : (FloatKind.f64.format.order x x == some .eq) = !isN x := order_self hx
theorem can_yes {x : Nat} (h : isN x = true) : can x = NAN := by unfold can; rw [h, if_pos rfl]
theorem can_no {x : Nat} (h : isN x = false) : can x = x := by unfold can; rw [h, if_neg Bool.false_ne_true]

theorem bits_any (x : Nat) (w : World) (hx : x < W64) : Calls Tryz.prog 78 #[.float .f64 x] w fun e w' => e = .returned (.int .u64 (can x : Nat)) ∧ w = w' := by
  have hn := ne_self hx
  cases h : isN x with
  | true =>
    rw [h] at hn
    have HB := Lib.hid (can_yes h)
    go_enter Tryz.func78, Tryz.ntmps78
    go_wp2
    go_ret
    exact ⟨by rw [HB.out]; rfl, rfl⟩
  | false =>
    rw [h] at hn
    have HB := Lib.hid (can_no h)
    go_enter Tryz.func78, Tryz.ntmps78
    go_wp2
    go_ret
    exact ⟨by rw [HB.out]; rfl, rfl⟩
theorem rbits_any (x : Nat) (w : World) (hx : x < W64) : Calls Tryz.prog 55 #[.float .f64 x] w fun e w' => e = .returned (.int .u64 (can x : Nat)) ∧ w = w' := by
  have hn := ne_self hx
  cases h : isN x with
  | true =>
    rw [h] at hn
    have HB := Lib.hid (can_yes h)
    go_enter Tryz.func55, Tryz.ntmps55
    go_wp2
    go_ret
    exact ⟨by rw [HB.out]; rfl, rfl⟩
  | false =>
    rw [h] at hn
    have HB := Lib.hid (can_no h)
    go_enter Tryz.func55, Tryz.ntmps55
    go_wp2
    go_ret
    exact ⟨by rw [HB.out]; rfl, rfl⟩
theorem same_beq (x y : Nat) : ((can x : Int) == (can y : Int)) = same x y := by
  unfold same
  rw [Bool.eq_iff_iff, beq_iff_eq, decide_eq_true_iff]; omega
theorem same_any (x y : Nat) (w : World) (hx : x < W64) (hy : y < W64) : Calls Tryz.prog 57 #[.float .f64 x, .float .f64 y] w fun e w' => e = .returned (.bool (same x y)) ∧ w = w' := by
  go_enter Tryz.func57, Tryz.ntmps57
  go_wp2_with (go_at_call 78; refine (bits_any _ _ (by first | exact hx | exact hy)).mono ?_; rintro e w' ⟨rfl, rfl⟩)
  go_ret
  exact ⟨ret_b (same_beq x y), rfl⟩
theorem rsame_any (x y : Nat) (w : World) (hx : x < W64) (hy : y < W64) : Calls Tryz.prog 48 #[.float .f64 x, .float .f64 y] w fun e w' => e = .returned (.bool (same x y)) ∧ w = w' := by
  go_enter Tryz.func48, Tryz.ntmps48
  go_wp2_with (go_at_call 55; refine (rbits_any _ _ (by first | exact hx | exact hy)).mono ?_; rintro e w' ⟨rfl, rfl⟩)
  go_ret
  exact ⟨ret_b (same_beq x y), rfl⟩
end Go.Proofs.YtdkmmnehlmaebaaGreatDoor
