
/- The walks of chances and prices. No condition but that a double has 64 bits. -/
import Derived.Test.YtdkmmnehlmaebaaGreatDoorFb
namespace Go.Proofs.YtdkmmnehlmaebaaGreatDoor
open Go.RowKit Go.FT Go.FX

/-- What 'within' gives: the number, and the error. -/
def wv (x m : Nat) : Nat := if okB x m then clr x else 0
def we (x m : Nat) : Int := if okB x m then 0 else 16
theorem wv_yes {x m : Nat} (h : okB x m = true) : wv x m = clr x := by unfold wv; rw [if_pos h]
theorem wv_no {x m : Nat} (h : okB x m = false) : wv x m = 0 := by unfold wv; rw [h]; rfl
theorem we_yes {x m : Nat} (h : okB x m = true) : we x m = 0 := by unfold we; rw [if_pos h]
theorem we_no {x m : Nat} (h : okB x m = false) : we x m = 16 := by unfold we; rw [h]; rfl
theorem wv_le {x m : Nat} : wv x m ≤ m := by
  unfold wv; split
  · rename_i h; exact clr_le h
  · omega

theorem clr_mod {x : Nat} (h : okB x INF = true) : x % SGN = clr x := by
  have hc := of_decide_eq_true h
  unfold clr
  by_cases e : x = SGN
  · rw [if_pos e, e]; decide
  · rw [if_neg e]; exact Nat.mod_eq_of_lt (by unfold SGN INF at *; omega)
theorem absOk (x : Nat) (w : World) (hx : x < W64) (h : okB x INF = true) : Calls Tryz.prog 110 #[.float .f64 x] w fun e w' => e = .returned (.float .f64 (clr x)) ∧ w = w' := by
  rw [← clr_mod h]; exact abs_any x w hx
set_option maxHeartbeats 400000 in
theorem within_any (x m : Nat) (w : World) (hx : x < W64) (hm : m ≤ INF) :
    Calls Tryz.prog 97 #[.float .f64 x, .float .f64 m] w fun e w' => e = .returned (.tuple #[.float .f64 (wv x m), .int .i64 (we x m)]) ∧ w = w' := by
  by_cases h : okB x INF = true
  · have h1 : (FloatKind.f64.format.order x 0 == some .gt || FloatKind.f64.format.order x 0 == some .eq) = true := (ge_zero hx).trans h
    by_cases h' : okB x m = true
    · have h2 : (FloatKind.f64.format.order x m == some .lt || FloatKind.f64.format.order x m == some .eq) = true := (le_most h hm).trans h'
      go_enter Tryz.func97, Tryz.ntmps97
      go_wp2_with (go_at_call 110; refine (absOk _ _ hx h).mono ?_; rintro e w' ⟨rfl, rfl⟩)
      go_ret2
      exact ⟨tup2 (wv_yes h').symm (we_yes h').symm, rfl⟩
    · have h3 : okB x m = false := by simpa using h'
      have h2 : (FloatKind.f64.format.order x m == some .lt || FloatKind.f64.format.order x m == some .eq) = false := (le_most h hm).trans h3
      go_enter Tryz.func97, Tryz.ntmps97
      go_wp2_with fail
      go_ret2
      exact ⟨tup2 (wv_no h3).symm (we_no h3).symm, rfl⟩
  · have h3 : okB x INF = false := by simpa using h
    have h4 : okB x m = false := by
      by_cases e : okB x m = true
      · exact absurd (okB_mono e hm) h
      · simpa using e
    have h1 : (FloatKind.f64.format.order x 0 == some .gt || FloatKind.f64.format.order x 0 == some .eq) = false := (ge_zero hx).trans h3
    go_enter Tryz.func97, Tryz.ntmps97
    go_wp2_with fail
    go_ret2
    exact ⟨tup2 (wv_no h4).symm (we_no h4).symm, rfl⟩

theorem unit_any (x : Nat) (w : World) (hx : x < W64) :
    Calls Tryz.prog 73 #[.float .f64 x] w fun e w' => e = .returned (.tuple #[.float .f64 (wv x ONE), .int .i64 (we x ONE)]) ∧ w = w' := by
  go_enter Tryz.func73, Tryz.ntmps73
  go_wp2_with (go_at_call 97; refine (within_any _ _ _ hx (by decide)).mono ?_; rintro e w' ⟨rfl, rfl⟩)
  go_ret2
  exact ⟨rfl, rfl⟩

theorem price_any (x : Nat) (w : World) (hx : x < W64) :
    Calls Tryz.prog 74 #[.float .f64 x] w fun e w' => e = .returned (.tuple #[.float .f64 (wv x INF), .int .i64 (we x INF)]) ∧ w = w' := by
  go_enter Tryz.func74, Tryz.ntmps74
  go_wp2_with (first | (go_at_call 65; refine (inf_any _).mono ?_; rintro e w' ⟨rfl, rfl⟩) | (go_at_call 97; refine (within_any _ INF _ hx (by decide)).mono ?_; rintro e w' ⟨rfl, rfl⟩))
  go_ret2
  exact ⟨rfl, rfl⟩

theorem or_left {a b : Bool} (h : (a || b) = true) (hb : b = false) : a = true := by subst hb; simpa using h
theorem clr_self {x : Nat} (h0 : ¬ clr x = 0) : clr x = x := by
  unfold clr at *; split at h0
  · omega
  · rename_i e; rw [if_neg e]

set_option maxHeartbeats 400000 in
theorem refPrice_any (x : Nat) (w : World) (hx : x < W64) :
    Calls Tryz.prog 79 #[.float .f64 x] w fun e w' => e = .returned (.tuple #[.float .f64 (wv x INF), .int .i64 (we x INF)]) ∧ w = w' := by
  by_cases h : okB x INF = true
  · have h1 : (FloatKind.f64.format.order x 0 == some .gt || FloatKind.f64.format.order x 0 == some .eq) = true := (ge_zero hx).trans h
    by_cases h0 : clr x = 0
    · have h5 : (FloatKind.f64.format.order x 0 == some .eq) = true := (eq_zero h).trans (decide_eq_true h0)
      go_enter Tryz.func79, Tryz.ntmps79
      go_wp2_with fail
      go_ret2
      exact ⟨tup2 ((wv_yes h).trans h0).symm (we_yes h).symm, rfl⟩
    · have h5 : (FloatKind.f64.format.order x 0 == some .eq) = false := (eq_zero h).trans (decide_eq_false h0)
      have h7 := or_left h1 h5
      have H6 := Lib.hid (clr_self h0)
      clear h0
      go_enter Tryz.func79, Tryz.ntmps79
      go_wp2_with fail
      go_ret2
      exact ⟨tup2 ((wv_yes h).trans H6.out).symm (we_yes h).symm, rfl⟩
  · have h3 : okB x INF = false := by simpa using h
    have h1 : (FloatKind.f64.format.order x 0 == some .gt || FloatKind.f64.format.order x 0 == some .eq) = false := (ge_zero hx).trans h3
    go_enter Tryz.func79, Tryz.ntmps79
    go_wp2_with fail
    go_ret2
    exact ⟨tup2 (wv_no h3).symm (we_no h3).symm, rfl⟩

end Go.Proofs.YtdkmmnehlmaebaaGreatDoor
