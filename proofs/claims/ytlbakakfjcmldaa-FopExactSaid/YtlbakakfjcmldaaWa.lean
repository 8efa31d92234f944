/- The walks of the functions that know no slices: what a chance, a price, a product, a sum is. No condition but that a double has 64 bits. -/
import Derived.Test.YtlbakakfjcmldaaRows
import Derived.Test.YtlbakakfjcmldaaFT
import Derived.WalkKit
import Derived.WalkSpells
import Derived.WalkLawsBesides
import Derived.Laws.FloatArith
import Derived.Lib.Hide
namespace Go.Proofs.Ytlbakakfjcmldaa
open Go.RowKit Go.FT

@[go_sem] theorem ext34 (x : Nat) (w : World) : (callFunc 34 #[.float .f64 x]).run Try.prog w = .ok (.value (.int .u64 x)) w := by
  rw [run_callFunc_extern Try.func34 (by kernel_rfl) (by kernel_rfl) (by kernel_rfl) (e := Extern.MathFloatBits.float64bits) (by kernel_rfl)]; rfl
@[go_sem] theorem ext28 (x : Int) (w : World) : (callFunc 28 #[.int .u64 x]).run Try.prog w = .ok (.value (.float .f64 x.toNat)) w := by
  rw [run_callFunc_extern Try.func28 (by kernel_rfl) (by kernel_rfl) (by kernel_rfl) (e := Extern.MathFloatBits.float64frombits) (by kernel_rfl)]; rfl

theorem ret_f {a b : Nat} (h : a = b) : Ending.returned (.float .f64 a) = .returned (.float .f64 b) := by rw [h]
/-- What 'within' gives: the number, and the error. -/
def wv (x m : Nat) : Nat := if okB x m then clr x else 0
def we (x m : Nat) : Int := if okB x m then 0 else 16
theorem wv_yes {x m : Nat} (h : okB x m = true) : wv x m = clr x := by unfold wv; rw [if_pos h]
theorem wv_no {x m : Nat} (h : okB x m = false) : wv x m = 0 := by unfold wv; rw [h]; rfl
theorem we_yes {x m : Nat} (h : okB x m = true) : we x m = 0 := by unfold we; rw [if_pos h]
theorem we_no {x m : Nat} (h : okB x m = false) : we x m = 16 := by unfold we; rw [h]; rfl
theorem wv_le {x m : Nat} : wv x m ≤ m := by
  unfold wv; split
  · rename_i h; exact clr_le h
  · omega

theorem abs_any (x : Nat) (w : World) (hx : x < W64) (h : okB x INF = true) :
    Calls Try.prog 35 #[.float .f64 x] w fun e w' => e = .returned (.float .f64 (clr x)) ∧ w = w' := by
  go_enter Try.func35, Try.ntmps35
  go_wp2
  go_ret
  refine ⟨ret_f ?_, rfl⟩
  show (bits .andNot .u64 (x : Int) 9223372036854775808).toNat = clr x
  rw [u64_andNot (x : Int) 9223372036854775808 (by omega) (by unfold W64 at hx; omega) (by omega) (by omega), ← and_abs h]
  rfl

theorem tup2 {v v' : Nat} {e e' : Int} (h1 : v = v') (h2 : e = e') : Ending.returned (.tuple #[.float .f64 v, .int .i64 e]) = .returned (.tuple #[.float .f64 v', .int .i64 e']) := by rw [h1, h2]

set_option maxHeartbeats 400000 in
theorem within_any (x m : Nat) (w : World) (hx : x < W64) (hm : m ≤ INF) :
    Calls Try.prog 32 #[.float .f64 x, .float .f64 m] w fun e w' => e = .returned (.tuple #[.float .f64 (wv x m), .int .i64 (we x m)]) ∧ w = w' := by
  by_cases h : okB x INF = true
  · have h1 : (FloatKind.f64.format.order x 0 == some .gt || FloatKind.f64.format.order x 0 == some .eq) = true := (ge_zero hx).trans h
    by_cases h' : okB x m = true
    · have h2 : (FloatKind.f64.format.order x m == some .lt || FloatKind.f64.format.order x m == some .eq) = true := (le_most h hm).trans h'
      go_enter Try.func32, Try.ntmps32
      go_wp2_with (go_at_call 35; refine (abs_any _ _ hx h).mono ?_; rintro e w' ⟨rfl, rfl⟩)
      go_ret2
      exact ⟨tup2 (wv_yes h').symm (we_yes h').symm, rfl⟩
    · have h3 : okB x m = false := by simpa using h'
      have h2 : (FloatKind.f64.format.order x m == some .lt || FloatKind.f64.format.order x m == some .eq) = false := (le_most h hm).trans h3
      go_enter Try.func32, Try.ntmps32
      go_wp2_with fail
      go_ret2
      exact ⟨tup2 (wv_no h3).symm (we_no h3).symm, rfl⟩
  · have h3 : okB x INF = false := by simpa using h
    have h4 : okB x m = false := by
      by_cases e : okB x m = true
      · exact absurd (okB_mono e hm) h
      · simpa using e
    have h1 : (FloatKind.f64.format.order x 0 == some .gt || FloatKind.f64.format.order x 0 == some .eq) = false := (ge_zero hx).trans h3
    go_enter Try.func32, Try.ntmps32
    go_wp2_with fail
    go_ret2
    exact ⟨tup2 (wv_no h4).symm (we_no h4).symm, rfl⟩

theorem unit_any (x : Nat) (w : World) (hx : x < W64) :
    Calls Try.prog 24 #[.float .f64 x] w fun e w' => e = .returned (.tuple #[.float .f64 (wv x ONE), .int .i64 (we x ONE)]) ∧ w = w' := by
  go_enter Try.func24, Try.ntmps24
  go_wp2_with (go_at_call 32; refine (within_any _ _ _ hx (by decide)).mono ?_; rintro e w' ⟨rfl, rfl⟩)
  go_ret2
  exact ⟨rfl, rfl⟩

theorem inf_any (w : World) : Calls Try.prog 33 #[.int .i64 1] w fun e w' => e = .returned (.float .f64 INF) ∧ w = w' := by
  go_enter Try.func33, Try.ntmps33
  go_wp2
  go_ret
  exact ⟨rfl, rfl⟩

theorem price_any (x : Nat) (w : World) (hx : x < W64) :
    Calls Try.prog 26 #[.float .f64 x] w fun e w' => e = .returned (.tuple #[.float .f64 (wv x INF), .int .i64 (we x INF)]) ∧ w = w' := by
  go_enter Try.func26, Try.ntmps26
  go_wp2_with (first | (go_at_call 33; refine (inf_any _).mono ?_; rintro e w' ⟨rfl, rfl⟩) | (go_at_call 32; refine (within_any _ INF _ hx (by decide)).mono ?_; rintro e w' ⟨rfl, rfl⟩))
  go_ret2
  exact ⟨rfl, rfl⟩

theorem or_left {a b : Bool} (h : (a || b) = true) (hb : b = false) : a = true := by subst hb; simpa using h
theorem clr_self {x : Nat} (h0 : ¬ clr x = 0) : clr x = x := by
  unfold clr at *; split at h0
  · omega
  · rename_i e; rw [if_neg e]

set_option maxHeartbeats 400000 in
theorem refUnit_any (x : Nat) (w : World) (hx : x < W64) :
    Calls Try.prog 25 #[.float .f64 x] w fun e w' => e = .returned (.tuple #[.float .f64 (wv x ONE), .int .i64 (we x ONE)]) ∧ w = w' := by
  by_cases h : okB x INF = true
  · have h1 : (FloatKind.f64.format.order x 0 == some .gt || FloatKind.f64.format.order x 0 == some .eq) = true := (ge_zero hx).trans h
    by_cases h' : okB x ONE = true
    · have h2 : (FloatKind.f64.format.order x 4607182418800017408 == some .lt || FloatKind.f64.format.order x 4607182418800017408 == some .eq) = true := (le_most h (by decide)).trans h'
      by_cases h0 : clr x = 0
      · have h5 : (FloatKind.f64.format.order x 0 == some .eq) = true := (eq_zero h).trans (decide_eq_true h0)
        go_enter Try.func25, Try.ntmps25
        go_wp2_with fail
        go_ret2
        exact ⟨tup2 ((wv_yes h').trans h0).symm (we_yes h').symm, rfl⟩
      · have h5 : (FloatKind.f64.format.order x 0 == some .eq) = false := (eq_zero h).trans (decide_eq_false h0)
        have h6 := clr_self h0
        have h7 := or_left h1 h5
        clear h0
        have H6 := Lib.hid h6
        clear h6
        go_enter Try.func25, Try.ntmps25
        go_wp2_with fail
        go_ret2
        exact ⟨tup2 ((wv_yes h').trans H6.out).symm (we_yes h').symm, rfl⟩
    · have h3 : okB x ONE = false := by simpa using h'
      have h2 : (FloatKind.f64.format.order x 4607182418800017408 == some .lt || FloatKind.f64.format.order x 4607182418800017408 == some .eq) = false := (le_most h (by decide)).trans h3
      go_enter Try.func25, Try.ntmps25
      go_wp2_with fail
      go_ret2
      exact ⟨tup2 (wv_no h3).symm (we_no h3).symm, rfl⟩
  · have h3 : okB x INF = false := by simpa using h
    have h4 : okB x ONE = false := by
      by_cases e : okB x ONE = true
      · exact absurd (okB_mono e (by decide)) h
      · simpa using e
    have h1 : (FloatKind.f64.format.order x 0 == some .gt || FloatKind.f64.format.order x 0 == some .eq) = false := (ge_zero hx).trans h3
    go_enter Try.func25, Try.ntmps25
    go_wp2_with fail
    go_ret2
    exact ⟨tup2 (wv_no h4).symm (we_no h4).symm, rfl⟩

set_option maxHeartbeats 400000 in
theorem refPrice_any (x : Nat) (w : World) (hx : x < W64) :
    Calls Try.prog 19 #[.float .f64 x] w fun e w' => e = .returned (.tuple #[.float .f64 (wv x INF), .int .i64 (we x INF)]) ∧ w = w' := by
  by_cases h : okB x INF = true
  · have h1 : (FloatKind.f64.format.order x 0 == some .gt || FloatKind.f64.format.order x 0 == some .eq) = true := (ge_zero hx).trans h
    by_cases h0 : clr x = 0
    · have h5 : (FloatKind.f64.format.order x 0 == some .eq) = true := (eq_zero h).trans (decide_eq_true h0)
      go_enter Try.func19, Try.ntmps19
      go_wp2_with fail
      go_ret2
      exact ⟨tup2 ((wv_yes h).trans h0).symm (we_yes h).symm, rfl⟩
    · have h5 : (FloatKind.f64.format.order x 0 == some .eq) = false := (eq_zero h).trans (decide_eq_false h0)
      have h7 := or_left h1 h5
      have H6 := Lib.hid (clr_self h0)
      clear h0
      go_enter Try.func19, Try.ntmps19
      go_wp2_with fail
      go_ret2
      exact ⟨tup2 ((wv_yes h).trans H6.out).symm (we_yes h).symm, rfl⟩
  · have h3 : okB x INF = false := by simpa using h
    have h1 : (FloatKind.f64.format.order x 0 == some .gt || FloatKind.f64.format.order x 0 == some .eq) = false := (ge_zero hx).trans h3
    go_enter Try.func19, Try.ntmps19
    go_wp2_with fail
    go_ret2
    exact ⟨tup2 (wv_no h3).symm (we_no h3).symm, rfl⟩

/-- A product of chances, a sum of prices. -/
def tv (x y : Nat) : Nat := if okB x ONE && okB y ONE then mulR (clr x) (clr y) else 0
def te (x y : Nat) : Int := if okB x ONE && okB y ONE then 0 else 16
def pv (x y : Nat) : Nat := if okB x INF && okB y INF then addR (clr x) (clr y) else 0
def pe (x y : Nat) : Int := if okB x INF && okB y INF then 0 else 16
theorem tv_yes {x y : Nat} (h : okB x ONE = true) (h' : okB y ONE = true) : tv x y = mulR (clr x) (clr y) ∧ te x y = 0 := by unfold tv te; rw [h, h', Bool.and_self, if_pos rfl, if_pos rfl]; exact ⟨rfl, rfl⟩
theorem tv_no {x y : Nat} (h : okB x ONE = false ∨ okB y ONE = false) : tv x y = 0 ∧ te x y = 16 := by
  unfold tv te; rcases h with h | h <;> rw [h] <;> simp
theorem pv_yes {x y : Nat} (h : okB x INF = true) (h' : okB y INF = true) : pv x y = addR (clr x) (clr y) ∧ pe x y = 0 := by unfold pv pe; rw [h, h', Bool.and_self, if_pos rfl, if_pos rfl]; exact ⟨rfl, rfl⟩
theorem pv_no {x y : Nat} (h : okB x INF = false ∨ okB y INF = false) : pv x y = 0 ∧ pe x y = 16 := by
  unfold pv pe; rcases h with h | h <;> rw [h] <;> simp
theorem fb_mul (x y : Nat) : floatBits .mul .f64 x y = D.mul x y := rfl
theorem fb_add (x y : Nat) : floatBits .add .f64 x y = D.add x y := rfl
theorem one_lt_inf : ONE < INF := by decide
theorem mul_walk {x y : Nat} (h : okB x ONE = true) (h' : okB y ONE = true) (w : World) :
    (binOp .mul 22 (.float .f64 (wv x ONE)) (.float .f64 (wv y ONE))).run Try.prog w = .ok (.float .f64 (tv x y)) w := by
  have e : floatBits .mul .f64 (wv x ONE) (wv y ONE) = some (tv x y) := by
    rw [fb_mul, wv_yes h, wv_yes h', (tv_yes h h').1, mul_fin (Nat.lt_of_le_of_lt (clr_le h) one_lt_inf) (Nat.lt_of_le_of_lt (clr_le h') one_lt_inf)]
  exact run_float_arith w .mul 22 .f64 _ _ _ e
theorem add_walk {x y : Nat} (h : okB x INF = true) (h' : okB y INF = true) (w : World) :
    (binOp .add 22 (.float .f64 (wv x INF)) (.float .f64 (wv y INF))).run Try.prog w = .ok (.float .f64 (pv x y)) w := by
  have e : floatBits .add .f64 (wv x INF) (wv y INF) = some (pv x y) := by
    rw [fb_add, wv_yes h, wv_yes h', (pv_yes h h').1, add_fin (clr_le h) (clr_le h')]
  exact run_float_arith w .add 22 .f64 _ _ _ e

set_option maxHeartbeats 400000 in
theorem times_any (x y : Nat) (w : World) (hx : x < W64) (hy : y < W64) :
    Calls Try.prog 9 #[.float .f64 x, .float .f64 y] w fun e w' => e = .returned (.tuple #[.float .f64 (tv x y), .int .i64 (te x y)]) ∧ w = w' := by
  by_cases h : okB x ONE = true
  · have e1 := we_yes h
    by_cases h' : okB y ONE = true
    · have e2 := we_yes h'
      have em := mul_walk h h'
      have E3 := Lib.hid (tv_yes h h').2
      go_enter Try.func9, Try.ntmps9
      go_wp2_with (go_at_call 24; refine (unit_any _ _ (by first | exact hx | exact hy)).mono ?_; rintro e w' ⟨rfl, rfl⟩)
      go_ret2
      exact ⟨tup2 rfl E3.out.symm, rfl⟩
    · have h3 : okB y ONE = false := by simpa using h'
      have e2 := we_no h3
      have E3 := Lib.hid (tv_no (x := x) (y := y) (Or.inr h3))
      go_enter Try.func9, Try.ntmps9
      go_wp2_with (go_at_call 24; refine (unit_any _ _ (by first | exact hx | exact hy)).mono ?_; rintro e w' ⟨rfl, rfl⟩)
      go_ret2
      exact ⟨tup2 E3.out.1.symm E3.out.2.symm, rfl⟩
  · have h3 : okB x ONE = false := by simpa using h
    have e1 := we_no h3
    have E3 := Lib.hid (tv_no (x := x) (y := y) (Or.inl h3))
    go_enter Try.func9, Try.ntmps9
    go_wp2_with (go_at_call 24; refine (unit_any _ _ (by first | exact hx | exact hy)).mono ?_; rintro e w' ⟨rfl, rfl⟩)
    go_ret2
    exact ⟨tup2 E3.out.1.symm E3.out.2.symm, rfl⟩

set_option maxHeartbeats 400000 in
theorem refTimes_any (x y : Nat) (w : World) (hx : x < W64) (hy : y < W64) :
    Calls Try.prog 10 #[.float .f64 x, .float .f64 y] w fun e w' => e = .returned (.tuple #[.float .f64 (tv x y), .int .i64 (te x y)]) ∧ w = w' := by
  by_cases h : okB x ONE = true
  · have e1 := we_yes h
    by_cases h' : okB y ONE = true
    · have e2 := we_yes h'
      have em := mul_walk h h'
      have E3 := Lib.hid (tv_yes h h').2
      go_enter Try.func10, Try.ntmps10
      go_wp2_with (go_at_call 25; refine (refUnit_any _ _ (by first | exact hx | exact hy)).mono ?_; rintro e w' ⟨rfl, rfl⟩)
      go_ret2
      exact ⟨tup2 rfl E3.out.symm, rfl⟩
    · have h3 : okB y ONE = false := by simpa using h'
      have e2 := we_no h3
      have E3 := Lib.hid (tv_no (x := x) (y := y) (Or.inr h3))
      go_enter Try.func10, Try.ntmps10
      go_wp2_with (go_at_call 25; refine (refUnit_any _ _ (by first | exact hx | exact hy)).mono ?_; rintro e w' ⟨rfl, rfl⟩)
      go_ret2
      exact ⟨tup2 E3.out.1.symm E3.out.2.symm, rfl⟩
  · have h3 : okB x ONE = false := by simpa using h
    have e1 := we_no h3
    have E3 := Lib.hid (tv_no (x := x) (y := y) (Or.inl h3))
    go_enter Try.func10, Try.ntmps10
    go_wp2_with (go_at_call 25; refine (refUnit_any _ _ (by first | exact hx | exact hy)).mono ?_; rintro e w' ⟨rfl, rfl⟩)
    go_ret2
    exact ⟨tup2 E3.out.1.symm E3.out.2.symm, rfl⟩

set_option maxHeartbeats 400000 in
theorem plus_any (x y : Nat) (w : World) (hx : x < W64) (hy : y < W64) :
    Calls Try.prog 11 #[.float .f64 x, .float .f64 y] w fun e w' => e = .returned (.tuple #[.float .f64 (pv x y), .int .i64 (pe x y)]) ∧ w = w' := by
  by_cases h : okB x INF = true
  · have e1 := we_yes h
    by_cases h' : okB y INF = true
    · have e2 := we_yes h'
      have em := add_walk h h'
      have E3 := Lib.hid (pv_yes h h').2
      go_enter Try.func11, Try.ntmps11
      go_wp2_with (go_at_call 26; refine (price_any _ _ (by first | exact hx | exact hy)).mono ?_; rintro e w' ⟨rfl, rfl⟩)
      go_ret2
      exact ⟨tup2 rfl E3.out.symm, rfl⟩
    · have h3 : okB y INF = false := by simpa using h'
      have e2 := we_no h3
      have E3 := Lib.hid (pv_no (x := x) (y := y) (Or.inr h3))
      go_enter Try.func11, Try.ntmps11
      go_wp2_with (go_at_call 26; refine (price_any _ _ (by first | exact hx | exact hy)).mono ?_; rintro e w' ⟨rfl, rfl⟩)
      go_ret2
      exact ⟨tup2 E3.out.1.symm E3.out.2.symm, rfl⟩
  · have h3 : okB x INF = false := by simpa using h
    have e1 := we_no h3
    have E3 := Lib.hid (pv_no (x := x) (y := y) (Or.inl h3))
    go_enter Try.func11, Try.ntmps11
    go_wp2_with (go_at_call 26; refine (price_any _ _ (by first | exact hx | exact hy)).mono ?_; rintro e w' ⟨rfl, rfl⟩)
    go_ret2
    exact ⟨tup2 E3.out.1.symm E3.out.2.symm, rfl⟩

set_option maxHeartbeats 400000 in
theorem refPlus_any (x y : Nat) (w : World) (hx : x < W64) (hy : y < W64) :
    Calls Try.prog 12 #[.float .f64 x, .float .f64 y] w fun e w' => e = .returned (.tuple #[.float .f64 (pv x y), .int .i64 (pe x y)]) ∧ w = w' := by
  by_cases h : okB x INF = true
  · have e1 := we_yes h
    by_cases h' : okB y INF = true
    · have e2 := we_yes h'
      have em := add_walk h h'
      have E3 := Lib.hid (pv_yes h h').2
      go_enter Try.func12, Try.ntmps12
      go_wp2_with (go_at_call 19; refine (refPrice_any _ _ (by first | exact hx | exact hy)).mono ?_; rintro e w' ⟨rfl, rfl⟩)
      go_ret2
      exact ⟨tup2 rfl E3.out.symm, rfl⟩
    · have h3 : okB y INF = false := by simpa using h'
      have e2 := we_no h3
      have E3 := Lib.hid (pv_no (x := x) (y := y) (Or.inr h3))
      go_enter Try.func12, Try.ntmps12
      go_wp2_with (go_at_call 19; refine (refPrice_any _ _ (by first | exact hx | exact hy)).mono ?_; rintro e w' ⟨rfl, rfl⟩)
      go_ret2
      exact ⟨tup2 E3.out.1.symm E3.out.2.symm, rfl⟩
  · have h3 : okB x INF = false := by simpa using h
    have e1 := we_no h3
    have E3 := Lib.hid (pv_no (x := x) (y := y) (Or.inl h3))
    go_enter Try.func12, Try.ntmps12
    go_wp2_with (go_at_call 19; refine (refPrice_any _ _ (by first | exact hx | exact hy)).mono ?_; rintro e w' ⟨rfl, rfl⟩)
    go_ret2
    exact ⟨tup2 E3.out.1.symm E3.out.2.symm, rfl⟩
end Go.Proofs.Ytlbakakfjcmldaa
