
/- The walks of 'size' and 'Check'. Condition: the tree can be read. -/
import Derived.Test.YtpaehicfndkliaaGreatDoorPh
namespace Go.Proofs.YtpaehicfndkliaaGreatDoor.Pa
open Go.RowKit Go.Lib Na Go.PN

set_option maxRecDepth 100000 in
set_option maxHeartbeats 4000000 in
theorem size_1 (l : ByteArray) (A : Option Addr) (c : Nat) (mn mx : Int) (kids : Fo) (w : World)
    (HC : Hid (∀ w1, Below w.heap.size w w1 → Calls Tryz.prog 85 #[.slice A kids.len c] w1 fun e w' => e = .returned (.int .i64 (szL kids 0)) ∧ Below w1.heap.size w1 w')) :
    Calls Tryz.prog 56 #[.agg #[.int .i64 1, .string l, .slice A kids.len c, .int .i64 mn, .int .i64 mx]] w fun e w' => e = .returned (.int .i64 (sizeF 1 kids mn mx)) ∧ Below w.heap.size w w' := by
  obtain ⟨hs1, hs2⟩ := szL_rng kids 0 (by decide)
  have HB1 := Lib.hid (fun o => (Below.refl _ w).alloc (Nat.le_refl _) o)
  have HD := Lib.hid (show sizeF 1 kids mn mx = sizeI 1 (szL kids 0) mn mx from rfl)
  generalize szL kids 0 = S at *
  · have HE := Lib.hid (show sizeI 1 S mn mx = 1 from rfl)
    go_enter Tryz.func56, Tryz.ntmps56
    go_wp2_with (go_at_call 85; (with_reducible refine (HC.out _ (HB1.out _)).mono ?_); rintro e w2 ⟨rfl, hb2⟩; have hsz2 : (w.alloc (.cells #[.int .i64 1, .string l, .slice A kids.len c, .int .i64 mn, .int .i64 mx] 24)).heap.size = w.heap.size + 1 := (by simp); have hbs := hb2; rw [hsz2] at hbs; obtain ⟨hx0, hx1, hx2, hx3, hx4⟩ := box_cells _ _ _ _ _ _ _ hbs; clear hx1 hx2 hx3 hx4 hbs hsz2)
    go_ret
    exact ⟨by rw [HD.out, HE.out]; rfl, (HB1.out _).trans (hb2.mono (HB1.out _).size)⟩
set_option maxRecDepth 100000 in
set_option maxHeartbeats 4000000 in
theorem size_2 (l : ByteArray) (A : Option Addr) (c : Nat) (mn mx : Int) (kids : Fo) (w : World)
    (HC : Hid (∀ w1, Below w.heap.size w w1 → Calls Tryz.prog 85 #[.slice A kids.len c] w1 fun e w' => e = .returned (.int .i64 (szL kids 0)) ∧ Below w1.heap.size w1 w')) :
    Calls Tryz.prog 56 #[.agg #[.int .i64 2, .string l, .slice A kids.len c, .int .i64 mn, .int .i64 mx]] w fun e w' => e = .returned (.int .i64 (sizeF 2 kids mn mx)) ∧ Below w.heap.size w w' := by
  obtain ⟨hs1, hs2⟩ := szL_rng kids 0 (by decide)
  have HB1 := Lib.hid (fun o => (Below.refl _ w).alloc (Nat.le_refl _) o)
  have HD := Lib.hid (show sizeF 2 kids mn mx = sizeI 2 (szL kids 0) mn mx from rfl)
  generalize szL kids 0 = S at *
  · have HE := Lib.hid (show sizeI 2 S mn mx = 1 from rfl)
    go_enter Tryz.func56, Tryz.ntmps56
    go_wp2_with (go_at_call 85; (with_reducible refine (HC.out _ (HB1.out _)).mono ?_); rintro e w2 ⟨rfl, hb2⟩; have hsz2 : (w.alloc (.cells #[.int .i64 2, .string l, .slice A kids.len c, .int .i64 mn, .int .i64 mx] 24)).heap.size = w.heap.size + 1 := (by simp); have hbs := hb2; rw [hsz2] at hbs; obtain ⟨hx0, hx1, hx2, hx3, hx4⟩ := box_cells _ _ _ _ _ _ _ hbs; clear hx1 hx2 hx3 hx4 hbs hsz2)
    go_ret
    exact ⟨by rw [HD.out, HE.out]; rfl, (HB1.out _).trans (hb2.mono (HB1.out _).size)⟩
set_option maxRecDepth 100000 in
set_option maxHeartbeats 4000000 in
theorem size_3 (l : ByteArray) (A : Option Addr) (c : Nat) (mn mx : Int) (kids : Fo) (w : World)
    (HC : Hid (∀ w1, Below w.heap.size w w1 → Calls Tryz.prog 85 #[.slice A kids.len c] w1 fun e w' => e = .returned (.int .i64 (szL kids 0)) ∧ Below w1.heap.size w1 w')) :
    Calls Tryz.prog 56 #[.agg #[.int .i64 3, .string l, .slice A kids.len c, .int .i64 mn, .int .i64 mx]] w fun e w' => e = .returned (.int .i64 (sizeF 3 kids mn mx)) ∧ Below w.heap.size w w' := by
  obtain ⟨hs1, hs2⟩ := szL_rng kids 0 (by decide)
  have HB1 := Lib.hid (fun o => (Below.refl _ w).alloc (Nat.le_refl _) o)
  have HD := Lib.hid (show sizeF 3 kids mn mx = sizeI 3 (szL kids 0) mn mx from rfl)
  generalize szL kids 0 = S at *
  · have HE := Lib.hid (show sizeI 3 S mn mx = 1 from rfl)
    go_enter Tryz.func56, Tryz.ntmps56
    go_wp2_with (go_at_call 85; (with_reducible refine (HC.out _ (HB1.out _)).mono ?_); rintro e w2 ⟨rfl, hb2⟩; have hsz2 : (w.alloc (.cells #[.int .i64 3, .string l, .slice A kids.len c, .int .i64 mn, .int .i64 mx] 24)).heap.size = w.heap.size + 1 := (by simp); have hbs := hb2; rw [hsz2] at hbs; obtain ⟨hx0, hx1, hx2, hx3, hx4⟩ := box_cells _ _ _ _ _ _ _ hbs; clear hx1 hx2 hx3 hx4 hbs hsz2)
    go_ret
    exact ⟨by rw [HD.out, HE.out]; rfl, (HB1.out _).trans (hb2.mono (HB1.out _).size)⟩
set_option maxRecDepth 100000 in
set_option maxHeartbeats 4000000 in
theorem size_4 (l : ByteArray) (A : Option Addr) (c : Nat) (mn mx : Int) (kids : Fo) (w : World)
    (HC : Hid (∀ w1, Below w.heap.size w w1 → Calls Tryz.prog 85 #[.slice A kids.len c] w1 fun e w' => e = .returned (.int .i64 (szL kids 0)) ∧ Below w1.heap.size w1 w')) :
    Calls Tryz.prog 56 #[.agg #[.int .i64 4, .string l, .slice A kids.len c, .int .i64 mn, .int .i64 mx]] w fun e w' => e = .returned (.int .i64 (sizeF 4 kids mn mx)) ∧ Below w.heap.size w w' := by
  obtain ⟨hs1, hs2⟩ := szL_rng kids 0 (by decide)
  have HB1 := Lib.hid (fun o => (Below.refl _ w).alloc (Nat.le_refl _) o)
  have HD := Lib.hid (show sizeF 4 kids mn mx = sizeI 4 (szL kids 0) mn mx from rfl)
  generalize szL kids 0 = S at *
  by_cases hm : (1099511627776 : Int) < S + 1
  · have HE := Lib.hid (show sizeI 4 S mn mx = 1099511627776 by show min (S + 1) 1099511627776 = _; omega)
    go_enter Tryz.func56, Tryz.ntmps56
    go_wp2_with (go_at_call 85; (with_reducible refine (HC.out _ (HB1.out _)).mono ?_); rintro e w2 ⟨rfl, hb2⟩; have hsz2 : (w.alloc (.cells #[.int .i64 4, .string l, .slice A kids.len c, .int .i64 mn, .int .i64 mx] 24)).heap.size = w.heap.size + 1 := (by simp); have hbs := hb2; rw [hsz2] at hbs; obtain ⟨hx0, hx1, hx2, hx3, hx4⟩ := box_cells _ _ _ _ _ _ _ hbs; clear hx1 hx2 hx3 hx4 hbs hsz2)
    go_ret
    exact ⟨by rw [HD.out, HE.out]; rfl, (HB1.out _).trans (hb2.mono (HB1.out _).size)⟩
  · have HE := Lib.hid (show sizeI 4 S mn mx = S + 1 by show min (S + 1) 1099511627776 = _; omega)
    go_enter Tryz.func56, Tryz.ntmps56
    go_wp2_with (go_at_call 85; (with_reducible refine (HC.out _ (HB1.out _)).mono ?_); rintro e w2 ⟨rfl, hb2⟩; have hsz2 : (w.alloc (.cells #[.int .i64 4, .string l, .slice A kids.len c, .int .i64 mn, .int .i64 mx] 24)).heap.size = w.heap.size + 1 := (by simp); have hbs := hb2; rw [hsz2] at hbs; obtain ⟨hx0, hx1, hx2, hx3, hx4⟩ := box_cells _ _ _ _ _ _ _ hbs; clear hx1 hx2 hx3 hx4 hbs hsz2)
    go_ret
    exact ⟨by rw [HD.out, HE.out]; rfl, (HB1.out _).trans (hb2.mono (HB1.out _).size)⟩
set_option maxRecDepth 100000 in
set_option maxHeartbeats 4000000 in
theorem size_5 (l : ByteArray) (A : Option Addr) (c : Nat) (mn mx : Int) (kids : Fo) (w : World)
    (HC : Hid (∀ w1, Below w.heap.size w w1 → Calls Tryz.prog 85 #[.slice A kids.len c] w1 fun e w' => e = .returned (.int .i64 (szL kids 0)) ∧ Below w1.heap.size w1 w')) :
    Calls Tryz.prog 56 #[.agg #[.int .i64 5, .string l, .slice A kids.len c, .int .i64 mn, .int .i64 mx]] w fun e w' => e = .returned (.int .i64 (sizeF 5 kids mn mx)) ∧ Below w.heap.size w w' := by
  obtain ⟨hs1, hs2⟩ := szL_rng kids 0 (by decide)
  have HB1 := Lib.hid (fun o => (Below.refl _ w).alloc (Nat.le_refl _) o)
  have HD := Lib.hid (show sizeF 5 kids mn mx = sizeI 5 (szL kids 0) mn mx from rfl)
  generalize szL kids 0 = S at *
  by_cases hm : (1099511627776 : Int) < S + 1
  · have HE := Lib.hid (show sizeI 5 S mn mx = 1099511627776 by show min (S + 1) 1099511627776 = _; omega)
    go_enter Tryz.func56, Tryz.ntmps56
    go_wp2_with (go_at_call 85; (with_reducible refine (HC.out _ (HB1.out _)).mono ?_); rintro e w2 ⟨rfl, hb2⟩; have hsz2 : (w.alloc (.cells #[.int .i64 5, .string l, .slice A kids.len c, .int .i64 mn, .int .i64 mx] 24)).heap.size = w.heap.size + 1 := (by simp); have hbs := hb2; rw [hsz2] at hbs; obtain ⟨hx0, hx1, hx2, hx3, hx4⟩ := box_cells _ _ _ _ _ _ _ hbs; clear hx1 hx2 hx3 hx4 hbs hsz2)
    go_ret
    exact ⟨by rw [HD.out, HE.out]; rfl, (HB1.out _).trans (hb2.mono (HB1.out _).size)⟩
  · have HE := Lib.hid (show sizeI 5 S mn mx = S + 1 by show min (S + 1) 1099511627776 = _; omega)
    go_enter Tryz.func56, Tryz.ntmps56
    go_wp2_with (go_at_call 85; (with_reducible refine (HC.out _ (HB1.out _)).mono ?_); rintro e w2 ⟨rfl, hb2⟩; have hsz2 : (w.alloc (.cells #[.int .i64 5, .string l, .slice A kids.len c, .int .i64 mn, .int .i64 mx] 24)).heap.size = w.heap.size + 1 := (by simp); have hbs := hb2; rw [hsz2] at hbs; obtain ⟨hx0, hx1, hx2, hx3, hx4⟩ := box_cells _ _ _ _ _ _ _ hbs; clear hx1 hx2 hx3 hx4 hbs hsz2)
    go_ret
    exact ⟨by rw [HD.out, HE.out]; rfl, (HB1.out _).trans (hb2.mono (HB1.out _).size)⟩
set_option maxRecDepth 100000 in
set_option maxHeartbeats 4000000 in
theorem size_6 (l : ByteArray) (A : Option Addr) (c : Nat) (mn mx : Int) (kids : Fo) (w : World)
    (HC : Hid (∀ w1, Below w.heap.size w w1 → Calls Tryz.prog 85 #[.slice A kids.len c] w1 fun e w' => e = .returned (.int .i64 (szL kids 0)) ∧ Below w1.heap.size w1 w')) :
    Calls Tryz.prog 56 #[.agg #[.int .i64 6, .string l, .slice A kids.len c, .int .i64 mn, .int .i64 mx]] w fun e w' => e = .returned (.int .i64 (sizeF 6 kids mn mx)) ∧ Below w.heap.size w w' := by
  obtain ⟨hs1, hs2⟩ := szL_rng kids 0 (by decide)
  have HB1 := Lib.hid (fun o => (Below.refl _ w).alloc (Nat.le_refl _) o)
  have HD := Lib.hid (show sizeF 6 kids mn mx = sizeI 6 (szL kids 0) mn mx from rfl)
  generalize szL kids 0 = S at *
  by_cases hm : (1099511627776 : Int) < S + 1
  · have HE := Lib.hid (show sizeI 6 S mn mx = 1099511627776 by show min (S + 1) 1099511627776 = _; omega)
    go_enter Tryz.func56, Tryz.ntmps56
    go_wp2_with (go_at_call 85; (with_reducible refine (HC.out _ (HB1.out _)).mono ?_); rintro e w2 ⟨rfl, hb2⟩; have hsz2 : (w.alloc (.cells #[.int .i64 6, .string l, .slice A kids.len c, .int .i64 mn, .int .i64 mx] 24)).heap.size = w.heap.size + 1 := (by simp); have hbs := hb2; rw [hsz2] at hbs; obtain ⟨hx0, hx1, hx2, hx3, hx4⟩ := box_cells _ _ _ _ _ _ _ hbs; clear hx1 hx2 hx3 hx4 hbs hsz2)
    go_ret
    exact ⟨by rw [HD.out, HE.out]; rfl, (HB1.out _).trans (hb2.mono (HB1.out _).size)⟩
  · have HE := Lib.hid (show sizeI 6 S mn mx = S + 1 by show min (S + 1) 1099511627776 = _; omega)
    go_enter Tryz.func56, Tryz.ntmps56
    go_wp2_with (go_at_call 85; (with_reducible refine (HC.out _ (HB1.out _)).mono ?_); rintro e w2 ⟨rfl, hb2⟩; have hsz2 : (w.alloc (.cells #[.int .i64 6, .string l, .slice A kids.len c, .int .i64 mn, .int .i64 mx] 24)).heap.size = w.heap.size + 1 := (by simp); have hbs := hb2; rw [hsz2] at hbs; obtain ⟨hx0, hx1, hx2, hx3, hx4⟩ := box_cells _ _ _ _ _ _ _ hbs; clear hx1 hx2 hx3 hx4 hbs hsz2)
    go_ret
    exact ⟨by rw [HD.out, HE.out]; rfl, (HB1.out _).trans (hb2.mono (HB1.out _).size)⟩
set_option maxRecDepth 100000 in
set_option maxHeartbeats 4000000 in
theorem size_7 (l : ByteArray) (A : Option Addr) (c : Nat) (mn mx : Int) (kids : Fo) (w : World)
    (HC : Hid (∀ w1, Below w.heap.size w w1 → Calls Tryz.prog 85 #[.slice A kids.len c] w1 fun e w' => e = .returned (.int .i64 (szL kids 0)) ∧ Below w1.heap.size w1 w')) :
    Calls Tryz.prog 56 #[.agg #[.int .i64 7, .string l, .slice A kids.len c, .int .i64 mn, .int .i64 mx]] w fun e w' => e = .returned (.int .i64 (sizeF 7 kids mn mx)) ∧ Below w.heap.size w w' := by
  obtain ⟨hs1, hs2⟩ := szL_rng kids 0 (by decide)
  have HB1 := Lib.hid (fun o => (Below.refl _ w).alloc (Nat.le_refl _) o)
  have HD := Lib.hid (show sizeF 7 kids mn mx = sizeI 7 (szL kids 0) mn mx from rfl)
  generalize szL kids 0 = S at *
  by_cases hm : (1099511627776 : Int) < 2 * S + 2
  · have HE := Lib.hid (show sizeI 7 S mn mx = 1099511627776 by show min (2 * S + 2) 1099511627776 = _; omega)
    go_enter Tryz.func56, Tryz.ntmps56
    go_wp2_with (go_at_call 85; (with_reducible refine (HC.out _ (HB1.out _)).mono ?_); rintro e w2 ⟨rfl, hb2⟩; have hsz2 : (w.alloc (.cells #[.int .i64 7, .string l, .slice A kids.len c, .int .i64 mn, .int .i64 mx] 24)).heap.size = w.heap.size + 1 := (by simp); have hbs := hb2; rw [hsz2] at hbs; obtain ⟨hx0, hx1, hx2, hx3, hx4⟩ := box_cells _ _ _ _ _ _ _ hbs; clear hx1 hx2 hx3 hx4 hbs hsz2)
    go_ret
    exact ⟨by rw [HD.out, HE.out]; rfl, (HB1.out _).trans (hb2.mono (HB1.out _).size)⟩
  · have HE := Lib.hid (show sizeI 7 S mn mx = 2 * S + 2 by show min (2 * S + 2) 1099511627776 = _; omega)
    go_enter Tryz.func56, Tryz.ntmps56
    go_wp2_with (go_at_call 85; (with_reducible refine (HC.out _ (HB1.out _)).mono ?_); rintro e w2 ⟨rfl, hb2⟩; have hsz2 : (w.alloc (.cells #[.int .i64 7, .string l, .slice A kids.len c, .int .i64 mn, .int .i64 mx] 24)).heap.size = w.heap.size + 1 := (by simp); have hbs := hb2; rw [hsz2] at hbs; obtain ⟨hx0, hx1, hx2, hx3, hx4⟩ := box_cells _ _ _ _ _ _ _ hbs; clear hx1 hx2 hx3 hx4 hbs hsz2)
    go_ret
    exact ⟨by rw [HD.out, HE.out]; rfl, (HB1.out _).trans (hb2.mono (HB1.out _).size)⟩
set_option maxRecDepth 100000 in
set_option maxHeartbeats 4000000 in
theorem size_8 (l : ByteArray) (A : Option Addr) (c : Nat) (mn mx : Int) (kids : Fo) (w : World)
    (HC : Hid (∀ w1, Below w.heap.size w w1 → Calls Tryz.prog 85 #[.slice A kids.len c] w1 fun e w' => e = .returned (.int .i64 (szL kids 0)) ∧ Below w1.heap.size w1 w')) :
    Calls Tryz.prog 56 #[.agg #[.int .i64 8, .string l, .slice A kids.len c, .int .i64 mn, .int .i64 mx]] w fun e w' => e = .returned (.int .i64 (sizeF 8 kids mn mx)) ∧ Below w.heap.size w w' := by
  obtain ⟨hs1, hs2⟩ := szL_rng kids 0 (by decide)
  have HB1 := Lib.hid (fun o => (Below.refl _ w).alloc (Nat.le_refl _) o)
  have HD := Lib.hid (show sizeF 8 kids mn mx = sizeI 8 (szL kids 0) mn mx from rfl)
  generalize szL kids 0 = S at *
  by_cases hm : (1099511627776 : Int) < S + 2
  · have HE := Lib.hid (show sizeI 8 S mn mx = 1099511627776 by show min (S + 2) 1099511627776 = _; omega)
    go_enter Tryz.func56, Tryz.ntmps56
    go_wp2_with (go_at_call 85; (with_reducible refine (HC.out _ (HB1.out _)).mono ?_); rintro e w2 ⟨rfl, hb2⟩; have hsz2 : (w.alloc (.cells #[.int .i64 8, .string l, .slice A kids.len c, .int .i64 mn, .int .i64 mx] 24)).heap.size = w.heap.size + 1 := (by simp); have hbs := hb2; rw [hsz2] at hbs; obtain ⟨hx0, hx1, hx2, hx3, hx4⟩ := box_cells _ _ _ _ _ _ _ hbs; clear hx1 hx2 hx3 hx4 hbs hsz2)
    go_ret
    exact ⟨by rw [HD.out, HE.out]; rfl, (HB1.out _).trans (hb2.mono (HB1.out _).size)⟩
  · have HE := Lib.hid (show sizeI 8 S mn mx = S + 2 by show min (S + 2) 1099511627776 = _; omega)
    go_enter Tryz.func56, Tryz.ntmps56
    go_wp2_with (go_at_call 85; (with_reducible refine (HC.out _ (HB1.out _)).mono ?_); rintro e w2 ⟨rfl, hb2⟩; have hsz2 : (w.alloc (.cells #[.int .i64 8, .string l, .slice A kids.len c, .int .i64 mn, .int .i64 mx] 24)).heap.size = w.heap.size + 1 := (by simp); have hbs := hb2; rw [hsz2] at hbs; obtain ⟨hx0, hx1, hx2, hx3, hx4⟩ := box_cells _ _ _ _ _ _ _ hbs; clear hx1 hx2 hx3 hx4 hbs hsz2)
    go_ret
    exact ⟨by rw [HD.out, HE.out]; rfl, (HB1.out _).trans (hb2.mono (HB1.out _).size)⟩
set_option maxRecDepth 100000 in
set_option maxHeartbeats 4000000 in
theorem size_9 (l : ByteArray) (A : Option Addr) (c : Nat) (mn mx : Int) (kids : Fo) (w : World) (h1 : -9223372036854775808 ≤ mx) (h2 : mx ≤ 9223372036854775807)
    (HC : Hid (∀ w1, Below w.heap.size w w1 → Calls Tryz.prog 85 #[.slice A kids.len c] w1 fun e w' => e = .returned (.int .i64 (szL kids 0)) ∧ Below w1.heap.size w1 w')) :
    Calls Tryz.prog 56 #[.agg #[.int .i64 9, .string l, .slice A kids.len c, .int .i64 mn, .int .i64 mx]] w fun e w' => e = .returned (.int .i64 (sizeF 9 kids mn mx)) ∧ Below w.heap.size w w' := by
  obtain ⟨hs1, hs2⟩ := szL_rng kids 0 (by decide)
  have HB1 := Lib.hid (fun o => (Below.refl _ w).alloc (Nat.le_refl _) o)
  have HD := Lib.hid (show sizeF 9 kids mn mx = sizeI 9 (szL kids 0) mn mx from rfl)
  generalize szL kids 0 = S at *
  have HT := Lib.hid (fun (n : Int) (w : World) (a : -9223372036854775808 ≤ n) (b : n ≤ 9223372036854775807) => times_any n S w ⟨hs1, hs2⟩ a b)
  rcases (show (mx = -1 ∧ mn < 0) ∨ (mx = -1 ∧ 0 ≤ mn ∧ 1099511627776 < mn) ∨ (mx = -1 ∧ 0 ≤ mn ∧ mn ≤ 1099511627776) ∨ mx ≠ -1 from by omega) with ⟨h3, h4⟩ | ⟨h3, h4, h5⟩ | ⟨h3, h4, h5⟩ | h3
  · have hT : turnsI mn mx = (1 : Int) := by unfold turnsI; rw [if_pos h3]; omega
    have tm : (mx == -1) = true := by simp; omega
    have ta : mn < 0 := h4
    have hc1 : -9223372036854775808 ≤ (1 : Int) ∧ (1 : Int) ≤ 9223372036854775807 := by omega
    obtain ⟨ht1, ht2⟩ := timesI_rng (1 : Int) S ⟨hs1, hs2⟩
    have HTT := Lib.hid (fun w => HT.out (1 : Int) w hc1.1 hc1.2)
    generalize hZ : timesI (1 : Int) S = Z at *
    by_cases hm : (1099511627776 : Int) < Z + 3
    · have HE := Lib.hid (show sizeI 9 S mn mx = 1099511627776 by show min (timesI (turnsI mn mx) S + 3) 1099511627776 = _; rw [hT, hZ]; omega)
      clear h3 hT hZ hc1
      clear h1 h2
      go_enter Tryz.func56, Tryz.ntmps56
      go_wp2_with (first | (go_at_call 85; (with_reducible refine (HC.out _ (HB1.out _)).mono ?_); rintro e w2 ⟨rfl, hb2⟩; have hsz2 : (w.alloc (.cells #[.int .i64 9, .string l, .slice A kids.len c, .int .i64 mn, .int .i64 mx] 24)).heap.size = w.heap.size + 1 := (by simp); have hbs := hb2; rw [hsz2] at hbs; obtain ⟨hx0, hx1, hx2, hx3, hx4⟩ := box_cells _ _ _ _ _ _ _ hbs; clear hx1 hx2 hbs hsz2) | (go_at_call 86; (with_reducible refine (HTT.out _).mono ?_); rintro e w3 ⟨rfl, rfl⟩))
      go_ret
      exact ⟨by rw [HD.out, HE.out]; rfl, (HB1.out _).trans (hb2.mono (HB1.out _).size)⟩
    · have HE := Lib.hid (show sizeI 9 S mn mx = Z + 3 by show min (timesI (turnsI mn mx) S + 3) 1099511627776 = _; rw [hT, hZ]; omega)
      clear h3 hT hZ hc1
      clear h1 h2
      go_enter Tryz.func56, Tryz.ntmps56
      go_wp2_with (first | (go_at_call 85; (with_reducible refine (HC.out _ (HB1.out _)).mono ?_); rintro e w2 ⟨rfl, hb2⟩; have hsz2 : (w.alloc (.cells #[.int .i64 9, .string l, .slice A kids.len c, .int .i64 mn, .int .i64 mx] 24)).heap.size = w.heap.size + 1 := (by simp); have hbs := hb2; rw [hsz2] at hbs; obtain ⟨hx0, hx1, hx2, hx3, hx4⟩ := box_cells _ _ _ _ _ _ _ hbs; clear hx1 hx2 hbs hsz2) | (go_at_call 86; (with_reducible refine (HTT.out _).mono ?_); rintro e w3 ⟨rfl, rfl⟩))
      go_ret
      exact ⟨by rw [HD.out, HE.out]; rfl, (HB1.out _).trans (hb2.mono (HB1.out _).size)⟩
  · have hT : turnsI mn mx = (1099511627777 : Int) := by unfold turnsI; rw [if_pos h3]; omega
    have tm : (mx == -1) = true := by simp; omega
    have ta : ¬ mn < 0 := by omega
    have tb : 1099511627776 < mn := h5
    have hc1 : -9223372036854775808 ≤ (1099511627777 : Int) ∧ (1099511627777 : Int) ≤ 9223372036854775807 := by omega
    obtain ⟨ht1, ht2⟩ := timesI_rng (1099511627777 : Int) S ⟨hs1, hs2⟩
    have HTT := Lib.hid (fun w => HT.out (1099511627777 : Int) w hc1.1 hc1.2)
    generalize hZ : timesI (1099511627777 : Int) S = Z at *
    by_cases hm : (1099511627776 : Int) < Z + 3
    · have HE := Lib.hid (show sizeI 9 S mn mx = 1099511627776 by show min (timesI (turnsI mn mx) S + 3) 1099511627776 = _; rw [hT, hZ]; omega)
      clear h3 hT hZ hc1
      clear h1 h2
      go_enter Tryz.func56, Tryz.ntmps56
      go_wp2_with (first | (go_at_call 85; (with_reducible refine (HC.out _ (HB1.out _)).mono ?_); rintro e w2 ⟨rfl, hb2⟩; have hsz2 : (w.alloc (.cells #[.int .i64 9, .string l, .slice A kids.len c, .int .i64 mn, .int .i64 mx] 24)).heap.size = w.heap.size + 1 := (by simp); have hbs := hb2; rw [hsz2] at hbs; obtain ⟨hx0, hx1, hx2, hx3, hx4⟩ := box_cells _ _ _ _ _ _ _ hbs; clear hx1 hx2 hbs hsz2) | (go_at_call 86; (with_reducible refine (HTT.out _).mono ?_); rintro e w3 ⟨rfl, rfl⟩))
      go_ret
      exact ⟨by rw [HD.out, HE.out]; rfl, (HB1.out _).trans (hb2.mono (HB1.out _).size)⟩
    · have HE := Lib.hid (show sizeI 9 S mn mx = Z + 3 by show min (timesI (turnsI mn mx) S + 3) 1099511627776 = _; rw [hT, hZ]; omega)
      clear h3 hT hZ hc1
      clear h1 h2
      go_enter Tryz.func56, Tryz.ntmps56
      go_wp2_with (first | (go_at_call 85; (with_reducible refine (HC.out _ (HB1.out _)).mono ?_); rintro e w2 ⟨rfl, hb2⟩; have hsz2 : (w.alloc (.cells #[.int .i64 9, .string l, .slice A kids.len c, .int .i64 mn, .int .i64 mx] 24)).heap.size = w.heap.size + 1 := (by simp); have hbs := hb2; rw [hsz2] at hbs; obtain ⟨hx0, hx1, hx2, hx3, hx4⟩ := box_cells _ _ _ _ _ _ _ hbs; clear hx1 hx2 hbs hsz2) | (go_at_call 86; (with_reducible refine (HTT.out _).mono ?_); rintro e w3 ⟨rfl, rfl⟩))
      go_ret
      exact ⟨by rw [HD.out, HE.out]; rfl, (HB1.out _).trans (hb2.mono (HB1.out _).size)⟩
  · have hT : turnsI mn mx = (mn + 1) := by unfold turnsI; rw [if_pos h3]; omega
    have tm : (mx == -1) = true := by simp; omega
    have ta : ¬ mn < 0 := by omega
    have tb : ¬ (1099511627776 : Int) < mn := by omega
    have hc1 : -9223372036854775808 ≤ (mn + 1) ∧ (mn + 1) ≤ 9223372036854775807 := by omega
    obtain ⟨ht1, ht2⟩ := timesI_rng (mn + 1) S ⟨hs1, hs2⟩
    have HTT := Lib.hid (fun w => HT.out (mn + 1) w hc1.1 hc1.2)
    generalize hZ : timesI (mn + 1) S = Z at *
    by_cases hm : (1099511627776 : Int) < Z + 3
    · have HE := Lib.hid (show sizeI 9 S mn mx = 1099511627776 by show min (timesI (turnsI mn mx) S + 3) 1099511627776 = _; rw [hT, hZ]; omega)
      clear h3 hT hZ hc1
      clear h1 h2
      go_enter Tryz.func56, Tryz.ntmps56
      go_wp2_with (first | (go_at_call 85; (with_reducible refine (HC.out _ (HB1.out _)).mono ?_); rintro e w2 ⟨rfl, hb2⟩; have hsz2 : (w.alloc (.cells #[.int .i64 9, .string l, .slice A kids.len c, .int .i64 mn, .int .i64 mx] 24)).heap.size = w.heap.size + 1 := (by simp); have hbs := hb2; rw [hsz2] at hbs; obtain ⟨hx0, hx1, hx2, hx3, hx4⟩ := box_cells _ _ _ _ _ _ _ hbs; clear hx1 hx2 hbs hsz2) | (go_at_call 86; (with_reducible refine (HTT.out _).mono ?_); rintro e w3 ⟨rfl, rfl⟩))
      go_ret
      exact ⟨by rw [HD.out, HE.out]; rfl, (HB1.out _).trans (hb2.mono (HB1.out _).size)⟩
    · have HE := Lib.hid (show sizeI 9 S mn mx = Z + 3 by show min (timesI (turnsI mn mx) S + 3) 1099511627776 = _; rw [hT, hZ]; omega)
      clear h3 hT hZ hc1
      clear h1 h2
      go_enter Tryz.func56, Tryz.ntmps56
      go_wp2_with (first | (go_at_call 85; (with_reducible refine (HC.out _ (HB1.out _)).mono ?_); rintro e w2 ⟨rfl, hb2⟩; have hsz2 : (w.alloc (.cells #[.int .i64 9, .string l, .slice A kids.len c, .int .i64 mn, .int .i64 mx] 24)).heap.size = w.heap.size + 1 := (by simp); have hbs := hb2; rw [hsz2] at hbs; obtain ⟨hx0, hx1, hx2, hx3, hx4⟩ := box_cells _ _ _ _ _ _ _ hbs; clear hx1 hx2 hbs hsz2) | (go_at_call 86; (with_reducible refine (HTT.out _).mono ?_); rintro e w3 ⟨rfl, rfl⟩))
      go_ret
      exact ⟨by rw [HD.out, HE.out]; rfl, (HB1.out _).trans (hb2.mono (HB1.out _).size)⟩
  · have hT : turnsI mn mx = mx := by unfold turnsI; rw [if_neg h3]
    have tm : (mx == -1) = false := by simp; omega
    have hc1 : -9223372036854775808 ≤ mx ∧ mx ≤ 9223372036854775807 := by omega
    obtain ⟨ht1, ht2⟩ := timesI_rng mx S ⟨hs1, hs2⟩
    have HTT := Lib.hid (fun w => HT.out mx w hc1.1 hc1.2)
    generalize hZ : timesI mx S = Z at *
    by_cases hm : (1099511627776 : Int) < Z + 3
    · have HE := Lib.hid (show sizeI 9 S mn mx = 1099511627776 by show min (timesI (turnsI mn mx) S + 3) 1099511627776 = _; rw [hT, hZ]; omega)
      clear h3 hT hZ hc1
      go_enter Tryz.func56, Tryz.ntmps56
      go_wp2_with (first | (go_at_call 85; (with_reducible refine (HC.out _ (HB1.out _)).mono ?_); rintro e w2 ⟨rfl, hb2⟩; have hsz2 : (w.alloc (.cells #[.int .i64 9, .string l, .slice A kids.len c, .int .i64 mn, .int .i64 mx] 24)).heap.size = w.heap.size + 1 := (by simp); have hbs := hb2; rw [hsz2] at hbs; obtain ⟨hx0, hx1, hx2, hx3, hx4⟩ := box_cells _ _ _ _ _ _ _ hbs; clear hx1 hx2 hbs hsz2) | (go_at_call 86; (with_reducible refine (HTT.out _).mono ?_); rintro e w3 ⟨rfl, rfl⟩))
      go_ret
      exact ⟨by rw [HD.out, HE.out]; rfl, (HB1.out _).trans (hb2.mono (HB1.out _).size)⟩
    · have HE := Lib.hid (show sizeI 9 S mn mx = Z + 3 by show min (timesI (turnsI mn mx) S + 3) 1099511627776 = _; rw [hT, hZ]; omega)
      clear h3 hT hZ hc1
      go_enter Tryz.func56, Tryz.ntmps56
      go_wp2_with (first | (go_at_call 85; (with_reducible refine (HC.out _ (HB1.out _)).mono ?_); rintro e w2 ⟨rfl, hb2⟩; have hsz2 : (w.alloc (.cells #[.int .i64 9, .string l, .slice A kids.len c, .int .i64 mn, .int .i64 mx] 24)).heap.size = w.heap.size + 1 := (by simp); have hbs := hb2; rw [hsz2] at hbs; obtain ⟨hx0, hx1, hx2, hx3, hx4⟩ := box_cells _ _ _ _ _ _ _ hbs; clear hx1 hx2 hbs hsz2) | (go_at_call 86; (with_reducible refine (HTT.out _).mono ?_); rintro e w3 ⟨rfl, rfl⟩))
      go_ret
      exact ⟨by rw [HD.out, HE.out]; rfl, (HB1.out _).trans (hb2.mono (HB1.out _).size)⟩
set_option maxRecDepth 100000 in
set_option maxHeartbeats 4000000 in
theorem size_0 (k : Int) (l : ByteArray) (A : Option Addr) (c : Nat) (mn mx : Int) (kids : Fo) (w : World) (hk : k < 1 ∨ 9 < k)
    (HC : Hid (∀ w1, Below w.heap.size w w1 → Calls Tryz.prog 85 #[.slice A kids.len c] w1 fun e w' => e = .returned (.int .i64 (szL kids 0)) ∧ Below w1.heap.size w1 w')) :
    Calls Tryz.prog 56 #[.agg #[.int .i64 k, .string l, .slice A kids.len c, .int .i64 mn, .int .i64 mx]] w fun e w' => e = .returned (.int .i64 (sizeF k kids mn mx)) ∧ Below w.heap.size w w' := by
  obtain ⟨hs1, hs2⟩ := szL_rng kids 0 (by decide)
  have HB1 := Lib.hid (fun o => (Below.refl _ w).alloc (Nat.le_refl _) o)
  have HD := Lib.hid (show sizeF k kids mn mx = sizeI k (szL kids 0) mn mx from rfl)
  generalize szL kids 0 = S at *
  have HE := Lib.hid (show sizeI k S mn mx = 0 by unfold sizeI; rw [if_neg (by omega), if_neg (by omega), if_neg (by omega), if_neg (by omega), if_neg (by omega)]; rfl)
  have t1 : (k == 1) = false := by rw [beq_eq_false_iff_ne]; omega
  have t2 : (k == 2) = false := by rw [beq_eq_false_iff_ne]; omega
  have t3 : (k == 3) = false := by rw [beq_eq_false_iff_ne]; omega
  have t4 : (k == 4) = false := by rw [beq_eq_false_iff_ne]; omega
  have t5 : (k == 5) = false := by rw [beq_eq_false_iff_ne]; omega
  have t6 : (k == 6) = false := by rw [beq_eq_false_iff_ne]; omega
  have t7 : (k == 7) = false := by rw [beq_eq_false_iff_ne]; omega
  have t8 : (k == 8) = false := by rw [beq_eq_false_iff_ne]; omega
  have t9 : (k == 9) = false := by rw [beq_eq_false_iff_ne]; omega
  clear hk
  · go_enter Tryz.func56, Tryz.ntmps56
    go_wp2_with (go_at_call 85; (with_reducible refine (HC.out _ (HB1.out _)).mono ?_); rintro e w2 ⟨rfl, hb2⟩; have hsz2 : (w.alloc (.cells #[.int .i64 k, .string l, .slice A kids.len c, .int .i64 mn, .int .i64 mx] 24)).heap.size = w.heap.size + 1 := (by simp); have hbs := hb2; rw [hsz2] at hbs; obtain ⟨hx0, hx1, hx2, hx3, hx4⟩ := box_cells _ _ _ _ _ _ _ hbs; clear hx1 hx2 hx3 hx4 hbs hsz2)
    go_ret
    exact ⟨by rw [HD.out, HE.out]; rfl, (HB1.out _).trans (hb2.mono (HB1.out _).size)⟩
theorem size_n (n : Nat) : ∀ (a : Nd) (X : List Nat) (w : World), a.kids.sz < n → a.ok w X → Bd (a.fo .nil) →
    Calls Tryz.prog 56 #[a.v] w fun e w' => e = .returned (.int .i64 (sizeF a.k a.kids a.mn a.mx)) ∧ Below w.heap.size w w' := by
  induction n with
  | zero => intro a X w hn; omega
  | succ n ih =>
    intro a X w hn hok hbd
    obtain ⟨k, l, A, c, mn, mx, kids⟩ := a
    have HC := Lib.hid (fun (w1 : World) (hb1 : Below w.heap.size w w1) => sizes_of n ih kids A c X w1 (Nat.le_of_lt_succ hn) hok.1 hok.2.1 (hok.2.2.below hb1) hbd.2.2.1)
    have h1 := hbd.2.1.1
    have h2 := hbd.2.1.2
    clear hok ih hn hbd
    unfold Nd.v
    rcases (show k = 1 ∨ k = 2 ∨ k = 3 ∨ k = 4 ∨ k = 5 ∨ k = 6 ∨ k = 7 ∨ k = 8 ∨ k = 9 ∨ (k < 1 ∨ 9 < k) from by omega) with rfl | rfl | rfl | rfl | rfl | rfl | rfl | rfl | rfl | h
    · exact size_1 l A c mn mx kids w HC
    · exact size_2 l A c mn mx kids w HC
    · exact size_3 l A c mn mx kids w HC
    · exact size_4 l A c mn mx kids w HC
    · exact size_5 l A c mn mx kids w HC
    · exact size_6 l A c mn mx kids w HC
    · exact size_7 l A c mn mx kids w HC
    · exact size_8 l A c mn mx kids w HC
    · exact size_9 l A c mn mx kids w h1 h2 HC
    · exact size_0 k l A c mn mx kids w h HC
/-- Why a path may not be. -/
def checkE (k : Int) (l : ByteArray) (d : Fo) (mn mx : Int) : Int :=
  if 20 < dp d 1 then 4 else if allE k l d mn mx ≠ 0 then allE k l d mn mx else if 60 < sizeF k d mn mx then 5 else 0
set_option maxRecDepth 100000 in
set_option maxHeartbeats 4000000 in
theorem check_any (a : Nd) (X : List Nat) (w : World) (h : a.ok w X) (hbd : Bd (a.fo .nil)) : Calls Tryz.prog 25 #[a.v] w fun e w' => e = .returned (.int .i64 (checkE a.k a.l a.kids a.mn a.mx)) ∧ Below w.heap.size w w' := by
  have HD := Lib.hid (fun (w1 : World) (hb : Below w.heap.size w w1) => Deep_any a X w1 (h.below hb))
  have HA := Lib.hid (fun (w1 : World) (hb : Below w.heap.size w w1) => all_n (a.kids.sz + 1) a X w1 (by omega) (h.below hb))
  have HS := Lib.hid (fun (w1 : World) (hb : Below w.heap.size w w1) => size_n (a.kids.sz + 1) a X w1 (by omega) (h.below hb) hbd)
  obtain ⟨k, l, A, c, mn, mx, kids⟩ := a
  unfold Nd.v at *
  simp only at HD HA HS ⊢
  have HB1 := Lib.hid ((Below.refl _ w).alloc (Nat.le_refl _) (.cells #[.int .i64 k, .string l, .slice A kids.len c, .int .i64 mn, .int .i64 mx] 24))
  have HX := Lib.hid (fun (w2 : World) (hb : Below (w.heap.size + 1) (w.alloc (.cells #[.int .i64 k, .string l, .slice A kids.len c, .int .i64 mn, .int .i64 mx] 24)) w2) => box_cells k l A kids.len c mn mx hb)
  have HX2 := Lib.hid (fun (w2 : World) (hb : Below (w.heap.size + 1) (w.alloc (.cells #[.int .i64 k, .string l, .slice A kids.len c, .int .i64 mn, .int .i64 mx] 24)) w2) => box_below hb)
  have hsz2 : (w.alloc (.cells #[.int .i64 k, .string l, .slice A kids.len c, .int .i64 mn, .int .i64 mx] 24)).heap.size = w.heap.size + 1 := by simp
  have HZ := Lib.hid hsz2
  have HE := Lib.hid (show checkE k l kids mn mx = (if 20 < dp kids 1 then 4 else if allE k l kids mn mx ≠ 0 then allE k l kids mn mx else if 60 < sizeF k kids mn mx then 5 else 0) from rfl)
  have hd := dp_rng kids 1
  generalize dp kids 1 = D at *
  generalize allE k l kids mn mx = E at *
  obtain ⟨hs1, hs2⟩ := sizeF_rng k kids mn mx
  generalize sizeF k kids mn mx = Z at *
  clear h hbd hsz2
  by_cases t1 : 20 < D
  · have d1 : decide (D > 20) = true := decide_eq_true t1
    rw [if_pos t1] at HE
    go_enter Tryz.func25, Tryz.ntmps25
    go_wp2_with (go_at_call 54; (with_reducible refine (HD.out _ HB1.out).mono ?_); rintro e w1 ⟨rfl, hb1⟩; have hb1 := Lib.hid (HZ.out ▸ hb1); obtain ⟨hx0, hx1, hx2, hx3, hx4⟩ := HX.out _ hb1.out)
    go_ret
    exact ⟨by rw [HE.out]; rfl, HX2.out _ hb1.out⟩
  · have d1 : decide (D > 20) = false := decide_eq_false t1
    rw [if_neg t1] at HE
    cases t2 : E != 0
    · rw [if_neg (by simpa using t2)] at HE
      by_cases t3 : 60 < Z
      · have d3 : decide (Z > 60) = true := decide_eq_true t3
        rw [if_pos t3] at HE
        go_enter Tryz.func25, Tryz.ntmps25
        go_wp2_with (first | (go_at_call 54; (with_reducible refine (HD.out _ HB1.out).mono ?_); rintro e w1 ⟨rfl, hb1⟩; have hb1 := Lib.hid (HZ.out ▸ hb1); obtain ⟨hx0, hx1, hx2, hx3, hx4⟩ := HX.out _ hb1.out) | (go_at_call 55; (with_reducible refine (HA.out _ (HX2.out _ hb1.out)).mono ?_); rintro e w2 ⟨rfl, hb2⟩; have hb2 := Lib.hid (hb1.out.trans (hb2.mono (Nat.le_trans (Nat.le_of_eq HZ.out.symm) hb1.out.size))); clear hx0 hx1 hx2 hx3 hx4; obtain ⟨hx0, hx1, hx2, hx3, hx4⟩ := HX.out _ hb2.out) | (go_at_call 56; (with_reducible refine (HS.out _ (HX2.out _ hb2.out)).mono ?_); rintro e w3 ⟨rfl, hb3⟩; have hb3 := Lib.hid (hb2.out.trans (hb3.mono (Nat.le_trans (Nat.le_of_eq HZ.out.symm) hb2.out.size)))))
        go_ret
        exact ⟨by rw [HE.out]; rfl, HX2.out _ hb3.out⟩
      · have d3 : decide (Z > 60) = false := decide_eq_false t3
        rw [if_neg t3] at HE
        go_enter Tryz.func25, Tryz.ntmps25
        go_wp2_with (first | (go_at_call 54; (with_reducible refine (HD.out _ HB1.out).mono ?_); rintro e w1 ⟨rfl, hb1⟩; have hb1 := Lib.hid (HZ.out ▸ hb1); obtain ⟨hx0, hx1, hx2, hx3, hx4⟩ := HX.out _ hb1.out) | (go_at_call 55; (with_reducible refine (HA.out _ (HX2.out _ hb1.out)).mono ?_); rintro e w2 ⟨rfl, hb2⟩; have hb2 := Lib.hid (hb1.out.trans (hb2.mono (Nat.le_trans (Nat.le_of_eq HZ.out.symm) hb1.out.size))); clear hx0 hx1 hx2 hx3 hx4; obtain ⟨hx0, hx1, hx2, hx3, hx4⟩ := HX.out _ hb2.out) | (go_at_call 56; (with_reducible refine (HS.out _ (HX2.out _ hb2.out)).mono ?_); rintro e w3 ⟨rfl, hb3⟩; have hb3 := Lib.hid (hb2.out.trans (hb3.mono (Nat.le_trans (Nat.le_of_eq HZ.out.symm) hb2.out.size)))))
        go_ret
        exact ⟨by rw [HE.out]; rfl, HX2.out _ hb3.out⟩
    · rw [if_pos (by simpa using t2)] at HE
      go_enter Tryz.func25, Tryz.ntmps25
      go_wp2_with (first | (go_at_call 54; (with_reducible refine (HD.out _ HB1.out).mono ?_); rintro e w1 ⟨rfl, hb1⟩; have hb1 := Lib.hid (HZ.out ▸ hb1); obtain ⟨hx0, hx1, hx2, hx3, hx4⟩ := HX.out _ hb1.out) | (go_at_call 55; (with_reducible refine (HA.out _ (HX2.out _ hb1.out)).mono ?_); rintro e w2 ⟨rfl, hb2⟩; have hb2 := Lib.hid (hb1.out.trans (hb2.mono (Nat.le_trans (Nat.le_of_eq HZ.out.symm) hb1.out.size))); clear hx0 hx1 hx2 hx3 hx4; obtain ⟨hx0, hx1, hx2, hx3, hx4⟩ := HX.out _ hb2.out))
      go_ret
      exact ⟨by rw [HE.out]; rfl, HX2.out _ hb2.out⟩
end Go.Proofs.YtpaehicfndkliaaGreatDoor.Pa
