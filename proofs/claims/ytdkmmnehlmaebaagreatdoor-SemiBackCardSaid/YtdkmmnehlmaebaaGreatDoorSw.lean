
/- The law SemiMixed. Conditions: the table of powers is laid; the values can be read. -/
import Derived.Test.YtdkmmnehlmaebaaGreatDoorSv
namespace Go.Proofs.YtdkmmnehlmaebaaGreatDoor.Se
open Go.RowKit Go.NT Go.FT Go.FX Go.Lib Na

/-- Two values in a row of arguments. -/
theorem small2 (g : Nat) (a b : SV) (w : World) (t : Bool) (ht : Hid ((decide (a.n ≤ 60) && decide (b.n ≤ 60)) = t)) (ha : a.n ≤ 9223372036854775807) (hb : b.n ≤ 9223372036854775807)
    (k0 : w.cell? ⟨g, 2, none⟩ = some (.slice a.A a.n a.c)) (k1 : w.cell? ⟨g, 7, none⟩ = some (.slice b.A b.n b.c)) :
    Calls Tryz.prog 6 #[.slice (some ⟨g, 0, none⟩) 2 2] w fun e w' => e = .returned (.bool t) ∧ w' = w := by
  refine (small_any g (fun i => if i = 0 then a.n else b.n) (fun i => if i = 0 then a.c else b.c) (fun i => if i = 0 then a.A else b.A) 2 2 w (by omega) (by omega) ?_ ?_).mono ?_
  · intro i hi
    match i, hi with
    | 0, _ => exact k0
    | 1, _ => exact k1
  · intro i
    match i with
    | 0 => exact ha
    | _ + 1 => exact hb
  · rintro e w' ⟨rfl, rfl⟩
    refine ⟨?_, rfl⟩
    rw [← ht.out]
    congr 2
    rw [Bool.eq_iff_iff, Bool.and_eq_true, decide_eq_true_iff, decide_eq_true_iff, decide_eq_true_iff]
    constructor
    · intro h; exact ⟨h 0 (by omega), h 1 (by omega)⟩
    · rintro ⟨h0, h1⟩ i hi
      match i, hi with
      | 0, _ => exact h0
      | 1, _ => exact h1
/-- Two values in their boxes, and once more in a row of arguments. -/
theorem boxed2 {w : World} {a b : SV} (ha : a.ok w) (hb : b.ok w) (ht : Tab w) : ∀ W, W = ((w.alloc (.cells #[.int .i64 a.s, .bool a.b, .slice a.A a.n a.c, .int .i64 a.lv, .float .f64 a.x] 27)).alloc (.cells #[.int .i64 b.s, .bool b.b, .slice b.A b.n b.c, .int .i64 b.lv, .float .f64 b.x] 27)).alloc (.cells #[.int .i64 a.s, .bool a.b, .slice a.A a.n a.c, .int .i64 a.lv, .float .f64 a.x, .int .i64 b.s, .bool b.b, .slice b.A b.n b.c, .int .i64 b.lv, .float .f64 b.x] 27) →
    Five W w.heap.size a ∧ Five W (w.heap.size + 1) b ∧ Below w.heap.size w W ∧ Tab W := by
  intro W hW
  subst hW
  have h1 := below_al (below_al (below_al (Below.refl w.heap.size w) (.cells #[.int .i64 a.s, .bool a.b, .slice a.A a.n a.c, .int .i64 a.lv, .float .f64 a.x] 27)) (.cells #[.int .i64 b.s, .bool b.b, .slice b.A b.n b.c, .int .i64 b.lv, .float .f64 b.x] 27)) (.cells #[.int .i64 a.s, .bool a.b, .slice a.A a.n a.c, .int .i64 a.lv, .float .f64 a.x, .int .i64 b.s, .bool b.b, .slice b.A b.n b.c, .int .i64 b.lv, .float .f64 b.x] 27)
  have A1 := ((five_new w a ha).al (.cells #[.int .i64 b.s, .bool b.b, .slice b.A b.n b.c, .int .i64 b.lv, .float .f64 b.x] 27)).al (.cells #[.int .i64 a.s, .bool a.b, .slice a.A a.n a.c, .int .i64 a.lv, .float .f64 a.x, .int .i64 b.s, .bool b.b, .slice b.A b.n b.c, .int .i64 b.lv, .float .f64 b.x] 27)
  have B1 := (five_new _ b (hb.al (.cells #[.int .i64 a.s, .bool a.b, .slice a.A a.n a.c, .int .i64 a.lv, .float .f64 a.x] 27))).al (.cells #[.int .i64 a.s, .bool a.b, .slice a.A a.n a.c, .int .i64 a.lv, .float .f64 a.x, .int .i64 b.s, .bool b.b, .slice b.A b.n b.c, .int .i64 b.lv, .float .f64 b.x] 27)
  rw [show (w.alloc (.cells #[.int .i64 a.s, .bool a.b, .slice a.A a.n a.c, .int .i64 a.lv, .float .f64 a.x] 27)).heap.size = w.heap.size + 1 by simp] at B1
  exact ⟨A1, B1, h1, ht.below h1⟩
theorem may_is (a : SV) (w : World) (ha : a.ok w) {M : Int} (h : Hid (a.may = M)) : Calls Tryz.prog 21 #[a.v] w fun e w' => e = .returned (.int .i64 M) ∧ Below w.heap.size w w' := by
  have := may_sv a w ha
  rwa [h.out] at this
theorem rmay_is (a : SV) (w : World) (ha : a.ok w) {M : Int} (h : Hid (a.may = M)) : Calls Tryz.prog 22 #[a.v] w fun e w' => e = .returned (.int .i64 M) ∧ Below w.heap.size w w' := by
  have := rmv_sv a w ha
  rwa [h.out] at this
theorem same_no (a b : SV) (w : World) (ha : a.ok w) (hb : b.ok w) (h : Hid (sameE a b = false)) : Calls Tryz.prog 23 #[a.v, b.v] w fun e w' => e = .returned (.bool false) ∧ Below w.heap.size w w' := by
  have := same_sv a b w ha hb
  rwa [h.out] at this
theorem plus_e (a b : SV) (w : World) (N : Nat) (E : Int) (ha : a.ok w) (hb : b.ok w) (hN : max a.n b.n + 1 ≤ N) (hN2 : N ≤ 1099511627776) (h : Hid (bothE a b = E)) (hE : Hid ((E != 0) = true)) :
    Calls Tryz.prog 12 #[a.v, b.v] w fun e w' => SP w w' e noneC E N := by
  have := plus_sv a b w N ha hb hN hN2
  rwa [if_neg (by rw [h.out]; simpa using hE.out), h.out] at this
theorem times_e (a b : SV) (w : World) (N : Nat) (E : Int) (ha : a.ok w) (hb : b.ok w) (hN : a.n + b.n + 1 ≤ N) (hN2 : N ≤ 1099511627776) (h : Hid (bothE a b = E)) (hE : Hid ((E != 0) = true)) :
    Calls Tryz.prog 14 #[a.v, b.v] w fun e w' => SP w w' e noneC E N := by
  have := times_sv a b w N ha hb hN hN2
  rwa [if_neg (by rw [h.out]; simpa using hE.out), h.out] at this
theorem better_n (a b : SV) (w : World) (N : Nat) (E : Int) (ha : a.ok w) (hb : b.ok w) (hN : max a.n b.n + 1 ≤ N) (hN2 : N ≤ 1099511627776) (h : Hid (bothE a b = E)) (hE : Hid ((E != 0) = true)) :
    Calls Tryz.prog 18 #[a.v, b.v] w fun e w' => e = .returned (.tuple #[.bool false, .int .i64 E]) ∧ Below w.heap.size w w' := by
  have := better_sv a b w N ha hb hN hN2
  have e2 : (E == 0) = false := by have := hE.out; simpa [bne] using this
  rwa [h.out, e2, Bool.false_and] at this
theorem eq_no {M : Int} (h : (M != 0) = true) : (M == 0) = false := by simpa [bne] using h
theorem eq_of {M : Int} (h : (M != 0) = false) : (M == 0) = true := by simpa [bne] using h
end Go.Proofs.YtdkmmnehlmaebaaGreatDoor.Se
