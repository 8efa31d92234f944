/- The law SemiMixed. Conditions: the table of powers is laid; the values can be read. -/
import Derived.Test.YtdkmmnehlmaebaaDoorSv
namespace Go.Proofs.YtdkmmnehlmaebaaDoor.Se
open Go.RowKit Go.NT Go.FT Go.FX Go.Lib Na

/-- Two values in a row of arguments. -/
theorem small2 (g : Nat) (a b : SV) (w : World) (t : Bool) (ht : Hid ((decide (a.n ≤ 60) && decide (b.n ≤ 60)) = t)) (ha : a.n ≤ 9223372036854775807) (hb : b.n ≤ 9223372036854775807)
    (k0 : w.cell? ⟨g, 2, none⟩ = some (.slice a.A a.n a.c)) (k1 : w.cell? ⟨g, 7, none⟩ = some (.slice b.A b.n b.c)) :
    Calls Tryd.prog 12 #[.slice (some ⟨g, 0, none⟩) 2 2] w fun e w' => e = .returned (.bool t) ∧ w' = w := by
  refine (small_any g (fun i => if i = 0 then a.n else b.n) (fun i => if i = 0 then a.c else b.c) (fun i => if i = 0 then a.A else b.A) 2 2 w (by omega) (by omega) ?_ ?_).mono ?_
  · intro i hi
    match i, hi with
    | 0, _ => exact k0
    | 1, _ => exact k1
  · intro i
    match i with
    | 0 => exact ha
    | _ + 1 => exact hb
  · rintro e w' ⟨rfl, rfl⟩
    refine ⟨?_, rfl⟩
    rw [← ht.out]
    congr 2
    rw [Bool.eq_iff_iff, Bool.and_eq_true, decide_eq_true_iff, decide_eq_true_iff, decide_eq_true_iff]
    constructor
    · intro h; exact ⟨h 0 (by omega), h 1 (by omega)⟩
    · rintro ⟨h0, h1⟩ i hi
      match i, hi with
      | 0, _ => exact h0
      | 1, _ => exact h1
/-- Two values in their boxes, and once more in a row of arguments. -/
theorem boxed2 {w : World} {a b : SV} (ha : a.ok w) (hb : b.ok w) (ht : Tab w) : ∀ W, W = ((w.alloc (.cells #[.int .i64 a.s, .bool a.b, .slice a.A a.n a.c, .int .i64 a.lv, .float .f64 a.x] 27)).alloc (.cells #[.int .i64 b.s, .bool b.b, .slice b.A b.n b.c, .int .i64 b.lv, .float .f64 b.x] 27)).alloc (.cells #[.int .i64 a.s, .bool a.b, .slice a.A a.n a.c, .int .i64 a.lv, .float .f64 a.x, .int .i64 b.s, .bool b.b, .slice b.A b.n b.c, .int .i64 b.lv, .float .f64 b.x] 27) →
    Five W w.heap.size a ∧ Five W (w.heap.size + 1) b ∧ Below w.heap.size w W ∧ Tab W := by
  intro W hW
  subst hW
  have h1 := below_al (below_al (below_al (Below.refl w.heap.size w) (.cells #[.int .i64 a.s, .bool a.b, .slice a.A a.n a.c, .int .i64 a.lv, .float .f64 a.x] 27)) (.cells #[.int .i64 b.s, .bool b.b, .slice b.A b.n b.c, .int .i64 b.lv, .float .f64 b.x] 27)) (.cells #[.int .i64 a.s, .bool a.b, .slice a.A a.n a.c, .int .i64 a.lv, .float .f64 a.x, .int .i64 b.s, .bool b.b, .slice b.A b.n b.c, .int .i64 b.lv, .float .f64 b.x] 27)
  have A1 := ((five_new w a ha).al (.cells #[.int .i64 b.s, .bool b.b, .slice b.A b.n b.c, .int .i64 b.lv, .float .f64 b.x] 27)).al (.cells #[.int .i64 a.s, .bool a.b, .slice a.A a.n a.c, .int .i64 a.lv, .float .f64 a.x, .int .i64 b.s, .bool b.b, .slice b.A b.n b.c, .int .i64 b.lv, .float .f64 b.x] 27)
  have B1 := (five_new _ b (hb.al (.cells #[.int .i64 a.s, .bool a.b, .slice a.A a.n a.c, .int .i64 a.lv, .float .f64 a.x] 27))).al (.cells #[.int .i64 a.s, .bool a.b, .slice a.A a.n a.c, .int .i64 a.lv, .float .f64 a.x, .int .i64 b.s, .bool b.b, .slice b.A b.n b.c, .int .i64 b.lv, .float .f64 b.x] 27)
  rw [show (w.alloc (.cells #[.int .i64 a.s, .bool a.b, .slice a.A a.n a.c, .int .i64 a.lv, .float .f64 a.x] 27)).heap.size = w.heap.size + 1 by simp] at B1
  exact ⟨A1, B1, h1, ht.below h1⟩
theorem may_is (a : SV) (w : World) (ha : a.ok w) {M : Int} (h : Hid (a.may = M)) : Calls Tryd.prog 32 #[a.v] w fun e w' => e = .returned (.int .i64 M) ∧ Below w.heap.size w w' := by
  have := may_sv a w ha
  rwa [h.out] at this
theorem rmay_is (a : SV) (w : World) (ha : a.ok w) {M : Int} (h : Hid (a.may = M)) : Calls Tryd.prog 15 #[a.v] w fun e w' => e = .returned (.int .i64 M) ∧ Below w.heap.size w w' := by
  have := rmv_sv a w ha
  rwa [h.out] at this
theorem same_no (a b : SV) (w : World) (ha : a.ok w) (hb : b.ok w) (h : Hid (sameE a b = false)) : Calls Tryd.prog 19 #[a.v, b.v] w fun e w' => e = .returned (.bool false) ∧ Below w.heap.size w w' := by
  have := same_sv a b w ha hb
  rwa [h.out] at this
theorem plus_e (a b : SV) (w : World) (N : Nat) (E : Int) (ha : a.ok w) (hb : b.ok w) (hN : max a.n b.n + 1 ≤ N) (hN2 : N ≤ 1099511627776) (h : Hid (bothE a b = E)) (hE : Hid ((E != 0) = true)) :
    Calls Tryd.prog 18 #[a.v, b.v] w fun e w' => SP w w' e noneC E N := by
  have := plus_sv a b w N ha hb hN hN2
  rwa [if_neg (by rw [h.out]; simpa using hE.out), h.out] at this
theorem times_e (a b : SV) (w : World) (N : Nat) (E : Int) (ha : a.ok w) (hb : b.ok w) (hN : a.n + b.n + 1 ≤ N) (hN2 : N ≤ 1099511627776) (h : Hid (bothE a b = E)) (hE : Hid ((E != 0) = true)) :
    Calls Tryd.prog 17 #[a.v, b.v] w fun e w' => SP w w' e noneC E N := by
  have := times_sv a b w N ha hb hN hN2
  rwa [if_neg (by rw [h.out]; simpa using hE.out), h.out] at this
theorem better_n (a b : SV) (w : World) (N : Nat) (E : Int) (ha : a.ok w) (hb : b.ok w) (hN : max a.n b.n + 1 ≤ N) (hN2 : N ≤ 1099511627776) (h : Hid (bothE a b = E)) (hE : Hid ((E != 0) = true)) :
    Calls Tryd.prog 31 #[a.v, b.v] w fun e w' => e = .returned (.tuple #[.bool false, .int .i64 E]) ∧ Below w.heap.size w w' := by
  have := better_sv a b w N ha hb hN hN2
  have e2 : (E == 0) = false := by have := hE.out; simpa [bne] using this
  rwa [h.out, e2, Bool.false_and] at this
set_option maxRecDepth 100000 in
set_option maxHeartbeats 4000000 in
theorem mixed_big (a b : SV) (w : World) (ht : Tab w) (ha : a.ok w) (hb : b.ok w) (hs : (decide (a.n ≤ 60) && decide (b.n ≤ 60)) = false) :
    Calls Tryd.prog 9 #[a.v, b.v] w fun e w' => e = .returned (.bool true) ∧ Below w.heap.size w w' := by
  have hs' := Lib.hid hs
  have hna := ha.1.2.2.2
  have hnb := hb.1.2.2.2
  have h2 := Lib.hid (boxed2 ha hb ht _ rfl)
  have Fa := Lib.hid h2.out.1
  have Fb := Lib.hid h2.out.2.1
  have BB := Lib.hid h2.out.2.2.1
  have TT := Lib.hid h2.out.2.2.2
  clear hs ha hb ht h2
  unfold SV.v
  go_enter Tryd.func9, Tryd.ntmps9
  go_wp2_with (first
    | (go_at_call 12; (with_reducible refine (small2 _ a b _ false hs' hna hnb (by go_simp) (by go_simp)).mono ?_); rintro e w1 ⟨rfl, rfl⟩)
    | (go_at_call 13; (with_reducible refine (awake_any _ TT.out).mono ?_); rintro e wz ⟨rfl, hbz⟩))
  go_ret
  exact ⟨rfl, below_go BB.out hbz⟩
set_option maxRecDepth 100000 in
set_option maxHeartbeats 4000000 in
theorem mixed_good (a b : SV) (w : World) (ht : Tab w) (ha : a.ok w) (hb : b.ok w) (hs : (decide (a.n ≤ 60) && decide (b.n ≤ 60)) = true) (h1 : Hid (bothE a b = 0)) (t1 : (a.s == b.s) = true) :
    Calls Tryd.prog 9 #[a.v, b.v] w fun e w' => e = .returned (.bool true) ∧ Below w.heap.size w w' := by
  have hs' := Lib.hid hs
  have hna := ha.1.2.2.2
  have hnb := hb.1.2.2.2
  have h2 := Lib.hid (boxed2 ha hb ht _ rfl)
  have Fa := Lib.hid h2.out.1
  have Fb := Lib.hid h2.out.2.1
  have BB := Lib.hid h2.out.2.2.1
  have TT := Lib.hid h2.out.2.2.2
  have hN3 := hs
  rw [Bool.and_eq_true, decide_eq_true_iff, decide_eq_true_iff] at hN3
  have N60 := Lib.hid hN3
  have Nab := Lib.hid (show max a.n b.n + 1 ≤ 64 by have := N60.out; omega)
  have Nat' := Lib.hid (show a.n + b.n + 1 ≤ 121 by have := N60.out; omega)
  have N64 : 64 ≤ 1099511627776 := by decide
  have N121 : 121 ≤ 1099511627776 := by decide
  have M1 := Lib.hid (bothE_zero.1 h1.out)
  have Ma := Lib.hid M1.out.1
  have Mb := Lib.hid M1.out.2.1
  obtain ⟨K, hK⟩ : ∃ K, betterC a.con b.con = K := ⟨_, rfl⟩
  have HK := Lib.hid hK
  clear hK hN3 hs ha hb ht h2
  unfold SV.v
  go_enter Tryd.func9, Tryd.ntmps9
  go_wp2_with (first
    | (go_at_call 12; (with_reducible refine (small2 _ a b _ true hs' hna hnb (by go_simp) (by go_simp)).mono ?_); rintro e w1 ⟨rfl, rfl⟩)
    | (go_at_call 18; (with_reducible refine (plus_at a b _ 64 Fa.out.ok Fb.out.ok Nab.out N64 h1).mono ?_); rintro e wx ⟨x, rfl, xok, xC, xc, xn, hbx⟩; have Hxok := Lib.hid xok; have hxs : (x.s == a.s) = true := (by rw [beq_iff_eq]; exact (con_s xC.out).trans (plusC_s _ _)); have hxm := Lib.hid (may_at xok xc.out xC.out (may_plusC h1.out)); have Fa := Lib.hid ((Fa.out.go hbx).al (.cells #[.int .i64 x.s, .bool x.b, .slice x.A x.n x.c, .int .i64 x.lv, .float .f64 x.x] 27)); have Fb := Lib.hid ((Fb.out.go hbx).al (.cells #[.int .i64 x.s, .bool x.b, .slice x.A x.n x.c, .int .i64 x.lv, .float .f64 x.x] 27)); have BB := Lib.hid (below_al (below_go BB.out hbx) (.cells #[.int .i64 x.s, .bool x.b, .slice x.A x.n x.c, .int .i64 x.lv, .float .f64 x.x] 27)); have TT := Lib.hid ((TT.out.below hbx).below (below_al (Below.refl _ _) (.cells #[.int .i64 x.s, .bool x.b, .slice x.A x.n x.c, .int .i64 x.lv, .float .f64 x.x] 27))); have Fx := Lib.hid (five_new _ x Hxok.out); obtain ⟨c1_0, c1_1, c1_2, c1_3, c1_4, c1_5, _⟩ := Fa.out; obtain ⟨c2_0, c2_1, c2_2, c2_3, c2_4, c2_5, _⟩ := Fb.out; obtain ⟨c3_0, c3_1, c3_2, c3_3, c3_4, c3_5, _⟩ := Fx.out)
    | (go_at_call 17; (with_reducible refine (times_at a b _ 121 Fa.out.ok Fb.out.ok Nat'.out N121 h1).mono ?_); rintro e wy ⟨y, rfl, yok, yC, yc, yn, hby⟩; have Hyok := Lib.hid yok; have hys : (y.s == a.s) = true := (by rw [beq_iff_eq]; exact (con_s yC.out).trans (timesC_s _ _)); have hym := Lib.hid (may_at yok yc.out yC.out (may_timesC h1.out)); have Fa := Lib.hid ((Fa.out.go hby).al (.cells #[.int .i64 y.s, .bool y.b, .slice y.A y.n y.c, .int .i64 y.lv, .float .f64 y.x] 27)); have Fb := Lib.hid ((Fb.out.go hby).al (.cells #[.int .i64 y.s, .bool y.b, .slice y.A y.n y.c, .int .i64 y.lv, .float .f64 y.x] 27)); have Fx := Lib.hid ((Fx.out.go hby).al (.cells #[.int .i64 y.s, .bool y.b, .slice y.A y.n y.c, .int .i64 y.lv, .float .f64 y.x] 27)); have BB := Lib.hid (below_al (below_go BB.out hby) (.cells #[.int .i64 y.s, .bool y.b, .slice y.A y.n y.c, .int .i64 y.lv, .float .f64 y.x] 27)); have TT := Lib.hid ((TT.out.below hby).below (below_al (Below.refl _ _) (.cells #[.int .i64 y.s, .bool y.b, .slice y.A y.n y.c, .int .i64 y.lv, .float .f64 y.x] 27))); have Fy := Lib.hid (five_new _ y Hyok.out); obtain ⟨c4_0, c4_1, c4_2, c4_3, c4_4, c4_5, _⟩ := Fa.out; obtain ⟨c5_0, c5_1, c5_2, c5_3, c5_4, c5_5, _⟩ := Fb.out; obtain ⟨c6_0, c6_1, c6_2, c6_3, c6_4, c6_5, _⟩ := Fx.out; obtain ⟨c7_0, c7_1, c7_2, c7_3, c7_4, c7_5, _⟩ := Fy.out)
    | (go_at_call 31; (with_reducible refine (better_at a b _ 64 K Fa.out.ok Fb.out.ok Nab.out N64 h1 HK).mono ?_); rintro e wk ⟨rfl, hbwk⟩; have Fa := Lib.hid (Fa.out.go hbwk); have Fb := Lib.hid (Fb.out.go hbwk); have Fx := Lib.hid (Fx.out.go hbwk); have Fy := Lib.hid (Fy.out.go hbwk); have BB := Lib.hid (below_go BB.out hbwk); have TT := Lib.hid (TT.out.below hbwk); obtain ⟨c8_0, c8_1, c8_2, c8_3, c8_4, c8_5, _⟩ := Fa.out; obtain ⟨c9_0, c9_1, c9_2, c9_3, c9_4, c9_5, _⟩ := Fb.out; obtain ⟨c10_0, c10_1, c10_2, c10_3, c10_4, c10_5, _⟩ := Fx.out; obtain ⟨c11_0, c11_1, c11_2, c11_3, c11_4, c11_5, _⟩ := Fy.out)
    | (go_at_call 32; (with_reducible refine (may_is a _ Fa.out.ok Ma).mono ?_); rintro e wa ⟨rfl, hbwa⟩; have Fa := Lib.hid (Fa.out.go hbwa); have Fb := Lib.hid (Fb.out.go hbwa); have Fx := Lib.hid (Fx.out.go hbwa); have Fy := Lib.hid (Fy.out.go hbwa); have BB := Lib.hid (below_go BB.out hbwa); have TT := Lib.hid (TT.out.below hbwa); obtain ⟨c12_0, c12_1, c12_2, c12_3, c12_4, c12_5, _⟩ := Fa.out; obtain ⟨c13_0, c13_1, c13_2, c13_3, c13_4, c13_5, _⟩ := Fb.out; obtain ⟨c14_0, c14_1, c14_2, c14_3, c14_4, c14_5, _⟩ := Fx.out; obtain ⟨c15_0, c15_1, c15_2, c15_3, c15_4, c15_5, _⟩ := Fy.out)
    | (go_at_call 32; (with_reducible refine (may_is b _ Fb.out.ok Mb).mono ?_); rintro e wb ⟨rfl, hbwb⟩; have Fa := Lib.hid (Fa.out.go hbwb); have Fb := Lib.hid (Fb.out.go hbwb); have Fx := Lib.hid (Fx.out.go hbwb); have Fy := Lib.hid (Fy.out.go hbwb); have BB := Lib.hid (below_go BB.out hbwb); have TT := Lib.hid (TT.out.below hbwb); obtain ⟨c16_0, c16_1, c16_2, c16_3, c16_4, c16_5, _⟩ := Fa.out; obtain ⟨c17_0, c17_1, c17_2, c17_3, c17_4, c17_5, _⟩ := Fb.out; obtain ⟨c18_0, c18_1, c18_2, c18_3, c18_4, c18_5, _⟩ := Fx.out; obtain ⟨c19_0, c19_1, c19_2, c19_3, c19_4, c19_5, _⟩ := Fy.out)
    | (go_at_call 32; (with_reducible refine (may_is x _ Fx.out.ok hxm).mono ?_); rintro e wc ⟨rfl, hbwc⟩; have Fa := Lib.hid (Fa.out.go hbwc); have Fb := Lib.hid (Fb.out.go hbwc); have Fx := Lib.hid (Fx.out.go hbwc); have Fy := Lib.hid (Fy.out.go hbwc); have BB := Lib.hid (below_go BB.out hbwc); have TT := Lib.hid (TT.out.below hbwc); obtain ⟨c20_0, c20_1, c20_2, c20_3, c20_4, c20_5, _⟩ := Fa.out; obtain ⟨c21_0, c21_1, c21_2, c21_3, c21_4, c21_5, _⟩ := Fb.out; obtain ⟨c22_0, c22_1, c22_2, c22_3, c22_4, c22_5, _⟩ := Fx.out; obtain ⟨c23_0, c23_1, c23_2, c23_3, c23_4, c23_5, _⟩ := Fy.out)
    | (go_at_call 32; (with_reducible refine (may_is y _ Fy.out.ok hym).mono ?_); rintro e wd ⟨rfl, hbwd⟩; have Fa := Lib.hid (Fa.out.go hbwd); have Fb := Lib.hid (Fb.out.go hbwd); have Fx := Lib.hid (Fx.out.go hbwd); have Fy := Lib.hid (Fy.out.go hbwd); have BB := Lib.hid (below_go BB.out hbwd); have TT := Lib.hid (TT.out.below hbwd); obtain ⟨c24_0, c24_1, c24_2, c24_3, c24_4, c24_5, _⟩ := Fa.out; obtain ⟨c25_0, c25_1, c25_2, c25_3, c25_4, c25_5, _⟩ := Fb.out; obtain ⟨c26_0, c26_1, c26_2, c26_3, c26_4, c26_5, _⟩ := Fx.out; obtain ⟨c27_0, c27_1, c27_2, c27_3, c27_4, c27_5, _⟩ := Fy.out)
    | (go_at_call 13; (with_reducible refine (awake_any _ TT.out).mono ?_); rintro e wz ⟨rfl, hbz⟩))
  go_ret
  exact ⟨rfl, below_go BB.out hbz⟩
set_option linter.unusedSimpArgs false in
set_option maxRecDepth 100000 in
set_option maxHeartbeats 4000000 in
theorem mixed_bad1 (a b : SV) (w : World) (ht : Tab w) (ha : a.ok w) (hb : b.ok w) (hs : (decide (a.n ≤ 60) && decide (b.n ≤ 60)) = true) (E Ma Mb : Int) (h1 : Hid (bothE a b = E)) (hE : (E != 0) = true) (hE2 : (E == 0) = false) (H1 : Hid (a.may = Ma)) (H2 : Hid (b.may = Mb)) (hA : (Ma != 0) = true) (hA2 : (Ma == 0) = false) :
    Calls Tryd.prog 9 #[a.v, b.v] w fun e w' => e = .returned (.bool true) ∧ Below w.heap.size w w' := by
  have hs' := Lib.hid hs
  have hna := ha.1.2.2.2
  have hnb := hb.1.2.2.2
  have h2 := Lib.hid (boxed2 ha hb ht _ rfl)
  have Fa := Lib.hid h2.out.1
  have Fb := Lib.hid h2.out.2.1
  have BB := Lib.hid h2.out.2.2.1
  have TT := Lib.hid h2.out.2.2.2
  have hN3 := hs
  rw [Bool.and_eq_true, decide_eq_true_iff, decide_eq_true_iff] at hN3
  have N60 := Lib.hid hN3
  have Nab := Lib.hid (show max a.n b.n + 1 ≤ 64 by have := N60.out; omega)
  have Nat' := Lib.hid (show a.n + b.n + 1 ≤ 121 by have := N60.out; omega)
  have N64 : 64 ≤ 1099511627776 := by decide
  have N121 : 121 ≤ 1099511627776 := by decide
  have HE := Lib.hid hE
  have HS := Lib.hid (show sameE a b = false by unfold sameE; rw [h1.out, hE2]; rfl)
  clear hN3 hs ha hb ht h2
  unfold SV.v
  go_enter Tryd.func9, Tryd.ntmps9
  go_wp2_with (first
    | (go_at_call 12; (with_reducible refine (small2 _ a b _ true hs' hna hnb (by go_simp) (by go_simp)).mono ?_); rintro e w1 ⟨rfl, rfl⟩)
    | (go_at_call 18; (with_reducible refine (plus_e a b _ 64 E Fa.out.ok Fb.out.ok Nab.out N64 h1 HE).mono ?_); rintro e wx ⟨x, rfl, xok, xC, xc, xn, hbx⟩; have Hxok := Lib.hid xok; have Fa := Lib.hid ((Fa.out.go hbx).al (.cells #[.int .i64 x.s, .bool x.b, .slice x.A x.n x.c, .int .i64 x.lv, .float .f64 x.x] 27)); have Fb := Lib.hid ((Fb.out.go hbx).al (.cells #[.int .i64 x.s, .bool x.b, .slice x.A x.n x.c, .int .i64 x.lv, .float .f64 x.x] 27)); have BB := Lib.hid (below_al (below_go BB.out hbx) (.cells #[.int .i64 x.s, .bool x.b, .slice x.A x.n x.c, .int .i64 x.lv, .float .f64 x.x] 27)); have TT := Lib.hid ((TT.out.below hbx).below (below_al (Below.refl _ _) (.cells #[.int .i64 x.s, .bool x.b, .slice x.A x.n x.c, .int .i64 x.lv, .float .f64 x.x] 27))); have Fx := Lib.hid (five_new _ x Hxok.out); obtain ⟨c28_0, c28_1, c28_2, c28_3, c28_4, c28_5, _⟩ := Fa.out; obtain ⟨c29_0, c29_1, c29_2, c29_3, c29_4, c29_5, _⟩ := Fb.out; obtain ⟨c30_0, c30_1, c30_2, c30_3, c30_4, c30_5, _⟩ := Fx.out)
    | (go_at_call 17; (with_reducible refine (times_e a b _ 121 E Fa.out.ok Fb.out.ok Nat'.out N121 h1 HE).mono ?_); rintro e wy ⟨y, rfl, yok, yC, yc, yn, hby⟩; have Hyok := Lib.hid yok; have Fa := Lib.hid ((Fa.out.go hby).al (.cells #[.int .i64 y.s, .bool y.b, .slice y.A y.n y.c, .int .i64 y.lv, .float .f64 y.x] 27)); have Fb := Lib.hid ((Fb.out.go hby).al (.cells #[.int .i64 y.s, .bool y.b, .slice y.A y.n y.c, .int .i64 y.lv, .float .f64 y.x] 27)); have Fx := Lib.hid ((Fx.out.go hby).al (.cells #[.int .i64 y.s, .bool y.b, .slice y.A y.n y.c, .int .i64 y.lv, .float .f64 y.x] 27)); have BB := Lib.hid (below_al (below_go BB.out hby) (.cells #[.int .i64 y.s, .bool y.b, .slice y.A y.n y.c, .int .i64 y.lv, .float .f64 y.x] 27)); have TT := Lib.hid ((TT.out.below hby).below (below_al (Below.refl _ _) (.cells #[.int .i64 y.s, .bool y.b, .slice y.A y.n y.c, .int .i64 y.lv, .float .f64 y.x] 27))); have Fy := Lib.hid (five_new _ y Hyok.out); obtain ⟨c31_0, c31_1, c31_2, c31_3, c31_4, c31_5, _⟩ := Fa.out; obtain ⟨c32_0, c32_1, c32_2, c32_3, c32_4, c32_5, _⟩ := Fb.out; obtain ⟨c33_0, c33_1, c33_2, c33_3, c33_4, c33_5, _⟩ := Fx.out; obtain ⟨c34_0, c34_1, c34_2, c34_3, c34_4, c34_5, _⟩ := Fy.out)
    | (go_at_call 31; (with_reducible refine (better_n a b _ 64 E Fa.out.ok Fb.out.ok Nab.out N64 h1 HE).mono ?_); rintro e wk ⟨rfl, hbwk⟩; have Fa := Lib.hid (Fa.out.go hbwk); have Fb := Lib.hid (Fb.out.go hbwk); have Fx := Lib.hid (Fx.out.go hbwk); have Fy := Lib.hid (Fy.out.go hbwk); have BB := Lib.hid (below_go BB.out hbwk); have TT := Lib.hid (TT.out.below hbwk); obtain ⟨c35_0, c35_1, c35_2, c35_3, c35_4, c35_5, _⟩ := Fa.out; obtain ⟨c36_0, c36_1, c36_2, c36_3, c36_4, c36_5, _⟩ := Fb.out; obtain ⟨c37_0, c37_1, c37_2, c37_3, c37_4, c37_5, _⟩ := Fx.out; obtain ⟨c38_0, c38_1, c38_2, c38_3, c38_4, c38_5, _⟩ := Fy.out)
    | (go_at_call 32; (with_reducible refine (may_is a _ Fa.out.ok H1).mono ?_); rintro e wa ⟨rfl, hbwa⟩; have Fa := Lib.hid (Fa.out.go hbwa); have Fb := Lib.hid (Fb.out.go hbwa); have Fx := Lib.hid (Fx.out.go hbwa); have Fy := Lib.hid (Fy.out.go hbwa); have BB := Lib.hid (below_go BB.out hbwa); have TT := Lib.hid (TT.out.below hbwa); obtain ⟨c39_0, c39_1, c39_2, c39_3, c39_4, c39_5, _⟩ := Fa.out; obtain ⟨c40_0, c40_1, c40_2, c40_3, c40_4, c40_5, _⟩ := Fb.out; obtain ⟨c41_0, c41_1, c41_2, c41_3, c41_4, c41_5, _⟩ := Fx.out; obtain ⟨c42_0, c42_1, c42_2, c42_3, c42_4, c42_5, _⟩ := Fy.out)
    | (go_at_call 32; (with_reducible refine (may_is b _ Fb.out.ok H2).mono ?_); rintro e wb ⟨rfl, hbwb⟩; have Fa := Lib.hid (Fa.out.go hbwb); have Fb := Lib.hid (Fb.out.go hbwb); have Fx := Lib.hid (Fx.out.go hbwb); have Fy := Lib.hid (Fy.out.go hbwb); have BB := Lib.hid (below_go BB.out hbwb); have TT := Lib.hid (TT.out.below hbwb); obtain ⟨c43_0, c43_1, c43_2, c43_3, c43_4, c43_5, _⟩ := Fa.out; obtain ⟨c44_0, c44_1, c44_2, c44_3, c44_4, c44_5, _⟩ := Fb.out; obtain ⟨c45_0, c45_1, c45_2, c45_3, c45_4, c45_5, _⟩ := Fx.out; obtain ⟨c46_0, c46_1, c46_2, c46_3, c46_4, c46_5, _⟩ := Fy.out))
  have BB := Lib.hid (below_dr BB.out)
  have TT := Lib.hid (TT.out.below (below_dr (Below.refl _ _)))
  have Fa := Lib.hid Fa.out.drew
  have Fb := Lib.hid Fb.out.drew
  have Fx := Lib.hid Fx.out.drew
  have Fy := Lib.hid Fy.out.drew
  obtain ⟨a0, a1, a2, a3, a4, a5, _⟩ := Fa.out
  obtain ⟨b0, b1, b2, b3, b4, b5, _⟩ := Fb.out
  obtain ⟨x0, x1, x2, x3, x4, x5, _⟩ := Fx.out
  obtain ⟨y0, y1, y2, y3, y4, y5, _⟩ := Fy.out
  refine wp_region_held_drew (S := fun w' => w'.cell? ⟨w.heap.size, 0, none⟩ = some (.int .i64 a.s) ∧ w'.cell? ⟨w.heap.size, 1, none⟩ = some (.bool a.b) ∧ w'.cell? ⟨w.heap.size, 2, none⟩ = some (.slice a.A a.n a.c) ∧ w'.cell? ⟨w.heap.size, 3, none⟩ = some (.int .i64 a.lv) ∧ w'.cell? ⟨w.heap.size, 4, none⟩ = some (.float .f64 a.x) ∧ w'.cell? ⟨w.heap.size + 1, 0, none⟩ = some (.int .i64 b.s) ∧ w'.cell? ⟨w.heap.size + 1, 1, none⟩ = some (.bool b.b) ∧ w'.cell? ⟨w.heap.size + 1, 2, none⟩ = some (.slice b.A b.n b.c) ∧ w'.cell? ⟨w.heap.size + 1, 3, none⟩ = some (.int .i64 b.lv) ∧ w'.cell? ⟨w.heap.size + 1, 4, none⟩ = some (.float .f64 b.x) ∧ w'.cell? ⟨wx.heap.size, 0, none⟩ = some (.int .i64 x.s) ∧ w'.cell? ⟨wx.heap.size, 1, none⟩ = some (.bool x.b) ∧ w'.cell? ⟨wx.heap.size, 2, none⟩ = some (.slice x.A x.n x.c) ∧ w'.cell? ⟨wx.heap.size, 3, none⟩ = some (.int .i64 x.lv) ∧ w'.cell? ⟨wx.heap.size, 4, none⟩ = some (.float .f64 x.x) ∧ w'.cell? ⟨wy.heap.size, 0, none⟩ = some (.int .i64 y.s) ∧ w'.cell? ⟨wy.heap.size, 1, none⟩ = some (.bool y.b) ∧ w'.cell? ⟨wy.heap.size, 2, none⟩ = some (.slice y.A y.n y.c) ∧ w'.cell? ⟨wy.heap.size, 3, none⟩ = some (.int .i64 y.lv) ∧ w'.cell? ⟨wy.heap.size, 4, none⟩ = some (.float .f64 y.x)) (by kernel_rfl) ⟨a0, a1, a2, a3, a4, b0, b1, b2, b3, b4, x0, x1, x2, x3, x4, y0, y1, y2, y3, y4⟩ (fun hHeld => ?_)
  refine wpAnyH_take (i := 0) (v := (.agg #[.int .i64 x.s, .bool x.b, .slice x.A x.n x.c, .int .i64 x.lv, .float .f64 x.x])) rfl (by kernel_rfl) (by kernel_rfl) (by kernel_rfl) (fun _ _ _ h => h) (Or.inl ⟨by kernel_rfl, by intro w hSw; (try dsimp only at hSw); go_simp⟩) (by assumption) ?_
  try simp only [Act.put, List.getElem_toArray, List.getElem_cons_zero, List.getElem_cons_succ, List.setIfInBounds_toArray, List.set_cons_zero, List.set_cons_succ]
  refine wpAnyH_take (i := 1) (v := (.agg #[.int .i64 0, .bool false, .slice none 0 0, .int .i64 0, .float .f64 0])) rfl (by kernel_rfl) (by kernel_rfl) (by kernel_rfl) (fun _ _ _ h => h) (Or.inl ⟨by kernel_rfl, by intro w hSw; (try dsimp only at hSw); go_simp⟩) (by assumption) ?_
  try simp only [Act.put, List.getElem_toArray, List.getElem_cons_zero, List.getElem_cons_succ, List.setIfInBounds_toArray, List.set_cons_zero, List.set_cons_succ]
  refine wpAnyH_ready (rs := [2]) (by kernel_rfl) (by simp) ?_
  refine AllReadyH.cons rfl (fun K hK => ?_) (AllReadyH.nil)
  go_simp
  go_at_call 33
  (with_reducible refine (fields_none x _ Fx.out.ok xc xC).mono ?_); rintro e wf ⟨rfl, hbwf⟩; have BB := Lib.hid (below_go BB.out hbwf); have TT := Lib.hid (TT.out.below hbwf); have Fa := Lib.hid (Fa.out.go hbwf); obtain ⟨a0, a1, a2, a3, a4, a5, _⟩ := Fa.out; have Fb := Lib.hid (Fb.out.go hbwf); obtain ⟨b0, b1, b2, b3, b4, b5, _⟩ := Fb.out; have Fx := Lib.hid (Fx.out.go hbwf); obtain ⟨x0, x1, x2, x3, x4, x5, _⟩ := Fx.out; have Fy := Lib.hid (Fy.out.go hbwf); obtain ⟨y0, y1, y2, y3, y4, y5, _⟩ := Fy.out
  go_wp2_with fail
  refine hK.out _ _ ⟨a0, a1, a2, a3, a4, b0, b1, b2, b3, b4, x0, x1, x2, x3, x4, y0, y1, y2, y3, y4⟩ (fun hHeld => ?_)
  clear hK K
  try simp only [Act.put, List.getElem_toArray, List.getElem_cons_zero, List.getElem_cons_succ, List.setIfInBounds_toArray, List.set_cons_zero, List.set_cons_succ]
  refine wpAnyH_take (i := 3) (v := (.bool true)) rfl (by kernel_rfl) (by kernel_rfl) (by kernel_rfl) (fun _ _ _ h => h) (Or.inl ⟨by kernel_rfl, by intro w hSw; (try dsimp only at hSw); go_simp⟩) (by assumption) ?_
  try simp only [Act.put, List.getElem_toArray, List.getElem_cons_zero, List.getElem_cons_succ, List.setIfInBounds_toArray, List.set_cons_zero, List.set_cons_succ]
  refine wpAnyH_take (i := 4) (v := (.agg #[.int .i64 y.s, .bool y.b, .slice y.A y.n y.c, .int .i64 y.lv, .float .f64 y.x])) rfl (by kernel_rfl) (by kernel_rfl) (by kernel_rfl) (fun _ _ _ h => h) (Or.inl ⟨by kernel_rfl, by intro w hSw; (try dsimp only at hSw); go_simp⟩) (by assumption) ?_
  try simp only [Act.put, List.getElem_toArray, List.getElem_cons_zero, List.getElem_cons_succ, List.setIfInBounds_toArray, List.set_cons_zero, List.set_cons_succ]
  refine wpAnyH_take (i := 5) (v := (.agg #[.int .i64 0, .bool false, .slice none 0 0, .int .i64 0, .float .f64 0])) rfl (by kernel_rfl) (by kernel_rfl) (by kernel_rfl) (fun _ _ _ h => h) (Or.inl ⟨by kernel_rfl, by intro w hSw; (try dsimp only at hSw); go_simp⟩) (by assumption) ?_
  try simp only [Act.put, List.getElem_toArray, List.getElem_cons_zero, List.getElem_cons_succ, List.setIfInBounds_toArray, List.set_cons_zero, List.set_cons_succ]
  refine wpAnyH_ready (rs := [6]) (by kernel_rfl) (by simp) ?_
  refine AllReadyH.cons rfl (fun K hK => ?_) (AllReadyH.nil)
  go_simp
  go_at_call 33
  (with_reducible refine (fields_none y _ Fy.out.ok yc yC).mono ?_); rintro e wg ⟨rfl, hbwg⟩; have BB := Lib.hid (below_go BB.out hbwg); have TT := Lib.hid (TT.out.below hbwg); have Fa := Lib.hid (Fa.out.go hbwg); obtain ⟨a0, a1, a2, a3, a4, a5, _⟩ := Fa.out; have Fb := Lib.hid (Fb.out.go hbwg); obtain ⟨b0, b1, b2, b3, b4, b5, _⟩ := Fb.out; have Fx := Lib.hid (Fx.out.go hbwg); obtain ⟨x0, x1, x2, x3, x4, x5, _⟩ := Fx.out; have Fy := Lib.hid (Fy.out.go hbwg); obtain ⟨y0, y1, y2, y3, y4, y5, _⟩ := Fy.out
  go_wp2_with fail
  refine hK.out _ _ ⟨a0, a1, a2, a3, a4, b0, b1, b2, b3, b4, x0, x1, x2, x3, x4, y0, y1, y2, y3, y4⟩ (fun hHeld => ?_)
  clear hK K
  try simp only [Act.put, List.getElem_toArray, List.getElem_cons_zero, List.getElem_cons_succ, List.setIfInBounds_toArray, List.set_cons_zero, List.set_cons_succ]
  refine wpAnyH_take (i := 7) (v := (.bool true)) rfl (by kernel_rfl) (by kernel_rfl) (by kernel_rfl) (fun _ _ _ h => h) (Or.inl ⟨by kernel_rfl, by intro w hSw; (try dsimp only at hSw); go_simp⟩) (by assumption) ?_
  try simp only [Act.put, List.getElem_toArray, List.getElem_cons_zero, List.getElem_cons_succ, List.setIfInBounds_toArray, List.set_cons_zero, List.set_cons_succ]
  refine wpAnyH_take (i := 8) (v := (.bool true)) rfl (by kernel_rfl) (by kernel_rfl) (by kernel_rfl) (fun _ _ _ h => h) (Or.inl ⟨by kernel_rfl, by intro w hSw; (try dsimp only at hSw); go_simp⟩) (by assumption) ?_
  try simp only [Act.put, List.getElem_toArray, List.getElem_cons_zero, List.getElem_cons_succ, List.setIfInBounds_toArray, List.set_cons_zero, List.set_cons_succ]
  refine wpAnyH_take (i := 9) (v := (.bool false)) rfl (by kernel_rfl) (by kernel_rfl) (by kernel_rfl) (fun _ _ _ h => h) (Or.inl ⟨by kernel_rfl, by intro w hSw; (try dsimp only at hSw); go_simp⟩) (by assumption) ?_
  try simp only [Act.put, List.getElem_toArray, List.getElem_cons_zero, List.getElem_cons_succ, List.setIfInBounds_toArray, List.set_cons_zero, List.set_cons_succ]
  refine wpAnyH_take (i := 10) (v := (.bool true)) rfl (by kernel_rfl) (by kernel_rfl) (by kernel_rfl) (fun _ _ _ h => h) (Or.inl ⟨by kernel_rfl, by intro w hSw; (try dsimp only at hSw); go_simp⟩) (by assumption) ?_
  try simp only [Act.put, List.getElem_toArray, List.getElem_cons_zero, List.getElem_cons_succ, List.setIfInBounds_toArray, List.set_cons_zero, List.set_cons_succ]
  refine wpAnyH_take (i := 11) (v := (.bool true)) rfl (by kernel_rfl) (by kernel_rfl) (by kernel_rfl) (fun _ _ _ h => h) (Or.inl ⟨by kernel_rfl, by intro w hSw; (try dsimp only at hSw); go_simp⟩) (by assumption) ?_
  try simp only [Act.put, List.getElem_toArray, List.getElem_cons_zero, List.getElem_cons_succ, List.setIfInBounds_toArray, List.set_cons_zero, List.set_cons_succ]
  refine wpAnyH_take (i := 12) (v := (.bool true)) rfl (by kernel_rfl) (by kernel_rfl) (by kernel_rfl) (fun _ _ _ h => h) (Or.inl ⟨by kernel_rfl, by intro w hSw; (try dsimp only at hSw); go_simp⟩) (by assumption) ?_
  try simp only [Act.put, List.getElem_toArray, List.getElem_cons_zero, List.getElem_cons_succ, List.setIfInBounds_toArray, List.set_cons_zero, List.set_cons_succ]
  refine wpAnyH_take (i := 13) (v := (.agg #[.int .i64 a.s, .bool a.b, .slice a.A a.n a.c, .int .i64 a.lv, .float .f64 a.x])) rfl (by kernel_rfl) (by kernel_rfl) (by kernel_rfl) (fun _ _ _ h => h) (Or.inl ⟨by kernel_rfl, by intro w hSw; (try dsimp only at hSw); go_simp⟩) (by assumption) ?_
  try simp only [Act.put, List.getElem_toArray, List.getElem_cons_zero, List.getElem_cons_succ, List.setIfInBounds_toArray, List.set_cons_zero, List.set_cons_succ]
  refine wpAnyH_take (i := 14) (v := (.agg #[.int .i64 b.s, .bool b.b, .slice b.A b.n b.c, .int .i64 b.lv, .float .f64 b.x])) rfl (by kernel_rfl) (by kernel_rfl) (by kernel_rfl) (fun _ _ _ h => h) (Or.inl ⟨by kernel_rfl, by intro w hSw; (try dsimp only at hSw); go_simp⟩) (by assumption) ?_
  try simp only [Act.put, List.getElem_toArray, List.getElem_cons_zero, List.getElem_cons_succ, List.setIfInBounds_toArray, List.set_cons_zero, List.set_cons_succ]
  refine wpAnyH_take (i := 17) (v := (.agg #[.int .i64 a.s, .bool a.b, .slice a.A a.n a.c, .int .i64 a.lv, .float .f64 a.x])) rfl (by kernel_rfl) (by kernel_rfl) (by kernel_rfl) (fun _ _ _ h => h) (Or.inl ⟨by kernel_rfl, by intro w hSw; (try dsimp only at hSw); go_simp⟩) (by assumption) ?_
  try simp only [Act.put, List.getElem_toArray, List.getElem_cons_zero, List.getElem_cons_succ, List.setIfInBounds_toArray, List.set_cons_zero, List.set_cons_succ]
  refine wpAnyH_ready (rs := [15]) (by kernel_rfl) (by simp) ?_
  refine AllReadyH.cons rfl (fun K hK => ?_) (AllReadyH.nil)
  go_simp
  go_at_call 19
  (with_reducible refine (same_no a b _ Fa.out.ok Fb.out.ok HS).mono ?_); rintro e wh ⟨rfl, hbwh⟩; have BB := Lib.hid (below_go BB.out hbwh); have TT := Lib.hid (TT.out.below hbwh); have Fa := Lib.hid (Fa.out.go hbwh); obtain ⟨a0, a1, a2, a3, a4, a5, _⟩ := Fa.out; have Fb := Lib.hid (Fb.out.go hbwh); obtain ⟨b0, b1, b2, b3, b4, b5, _⟩ := Fb.out; have Fx := Lib.hid (Fx.out.go hbwh); obtain ⟨x0, x1, x2, x3, x4, x5, _⟩ := Fx.out; have Fy := Lib.hid (Fy.out.go hbwh); obtain ⟨y0, y1, y2, y3, y4, y5, _⟩ := Fy.out
  go_wp2_with fail
  refine hK.out _ _ ⟨a0, a1, a2, a3, a4, b0, b1, b2, b3, b4, x0, x1, x2, x3, x4, y0, y1, y2, y3, y4⟩ (fun hHeld => ?_)
  clear hK K
  try simp only [Act.put, List.getElem_toArray, List.getElem_cons_zero, List.getElem_cons_succ, List.setIfInBounds_toArray, List.set_cons_zero, List.set_cons_succ]
  refine wpAnyH_take (i := 16) (v := (.bool true)) rfl (by kernel_rfl) (by kernel_rfl) (by kernel_rfl) (fun _ _ _ h => h) (Or.inl ⟨by kernel_rfl, by intro w hSw; (try dsimp only at hSw); go_simp⟩) (by assumption) ?_
  try simp only [Act.put, List.getElem_toArray, List.getElem_cons_zero, List.getElem_cons_succ, List.setIfInBounds_toArray, List.set_cons_zero, List.set_cons_succ]
  refine wpAnyH_ready (rs := [18]) (by kernel_rfl) (by simp) ?_
  refine AllReadyH.cons rfl (fun K hK => ?_) (AllReadyH.nil)
  go_simp
  go_at_call 15
  (with_reducible refine (rmay_is a _ Fa.out.ok H1).mono ?_); rintro e wi ⟨rfl, hbwi⟩; have BB := Lib.hid (below_go BB.out hbwi); have TT := Lib.hid (TT.out.below hbwi); have Fa := Lib.hid (Fa.out.go hbwi); obtain ⟨a0, a1, a2, a3, a4, a5, _⟩ := Fa.out; have Fb := Lib.hid (Fb.out.go hbwi); obtain ⟨b0, b1, b2, b3, b4, b5, _⟩ := Fb.out; have Fx := Lib.hid (Fx.out.go hbwi); obtain ⟨x0, x1, x2, x3, x4, x5, _⟩ := Fx.out; have Fy := Lib.hid (Fy.out.go hbwi); obtain ⟨y0, y1, y2, y3, y4, y5, _⟩ := Fy.out
  go_wp2_with fail
  refine hK.out _ _ ⟨a0, a1, a2, a3, a4, b0, b1, b2, b3, b4, x0, x1, x2, x3, x4, y0, y1, y2, y3, y4⟩ (fun hHeld => ?_)
  clear hK K
  try simp only [Act.put, List.getElem_toArray, List.getElem_cons_zero, List.getElem_cons_succ, List.setIfInBounds_toArray, List.set_cons_zero, List.set_cons_succ]
  refine wpAnyH_take (i := 19) (v := (.bool true)) rfl (by kernel_rfl) (by kernel_rfl) (by kernel_rfl) (fun _ _ _ h => h) (Or.inl ⟨by kernel_rfl, by intro w hSw; (try dsimp only at hSw); go_simp⟩) (by assumption) ?_
  try simp only [Act.put, List.getElem_toArray, List.getElem_cons_zero, List.getElem_cons_succ, List.setIfInBounds_toArray, List.set_cons_zero, List.set_cons_succ]
  refine wpAnyH_take (i := 20) (v := (.bool true)) rfl (by kernel_rfl) (by kernel_rfl) (by kernel_rfl) (fun _ _ _ h => h) (Or.inl ⟨by kernel_rfl, by intro w hSw; (try dsimp only at hSw); go_simp⟩) (by assumption) ?_
  try simp only [Act.put, List.getElem_toArray, List.getElem_cons_zero, List.getElem_cons_succ, List.setIfInBounds_toArray, List.set_cons_zero, List.set_cons_succ]
  refine wpAnyH_take (i := 21) (v := undef) rfl (by kernel_rfl) (by kernel_rfl) (by kernel_rfl) (fun _ _ _ h => h) (Or.inr ⟨by kernel_rfl, rfl⟩) (by assumption) ?_
  try simp only [Act.put, List.getElem_toArray, List.getElem_cons_zero, List.getElem_cons_succ, List.setIfInBounds_toArray, List.set_cons_zero, List.set_cons_succ]
  refine wpAnyH_take (i := 22) (v := undef) rfl (by kernel_rfl) (by kernel_rfl) (by kernel_rfl) (fun _ _ _ h => h) (Or.inr ⟨by kernel_rfl, rfl⟩) (by assumption) ?_
  try simp only [Act.put, List.getElem_toArray, List.getElem_cons_zero, List.getElem_cons_succ, List.setIfInBounds_toArray, List.set_cons_zero, List.set_cons_succ]
  refine wpAnyH_take (i := 23) (v := undef) rfl (by kernel_rfl) (by kernel_rfl) (by kernel_rfl) (fun _ _ _ h => h) (Or.inr ⟨by kernel_rfl, rfl⟩) (by assumption) ?_
  try simp only [Act.put, List.getElem_toArray, List.getElem_cons_zero, List.getElem_cons_succ, List.setIfInBounds_toArray, List.set_cons_zero, List.set_cons_succ]
  refine wpAnyH_take (i := 24) (v := (.bool true)) rfl (by kernel_rfl) (by kernel_rfl) (by kernel_rfl) (fun _ _ _ h => h) (Or.inl ⟨by kernel_rfl, by intro w hSw; (try dsimp only at hSw); go_simp⟩) (by assumption) ?_
  try simp only [Act.put, List.getElem_toArray, List.getElem_cons_zero, List.getElem_cons_succ, List.setIfInBounds_toArray, List.set_cons_zero, List.set_cons_succ]
  refine wpAnyH_take (i := 25) (v := (.bool true)) rfl (by kernel_rfl) (by kernel_rfl) (by kernel_rfl) (fun _ _ _ h => h) (Or.inl ⟨by kernel_rfl, by intro w hSw; (try dsimp only at hSw); go_simp⟩) (by assumption) ?_
  try simp only [Act.put, List.getElem_toArray, List.getElem_cons_zero, List.getElem_cons_succ, List.setIfInBounds_toArray, List.set_cons_zero, List.set_cons_succ]
  refine wpAnyH_take (i := 26) (v := undef) rfl (by kernel_rfl) (by kernel_rfl) (by kernel_rfl) (fun _ _ _ h => h) (Or.inr ⟨by kernel_rfl, rfl⟩) (by assumption) ?_
  try simp only [Act.put, List.getElem_toArray, List.getElem_cons_zero, List.getElem_cons_succ, List.setIfInBounds_toArray, List.set_cons_zero, List.set_cons_succ]
  refine wpAnyH_take (i := 27) (v := undef) rfl (by kernel_rfl) (by kernel_rfl) (by kernel_rfl) (fun _ _ _ h => h) (Or.inr ⟨by kernel_rfl, rfl⟩) (by assumption) ?_
  try simp only [Act.put, List.getElem_toArray, List.getElem_cons_zero, List.getElem_cons_succ, List.setIfInBounds_toArray, List.set_cons_zero, List.set_cons_succ]
  refine wpAnyH_take (i := 28) (v := undef) rfl (by kernel_rfl) (by kernel_rfl) (by kernel_rfl) (fun _ _ _ h => h) (Or.inr ⟨by kernel_rfl, rfl⟩) (by assumption) ?_
  try simp only [Act.put, List.getElem_toArray, List.getElem_cons_zero, List.getElem_cons_succ, List.setIfInBounds_toArray, List.set_cons_zero, List.set_cons_succ]
  refine wpAnyH_take (i := 29) (v := undef) rfl (by kernel_rfl) (by kernel_rfl) (by kernel_rfl) (fun _ _ _ h => h) (Or.inr ⟨by kernel_rfl, rfl⟩) (by assumption) ?_
  try simp only [Act.put, List.getElem_toArray, List.getElem_cons_zero, List.getElem_cons_succ, List.setIfInBounds_toArray, List.set_cons_zero, List.set_cons_succ]
  refine wpAnyH_take (i := 30) (v := undef) rfl (by kernel_rfl) (by kernel_rfl) (by kernel_rfl) (fun _ _ _ h => h) (Or.inr ⟨by kernel_rfl, rfl⟩) (by assumption) ?_
  try simp only [Act.put, List.getElem_toArray, List.getElem_cons_zero, List.getElem_cons_succ, List.setIfInBounds_toArray, List.set_cons_zero, List.set_cons_succ]
  refine wpAnyH_take (i := 31) (v := (.bool true)) rfl (by kernel_rfl) (by kernel_rfl) (by kernel_rfl) (fun _ _ _ h => h) (Or.inl ⟨by kernel_rfl, by intro w hSw; (try dsimp only at hSw); go_simp⟩) (by assumption) ?_
  try simp only [Act.put, List.getElem_toArray, List.getElem_cons_zero, List.getElem_cons_succ, List.setIfInBounds_toArray, List.set_cons_zero, List.set_cons_succ]
  refine wpAnyH_take (i := 32) (v := (.bool true)) rfl (by kernel_rfl) (by kernel_rfl) (by kernel_rfl) (fun _ _ _ h => h) (Or.inl ⟨by kernel_rfl, by intro w hSw; (try dsimp only at hSw); go_simp⟩) (by assumption) ?_
  try simp only [Act.put, List.getElem_toArray, List.getElem_cons_zero, List.getElem_cons_succ, List.setIfInBounds_toArray, List.set_cons_zero, List.set_cons_succ]
  refine wpAnyH_take (i := 33) (v := (.bool true)) rfl (by kernel_rfl) (by kernel_rfl) (by kernel_rfl) (fun _ _ _ h => h) (Or.inl ⟨by kernel_rfl, by intro w hSw; (try dsimp only at hSw); go_simp⟩) (by assumption) ?_
  try simp only [Act.put, List.getElem_toArray, List.getElem_cons_zero, List.getElem_cons_succ, List.setIfInBounds_toArray, List.set_cons_zero, List.set_cons_succ]
  refine wpAnyH_take (i := 34) (v := (.bool true)) rfl (by kernel_rfl) (by kernel_rfl) (by kernel_rfl) (fun _ _ _ h => h) (Or.inl ⟨by kernel_rfl, by intro w hSw; (try dsimp only at hSw); go_simp⟩) (by assumption) ?_
  try simp only [Act.put, List.getElem_toArray, List.getElem_cons_zero, List.getElem_cons_succ, List.setIfInBounds_toArray, List.set_cons_zero, List.set_cons_succ]
  refine wpAnyH_ready (rs := [35]) (by kernel_rfl) (by simp) ?_
  refine AllReadyH.cons rfl (fun K hK => ?_) (AllReadyH.nil)
  go_simp
  go_at_call 13
  (with_reducible refine (awake_any _ TT.out).mono ?_); rintro e wz ⟨rfl, hbwz⟩; have BB := Lib.hid (below_go BB.out hbwz); have TT := Lib.hid (TT.out.below hbwz); have Fa := Lib.hid (Fa.out.go hbwz); obtain ⟨a0, a1, a2, a3, a4, a5, _⟩ := Fa.out; have Fb := Lib.hid (Fb.out.go hbwz); obtain ⟨b0, b1, b2, b3, b4, b5, _⟩ := Fb.out; have Fx := Lib.hid (Fx.out.go hbwz); obtain ⟨x0, x1, x2, x3, x4, x5, _⟩ := Fx.out; have Fy := Lib.hid (Fy.out.go hbwz); obtain ⟨y0, y1, y2, y3, y4, y5, _⟩ := Fy.out
  go_wp2_with fail
  refine hK.out _ _ ⟨a0, a1, a2, a3, a4, b0, b1, b2, b3, b4, x0, x1, x2, x3, x4, y0, y1, y2, y3, y4⟩ (fun hHeld => ?_)
  clear hK K
  try simp only [Act.put, List.getElem_toArray, List.getElem_cons_zero, List.getElem_cons_succ, List.setIfInBounds_toArray, List.set_cons_zero, List.set_cons_succ]
  refine wpAnyH_take (i := 36) (v := (.bool true)) rfl (by kernel_rfl) (by kernel_rfl) (by kernel_rfl) (fun _ _ _ h => h) (Or.inl ⟨by kernel_rfl, by intro w hSw; (try dsimp only at hSw); go_simp⟩) (by assumption) ?_
  try simp only [Act.put, List.getElem_toArray, List.getElem_cons_zero, List.getElem_cons_succ, List.setIfInBounds_toArray, List.set_cons_zero, List.set_cons_succ]
  refine wpAnyH_take (i := 37) (v := (.bool true)) rfl (by kernel_rfl) (by kernel_rfl) (by kernel_rfl) (fun _ _ _ h => h) (Or.inl ⟨by kernel_rfl, by intro w hSw; (try dsimp only at hSw); go_simp⟩) (by assumption) ?_
  try simp only [Act.put, List.getElem_toArray, List.getElem_cons_zero, List.getElem_cons_succ, List.setIfInBounds_toArray, List.set_cons_zero, List.set_cons_succ]
  refine wpAnyH_done (by kernel_rfl) ?_ _
  go_wp2_with fail
  go_ret
  exact ⟨rfl, BB.out⟩
set_option linter.unusedSimpArgs false in
set_option maxRecDepth 100000 in
set_option maxHeartbeats 4000000 in
theorem mixed_bad2 (a b : SV) (w : World) (ht : Tab w) (ha : a.ok w) (hb : b.ok w) (hs : (decide (a.n ≤ 60) && decide (b.n ≤ 60)) = true) (E Ma Mb : Int) (h1 : Hid (bothE a b = E)) (hE : (E != 0) = true) (hE2 : (E == 0) = false) (H1 : Hid (a.may = Ma)) (H2 : Hid (b.may = Mb)) (hA : (Ma != 0) = false) (hA2 : (Ma == 0) = true) (hB : (Mb != 0) = true) (hB2 : (Mb == 0) = false) :
    Calls Tryd.prog 9 #[a.v, b.v] w fun e w' => e = .returned (.bool true) ∧ Below w.heap.size w w' := by
  have hs' := Lib.hid hs
  have hna := ha.1.2.2.2
  have hnb := hb.1.2.2.2
  have h2 := Lib.hid (boxed2 ha hb ht _ rfl)
  have Fa := Lib.hid h2.out.1
  have Fb := Lib.hid h2.out.2.1
  have BB := Lib.hid h2.out.2.2.1
  have TT := Lib.hid h2.out.2.2.2
  have hN3 := hs
  rw [Bool.and_eq_true, decide_eq_true_iff, decide_eq_true_iff] at hN3
  have N60 := Lib.hid hN3
  have Nab := Lib.hid (show max a.n b.n + 1 ≤ 64 by have := N60.out; omega)
  have Nat' := Lib.hid (show a.n + b.n + 1 ≤ 121 by have := N60.out; omega)
  have N64 : 64 ≤ 1099511627776 := by decide
  have N121 : 121 ≤ 1099511627776 := by decide
  have HE := Lib.hid hE
  have HS := Lib.hid (show sameE a b = false by unfold sameE; rw [h1.out, hE2]; rfl)
  clear hN3 hs ha hb ht h2
  unfold SV.v
  go_enter Tryd.func9, Tryd.ntmps9
  go_wp2_with (first
    | (go_at_call 12; (with_reducible refine (small2 _ a b _ true hs' hna hnb (by go_simp) (by go_simp)).mono ?_); rintro e w1 ⟨rfl, rfl⟩)
    | (go_at_call 18; (with_reducible refine (plus_e a b _ 64 E Fa.out.ok Fb.out.ok Nab.out N64 h1 HE).mono ?_); rintro e wx ⟨x, rfl, xok, xC, xc, xn, hbx⟩; have Hxok := Lib.hid xok; have Fa := Lib.hid ((Fa.out.go hbx).al (.cells #[.int .i64 x.s, .bool x.b, .slice x.A x.n x.c, .int .i64 x.lv, .float .f64 x.x] 27)); have Fb := Lib.hid ((Fb.out.go hbx).al (.cells #[.int .i64 x.s, .bool x.b, .slice x.A x.n x.c, .int .i64 x.lv, .float .f64 x.x] 27)); have BB := Lib.hid (below_al (below_go BB.out hbx) (.cells #[.int .i64 x.s, .bool x.b, .slice x.A x.n x.c, .int .i64 x.lv, .float .f64 x.x] 27)); have TT := Lib.hid ((TT.out.below hbx).below (below_al (Below.refl _ _) (.cells #[.int .i64 x.s, .bool x.b, .slice x.A x.n x.c, .int .i64 x.lv, .float .f64 x.x] 27))); have Fx := Lib.hid (five_new _ x Hxok.out); obtain ⟨c47_0, c47_1, c47_2, c47_3, c47_4, c47_5, _⟩ := Fa.out; obtain ⟨c48_0, c48_1, c48_2, c48_3, c48_4, c48_5, _⟩ := Fb.out; obtain ⟨c49_0, c49_1, c49_2, c49_3, c49_4, c49_5, _⟩ := Fx.out)
    | (go_at_call 17; (with_reducible refine (times_e a b _ 121 E Fa.out.ok Fb.out.ok Nat'.out N121 h1 HE).mono ?_); rintro e wy ⟨y, rfl, yok, yC, yc, yn, hby⟩; have Hyok := Lib.hid yok; have Fa := Lib.hid ((Fa.out.go hby).al (.cells #[.int .i64 y.s, .bool y.b, .slice y.A y.n y.c, .int .i64 y.lv, .float .f64 y.x] 27)); have Fb := Lib.hid ((Fb.out.go hby).al (.cells #[.int .i64 y.s, .bool y.b, .slice y.A y.n y.c, .int .i64 y.lv, .float .f64 y.x] 27)); have Fx := Lib.hid ((Fx.out.go hby).al (.cells #[.int .i64 y.s, .bool y.b, .slice y.A y.n y.c, .int .i64 y.lv, .float .f64 y.x] 27)); have BB := Lib.hid (below_al (below_go BB.out hby) (.cells #[.int .i64 y.s, .bool y.b, .slice y.A y.n y.c, .int .i64 y.lv, .float .f64 y.x] 27)); have TT := Lib.hid ((TT.out.below hby).below (below_al (Below.refl _ _) (.cells #[.int .i64 y.s, .bool y.b, .slice y.A y.n y.c, .int .i64 y.lv, .float .f64 y.x] 27))); have Fy := Lib.hid (five_new _ y Hyok.out); obtain ⟨c50_0, c50_1, c50_2, c50_3, c50_4, c50_5, _⟩ := Fa.out; obtain ⟨c51_0, c51_1, c51_2, c51_3, c51_4, c51_5, _⟩ := Fb.out; obtain ⟨c52_0, c52_1, c52_2, c52_3, c52_4, c52_5, _⟩ := Fx.out; obtain ⟨c53_0, c53_1, c53_2, c53_3, c53_4, c53_5, _⟩ := Fy.out)
    | (go_at_call 31; (with_reducible refine (better_n a b _ 64 E Fa.out.ok Fb.out.ok Nab.out N64 h1 HE).mono ?_); rintro e wk ⟨rfl, hbwk⟩; have Fa := Lib.hid (Fa.out.go hbwk); have Fb := Lib.hid (Fb.out.go hbwk); have Fx := Lib.hid (Fx.out.go hbwk); have Fy := Lib.hid (Fy.out.go hbwk); have BB := Lib.hid (below_go BB.out hbwk); have TT := Lib.hid (TT.out.below hbwk); obtain ⟨c54_0, c54_1, c54_2, c54_3, c54_4, c54_5, _⟩ := Fa.out; obtain ⟨c55_0, c55_1, c55_2, c55_3, c55_4, c55_5, _⟩ := Fb.out; obtain ⟨c56_0, c56_1, c56_2, c56_3, c56_4, c56_5, _⟩ := Fx.out; obtain ⟨c57_0, c57_1, c57_2, c57_3, c57_4, c57_5, _⟩ := Fy.out)
    | (go_at_call 32; (with_reducible refine (may_is a _ Fa.out.ok H1).mono ?_); rintro e wa ⟨rfl, hbwa⟩; have Fa := Lib.hid (Fa.out.go hbwa); have Fb := Lib.hid (Fb.out.go hbwa); have Fx := Lib.hid (Fx.out.go hbwa); have Fy := Lib.hid (Fy.out.go hbwa); have BB := Lib.hid (below_go BB.out hbwa); have TT := Lib.hid (TT.out.below hbwa); obtain ⟨c58_0, c58_1, c58_2, c58_3, c58_4, c58_5, _⟩ := Fa.out; obtain ⟨c59_0, c59_1, c59_2, c59_3, c59_4, c59_5, _⟩ := Fb.out; obtain ⟨c60_0, c60_1, c60_2, c60_3, c60_4, c60_5, _⟩ := Fx.out; obtain ⟨c61_0, c61_1, c61_2, c61_3, c61_4, c61_5, _⟩ := Fy.out)
    | (go_at_call 32; (with_reducible refine (may_is b _ Fb.out.ok H2).mono ?_); rintro e wb ⟨rfl, hbwb⟩; have Fa := Lib.hid (Fa.out.go hbwb); have Fb := Lib.hid (Fb.out.go hbwb); have Fx := Lib.hid (Fx.out.go hbwb); have Fy := Lib.hid (Fy.out.go hbwb); have BB := Lib.hid (below_go BB.out hbwb); have TT := Lib.hid (TT.out.below hbwb); obtain ⟨c62_0, c62_1, c62_2, c62_3, c62_4, c62_5, _⟩ := Fa.out; obtain ⟨c63_0, c63_1, c63_2, c63_3, c63_4, c63_5, _⟩ := Fb.out; obtain ⟨c64_0, c64_1, c64_2, c64_3, c64_4, c64_5, _⟩ := Fx.out; obtain ⟨c65_0, c65_1, c65_2, c65_3, c65_4, c65_5, _⟩ := Fy.out))
  have BB := Lib.hid (below_dr BB.out)
  have TT := Lib.hid (TT.out.below (below_dr (Below.refl _ _)))
  have Fa := Lib.hid Fa.out.drew
  have Fb := Lib.hid Fb.out.drew
  have Fx := Lib.hid Fx.out.drew
  have Fy := Lib.hid Fy.out.drew
  obtain ⟨a0, a1, a2, a3, a4, a5, _⟩ := Fa.out
  obtain ⟨b0, b1, b2, b3, b4, b5, _⟩ := Fb.out
  obtain ⟨x0, x1, x2, x3, x4, x5, _⟩ := Fx.out
  obtain ⟨y0, y1, y2, y3, y4, y5, _⟩ := Fy.out
  refine wp_region_held_drew (S := fun w' => w'.cell? ⟨w.heap.size, 0, none⟩ = some (.int .i64 a.s) ∧ w'.cell? ⟨w.heap.size, 1, none⟩ = some (.bool a.b) ∧ w'.cell? ⟨w.heap.size, 2, none⟩ = some (.slice a.A a.n a.c) ∧ w'.cell? ⟨w.heap.size, 3, none⟩ = some (.int .i64 a.lv) ∧ w'.cell? ⟨w.heap.size, 4, none⟩ = some (.float .f64 a.x) ∧ w'.cell? ⟨w.heap.size + 1, 0, none⟩ = some (.int .i64 b.s) ∧ w'.cell? ⟨w.heap.size + 1, 1, none⟩ = some (.bool b.b) ∧ w'.cell? ⟨w.heap.size + 1, 2, none⟩ = some (.slice b.A b.n b.c) ∧ w'.cell? ⟨w.heap.size + 1, 3, none⟩ = some (.int .i64 b.lv) ∧ w'.cell? ⟨w.heap.size + 1, 4, none⟩ = some (.float .f64 b.x) ∧ w'.cell? ⟨wx.heap.size, 0, none⟩ = some (.int .i64 x.s) ∧ w'.cell? ⟨wx.heap.size, 1, none⟩ = some (.bool x.b) ∧ w'.cell? ⟨wx.heap.size, 2, none⟩ = some (.slice x.A x.n x.c) ∧ w'.cell? ⟨wx.heap.size, 3, none⟩ = some (.int .i64 x.lv) ∧ w'.cell? ⟨wx.heap.size, 4, none⟩ = some (.float .f64 x.x) ∧ w'.cell? ⟨wy.heap.size, 0, none⟩ = some (.int .i64 y.s) ∧ w'.cell? ⟨wy.heap.size, 1, none⟩ = some (.bool y.b) ∧ w'.cell? ⟨wy.heap.size, 2, none⟩ = some (.slice y.A y.n y.c) ∧ w'.cell? ⟨wy.heap.size, 3, none⟩ = some (.int .i64 y.lv) ∧ w'.cell? ⟨wy.heap.size, 4, none⟩ = some (.float .f64 y.x)) (by kernel_rfl) ⟨a0, a1, a2, a3, a4, b0, b1, b2, b3, b4, x0, x1, x2, x3, x4, y0, y1, y2, y3, y4⟩ (fun hHeld => ?_)
  refine wpAnyH_take (i := 0) (v := (.agg #[.int .i64 x.s, .bool x.b, .slice x.A x.n x.c, .int .i64 x.lv, .float .f64 x.x])) rfl (by kernel_rfl) (by kernel_rfl) (by kernel_rfl) (fun _ _ _ h => h) (Or.inl ⟨by kernel_rfl, by intro w hSw; (try dsimp only at hSw); go_simp⟩) (by assumption) ?_
  try simp only [Act.put, List.getElem_toArray, List.getElem_cons_zero, List.getElem_cons_succ, List.setIfInBounds_toArray, List.set_cons_zero, List.set_cons_succ]
  refine wpAnyH_take (i := 1) (v := (.agg #[.int .i64 0, .bool false, .slice none 0 0, .int .i64 0, .float .f64 0])) rfl (by kernel_rfl) (by kernel_rfl) (by kernel_rfl) (fun _ _ _ h => h) (Or.inl ⟨by kernel_rfl, by intro w hSw; (try dsimp only at hSw); go_simp⟩) (by assumption) ?_
  try simp only [Act.put, List.getElem_toArray, List.getElem_cons_zero, List.getElem_cons_succ, List.setIfInBounds_toArray, List.set_cons_zero, List.set_cons_succ]
  refine wpAnyH_ready (rs := [2]) (by kernel_rfl) (by simp) ?_
  refine AllReadyH.cons rfl (fun K hK => ?_) (AllReadyH.nil)
  go_simp
  go_at_call 33
  (with_reducible refine (fields_none x _ Fx.out.ok xc xC).mono ?_); rintro e wf ⟨rfl, hbwf⟩; have BB := Lib.hid (below_go BB.out hbwf); have TT := Lib.hid (TT.out.below hbwf); have Fa := Lib.hid (Fa.out.go hbwf); obtain ⟨a0, a1, a2, a3, a4, a5, _⟩ := Fa.out; have Fb := Lib.hid (Fb.out.go hbwf); obtain ⟨b0, b1, b2, b3, b4, b5, _⟩ := Fb.out; have Fx := Lib.hid (Fx.out.go hbwf); obtain ⟨x0, x1, x2, x3, x4, x5, _⟩ := Fx.out; have Fy := Lib.hid (Fy.out.go hbwf); obtain ⟨y0, y1, y2, y3, y4, y5, _⟩ := Fy.out
  go_wp2_with fail
  refine hK.out _ _ ⟨a0, a1, a2, a3, a4, b0, b1, b2, b3, b4, x0, x1, x2, x3, x4, y0, y1, y2, y3, y4⟩ (fun hHeld => ?_)
  clear hK K
  try simp only [Act.put, List.getElem_toArray, List.getElem_cons_zero, List.getElem_cons_succ, List.setIfInBounds_toArray, List.set_cons_zero, List.set_cons_succ]
  refine wpAnyH_take (i := 3) (v := (.bool true)) rfl (by kernel_rfl) (by kernel_rfl) (by kernel_rfl) (fun _ _ _ h => h) (Or.inl ⟨by kernel_rfl, by intro w hSw; (try dsimp only at hSw); go_simp⟩) (by assumption) ?_
  try simp only [Act.put, List.getElem_toArray, List.getElem_cons_zero, List.getElem_cons_succ, List.setIfInBounds_toArray, List.set_cons_zero, List.set_cons_succ]
  refine wpAnyH_take (i := 4) (v := (.agg #[.int .i64 y.s, .bool y.b, .slice y.A y.n y.c, .int .i64 y.lv, .float .f64 y.x])) rfl (by kernel_rfl) (by kernel_rfl) (by kernel_rfl) (fun _ _ _ h => h) (Or.inl ⟨by kernel_rfl, by intro w hSw; (try dsimp only at hSw); go_simp⟩) (by assumption) ?_
  try simp only [Act.put, List.getElem_toArray, List.getElem_cons_zero, List.getElem_cons_succ, List.setIfInBounds_toArray, List.set_cons_zero, List.set_cons_succ]
  refine wpAnyH_take (i := 5) (v := (.agg #[.int .i64 0, .bool false, .slice none 0 0, .int .i64 0, .float .f64 0])) rfl (by kernel_rfl) (by kernel_rfl) (by kernel_rfl) (fun _ _ _ h => h) (Or.inl ⟨by kernel_rfl, by intro w hSw; (try dsimp only at hSw); go_simp⟩) (by assumption) ?_
  try simp only [Act.put, List.getElem_toArray, List.getElem_cons_zero, List.getElem_cons_succ, List.setIfInBounds_toArray, List.set_cons_zero, List.set_cons_succ]
  refine wpAnyH_ready (rs := [6]) (by kernel_rfl) (by simp) ?_
  refine AllReadyH.cons rfl (fun K hK => ?_) (AllReadyH.nil)
  go_simp
  go_at_call 33
  (with_reducible refine (fields_none y _ Fy.out.ok yc yC).mono ?_); rintro e wg ⟨rfl, hbwg⟩; have BB := Lib.hid (below_go BB.out hbwg); have TT := Lib.hid (TT.out.below hbwg); have Fa := Lib.hid (Fa.out.go hbwg); obtain ⟨a0, a1, a2, a3, a4, a5, _⟩ := Fa.out; have Fb := Lib.hid (Fb.out.go hbwg); obtain ⟨b0, b1, b2, b3, b4, b5, _⟩ := Fb.out; have Fx := Lib.hid (Fx.out.go hbwg); obtain ⟨x0, x1, x2, x3, x4, x5, _⟩ := Fx.out; have Fy := Lib.hid (Fy.out.go hbwg); obtain ⟨y0, y1, y2, y3, y4, y5, _⟩ := Fy.out
  go_wp2_with fail
  refine hK.out _ _ ⟨a0, a1, a2, a3, a4, b0, b1, b2, b3, b4, x0, x1, x2, x3, x4, y0, y1, y2, y3, y4⟩ (fun hHeld => ?_)
  clear hK K
  try simp only [Act.put, List.getElem_toArray, List.getElem_cons_zero, List.getElem_cons_succ, List.setIfInBounds_toArray, List.set_cons_zero, List.set_cons_succ]
  refine wpAnyH_take (i := 7) (v := (.bool true)) rfl (by kernel_rfl) (by kernel_rfl) (by kernel_rfl) (fun _ _ _ h => h) (Or.inl ⟨by kernel_rfl, by intro w hSw; (try dsimp only at hSw); go_simp⟩) (by assumption) ?_
  try simp only [Act.put, List.getElem_toArray, List.getElem_cons_zero, List.getElem_cons_succ, List.setIfInBounds_toArray, List.set_cons_zero, List.set_cons_succ]
  refine wpAnyH_take (i := 8) (v := (.bool true)) rfl (by kernel_rfl) (by kernel_rfl) (by kernel_rfl) (fun _ _ _ h => h) (Or.inl ⟨by kernel_rfl, by intro w hSw; (try dsimp only at hSw); go_simp⟩) (by assumption) ?_
  try simp only [Act.put, List.getElem_toArray, List.getElem_cons_zero, List.getElem_cons_succ, List.setIfInBounds_toArray, List.set_cons_zero, List.set_cons_succ]
  refine wpAnyH_take (i := 9) (v := (.bool false)) rfl (by kernel_rfl) (by kernel_rfl) (by kernel_rfl) (fun _ _ _ h => h) (Or.inl ⟨by kernel_rfl, by intro w hSw; (try dsimp only at hSw); go_simp⟩) (by assumption) ?_
  try simp only [Act.put, List.getElem_toArray, List.getElem_cons_zero, List.getElem_cons_succ, List.setIfInBounds_toArray, List.set_cons_zero, List.set_cons_succ]
  refine wpAnyH_take (i := 10) (v := (.bool true)) rfl (by kernel_rfl) (by kernel_rfl) (by kernel_rfl) (fun _ _ _ h => h) (Or.inl ⟨by kernel_rfl, by intro w hSw; (try dsimp only at hSw); go_simp⟩) (by assumption) ?_
  try simp only [Act.put, List.getElem_toArray, List.getElem_cons_zero, List.getElem_cons_succ, List.setIfInBounds_toArray, List.set_cons_zero, List.set_cons_succ]
  refine wpAnyH_take (i := 11) (v := (.bool true)) rfl (by kernel_rfl) (by kernel_rfl) (by kernel_rfl) (fun _ _ _ h => h) (Or.inl ⟨by kernel_rfl, by intro w hSw; (try dsimp only at hSw); go_simp⟩) (by assumption) ?_
  try simp only [Act.put, List.getElem_toArray, List.getElem_cons_zero, List.getElem_cons_succ, List.setIfInBounds_toArray, List.set_cons_zero, List.set_cons_succ]
  refine wpAnyH_take (i := 12) (v := (.bool true)) rfl (by kernel_rfl) (by kernel_rfl) (by kernel_rfl) (fun _ _ _ h => h) (Or.inl ⟨by kernel_rfl, by intro w hSw; (try dsimp only at hSw); go_simp⟩) (by assumption) ?_
  try simp only [Act.put, List.getElem_toArray, List.getElem_cons_zero, List.getElem_cons_succ, List.setIfInBounds_toArray, List.set_cons_zero, List.set_cons_succ]
  refine wpAnyH_take (i := 13) (v := (.agg #[.int .i64 a.s, .bool a.b, .slice a.A a.n a.c, .int .i64 a.lv, .float .f64 a.x])) rfl (by kernel_rfl) (by kernel_rfl) (by kernel_rfl) (fun _ _ _ h => h) (Or.inl ⟨by kernel_rfl, by intro w hSw; (try dsimp only at hSw); go_simp⟩) (by assumption) ?_
  try simp only [Act.put, List.getElem_toArray, List.getElem_cons_zero, List.getElem_cons_succ, List.setIfInBounds_toArray, List.set_cons_zero, List.set_cons_succ]
  refine wpAnyH_take (i := 14) (v := (.agg #[.int .i64 b.s, .bool b.b, .slice b.A b.n b.c, .int .i64 b.lv, .float .f64 b.x])) rfl (by kernel_rfl) (by kernel_rfl) (by kernel_rfl) (fun _ _ _ h => h) (Or.inl ⟨by kernel_rfl, by intro w hSw; (try dsimp only at hSw); go_simp⟩) (by assumption) ?_
  try simp only [Act.put, List.getElem_toArray, List.getElem_cons_zero, List.getElem_cons_succ, List.setIfInBounds_toArray, List.set_cons_zero, List.set_cons_succ]
  refine wpAnyH_take (i := 17) (v := (.agg #[.int .i64 a.s, .bool a.b, .slice a.A a.n a.c, .int .i64 a.lv, .float .f64 a.x])) rfl (by kernel_rfl) (by kernel_rfl) (by kernel_rfl) (fun _ _ _ h => h) (Or.inl ⟨by kernel_rfl, by intro w hSw; (try dsimp only at hSw); go_simp⟩) (by assumption) ?_
  try simp only [Act.put, List.getElem_toArray, List.getElem_cons_zero, List.getElem_cons_succ, List.setIfInBounds_toArray, List.set_cons_zero, List.set_cons_succ]
  refine wpAnyH_ready (rs := [15]) (by kernel_rfl) (by simp) ?_
  refine AllReadyH.cons rfl (fun K hK => ?_) (AllReadyH.nil)
  go_simp
  go_at_call 19
  (with_reducible refine (same_no a b _ Fa.out.ok Fb.out.ok HS).mono ?_); rintro e wh ⟨rfl, hbwh⟩; have BB := Lib.hid (below_go BB.out hbwh); have TT := Lib.hid (TT.out.below hbwh); have Fa := Lib.hid (Fa.out.go hbwh); obtain ⟨a0, a1, a2, a3, a4, a5, _⟩ := Fa.out; have Fb := Lib.hid (Fb.out.go hbwh); obtain ⟨b0, b1, b2, b3, b4, b5, _⟩ := Fb.out; have Fx := Lib.hid (Fx.out.go hbwh); obtain ⟨x0, x1, x2, x3, x4, x5, _⟩ := Fx.out; have Fy := Lib.hid (Fy.out.go hbwh); obtain ⟨y0, y1, y2, y3, y4, y5, _⟩ := Fy.out
  go_wp2_with fail
  refine hK.out _ _ ⟨a0, a1, a2, a3, a4, b0, b1, b2, b3, b4, x0, x1, x2, x3, x4, y0, y1, y2, y3, y4⟩ (fun hHeld => ?_)
  clear hK K
  try simp only [Act.put, List.getElem_toArray, List.getElem_cons_zero, List.getElem_cons_succ, List.setIfInBounds_toArray, List.set_cons_zero, List.set_cons_succ]
  refine wpAnyH_take (i := 16) (v := (.bool true)) rfl (by kernel_rfl) (by kernel_rfl) (by kernel_rfl) (fun _ _ _ h => h) (Or.inl ⟨by kernel_rfl, by intro w hSw; (try dsimp only at hSw); go_simp⟩) (by assumption) ?_
  try simp only [Act.put, List.getElem_toArray, List.getElem_cons_zero, List.getElem_cons_succ, List.setIfInBounds_toArray, List.set_cons_zero, List.set_cons_succ]
  refine wpAnyH_ready (rs := [18]) (by kernel_rfl) (by simp) ?_
  refine AllReadyH.cons rfl (fun K hK => ?_) (AllReadyH.nil)
  go_simp
  go_at_call 15
  (with_reducible refine (rmay_is a _ Fa.out.ok H1).mono ?_); rintro e wi ⟨rfl, hbwi⟩; have BB := Lib.hid (below_go BB.out hbwi); have TT := Lib.hid (TT.out.below hbwi); have Fa := Lib.hid (Fa.out.go hbwi); obtain ⟨a0, a1, a2, a3, a4, a5, _⟩ := Fa.out; have Fb := Lib.hid (Fb.out.go hbwi); obtain ⟨b0, b1, b2, b3, b4, b5, _⟩ := Fb.out; have Fx := Lib.hid (Fx.out.go hbwi); obtain ⟨x0, x1, x2, x3, x4, x5, _⟩ := Fx.out; have Fy := Lib.hid (Fy.out.go hbwi); obtain ⟨y0, y1, y2, y3, y4, y5, _⟩ := Fy.out
  go_wp2_with fail
  refine hK.out _ _ ⟨a0, a1, a2, a3, a4, b0, b1, b2, b3, b4, x0, x1, x2, x3, x4, y0, y1, y2, y3, y4⟩ (fun hHeld => ?_)
  clear hK K
  try simp only [Act.put, List.getElem_toArray, List.getElem_cons_zero, List.getElem_cons_succ, List.setIfInBounds_toArray, List.set_cons_zero, List.set_cons_succ]
  refine wpAnyH_take (i := 19) (v := (.bool false)) rfl (by kernel_rfl) (by kernel_rfl) (by kernel_rfl) (fun _ _ _ h => h) (Or.inl ⟨by kernel_rfl, by intro w hSw; (try dsimp only at hSw); go_simp⟩) (by assumption) ?_
  try simp only [Act.put, List.getElem_toArray, List.getElem_cons_zero, List.getElem_cons_succ, List.setIfInBounds_toArray, List.set_cons_zero, List.set_cons_succ]
  refine wpAnyH_take (i := 20) (v := (.bool false)) rfl (by kernel_rfl) (by kernel_rfl) (by kernel_rfl) (fun _ _ _ h => h) (Or.inl ⟨by kernel_rfl, by intro w hSw; (try dsimp only at hSw); go_simp⟩) (by assumption) ?_
  try simp only [Act.put, List.getElem_toArray, List.getElem_cons_zero, List.getElem_cons_succ, List.setIfInBounds_toArray, List.set_cons_zero, List.set_cons_succ]
  refine wpAnyH_take (i := 21) (v := (.agg #[.int .i64 b.s, .bool b.b, .slice b.A b.n b.c, .int .i64 b.lv, .float .f64 b.x])) rfl (by kernel_rfl) (by kernel_rfl) (by kernel_rfl) (fun _ _ _ h => h) (Or.inl ⟨by kernel_rfl, by intro w hSw; (try dsimp only at hSw); go_simp⟩) (by assumption) ?_
  try simp only [Act.put, List.getElem_toArray, List.getElem_cons_zero, List.getElem_cons_succ, List.setIfInBounds_toArray, List.set_cons_zero, List.set_cons_succ]
  refine wpAnyH_ready (rs := [22]) (by kernel_rfl) (by simp) ?_
  refine AllReadyH.cons rfl (fun K hK => ?_) (AllReadyH.nil)
  go_simp
  go_at_call 15
  (with_reducible refine (rmay_is b _ Fb.out.ok H2).mono ?_); rintro e wj ⟨rfl, hbwj⟩; have BB := Lib.hid (below_go BB.out hbwj); have TT := Lib.hid (TT.out.below hbwj); have Fa := Lib.hid (Fa.out.go hbwj); obtain ⟨a0, a1, a2, a3, a4, a5, _⟩ := Fa.out; have Fb := Lib.hid (Fb.out.go hbwj); obtain ⟨b0, b1, b2, b3, b4, b5, _⟩ := Fb.out; have Fx := Lib.hid (Fx.out.go hbwj); obtain ⟨x0, x1, x2, x3, x4, x5, _⟩ := Fx.out; have Fy := Lib.hid (Fy.out.go hbwj); obtain ⟨y0, y1, y2, y3, y4, y5, _⟩ := Fy.out
  go_wp2_with fail
  refine hK.out _ _ ⟨a0, a1, a2, a3, a4, b0, b1, b2, b3, b4, x0, x1, x2, x3, x4, y0, y1, y2, y3, y4⟩ (fun hHeld => ?_)
  clear hK K
  try simp only [Act.put, List.getElem_toArray, List.getElem_cons_zero, List.getElem_cons_succ, List.setIfInBounds_toArray, List.set_cons_zero, List.set_cons_succ]
  refine wpAnyH_take (i := 23) (v := (.bool true)) rfl (by kernel_rfl) (by kernel_rfl) (by kernel_rfl) (fun _ _ _ h => h) (Or.inl ⟨by kernel_rfl, by intro w hSw; (try dsimp only at hSw); go_simp⟩) (by assumption) ?_
  try simp only [Act.put, List.getElem_toArray, List.getElem_cons_zero, List.getElem_cons_succ, List.setIfInBounds_toArray, List.set_cons_zero, List.set_cons_succ]
  refine wpAnyH_take (i := 24) (v := (.bool true)) rfl (by kernel_rfl) (by kernel_rfl) (by kernel_rfl) (fun _ _ _ h => h) (Or.inl ⟨by kernel_rfl, by intro w hSw; (try dsimp only at hSw); go_simp⟩) (by assumption) ?_
  try simp only [Act.put, List.getElem_toArray, List.getElem_cons_zero, List.getElem_cons_succ, List.setIfInBounds_toArray, List.set_cons_zero, List.set_cons_succ]
  refine wpAnyH_take (i := 25) (v := (.bool true)) rfl (by kernel_rfl) (by kernel_rfl) (by kernel_rfl) (fun _ _ _ h => h) (Or.inl ⟨by kernel_rfl, by intro w hSw; (try dsimp only at hSw); go_simp⟩) (by assumption) ?_
  try simp only [Act.put, List.getElem_toArray, List.getElem_cons_zero, List.getElem_cons_succ, List.setIfInBounds_toArray, List.set_cons_zero, List.set_cons_succ]
  refine wpAnyH_take (i := 26) (v := undef) rfl (by kernel_rfl) (by kernel_rfl) (by kernel_rfl) (fun _ _ _ h => h) (Or.inr ⟨by kernel_rfl, rfl⟩) (by assumption) ?_
  try simp only [Act.put, List.getElem_toArray, List.getElem_cons_zero, List.getElem_cons_succ, List.setIfInBounds_toArray, List.set_cons_zero, List.set_cons_succ]
  refine wpAnyH_take (i := 27) (v := undef) rfl (by kernel_rfl) (by kernel_rfl) (by kernel_rfl) (fun _ _ _ h => h) (Or.inr ⟨by kernel_rfl, rfl⟩) (by assumption) ?_
  try simp only [Act.put, List.getElem_toArray, List.getElem_cons_zero, List.getElem_cons_succ, List.setIfInBounds_toArray, List.set_cons_zero, List.set_cons_succ]
  refine wpAnyH_take (i := 28) (v := undef) rfl (by kernel_rfl) (by kernel_rfl) (by kernel_rfl) (fun _ _ _ h => h) (Or.inr ⟨by kernel_rfl, rfl⟩) (by assumption) ?_
  try simp only [Act.put, List.getElem_toArray, List.getElem_cons_zero, List.getElem_cons_succ, List.setIfInBounds_toArray, List.set_cons_zero, List.set_cons_succ]
  refine wpAnyH_take (i := 29) (v := undef) rfl (by kernel_rfl) (by kernel_rfl) (by kernel_rfl) (fun _ _ _ h => h) (Or.inr ⟨by kernel_rfl, rfl⟩) (by assumption) ?_
  try simp only [Act.put, List.getElem_toArray, List.getElem_cons_zero, List.getElem_cons_succ, List.setIfInBounds_toArray, List.set_cons_zero, List.set_cons_succ]
  refine wpAnyH_take (i := 30) (v := undef) rfl (by kernel_rfl) (by kernel_rfl) (by kernel_rfl) (fun _ _ _ h => h) (Or.inr ⟨by kernel_rfl, rfl⟩) (by assumption) ?_
  try simp only [Act.put, List.getElem_toArray, List.getElem_cons_zero, List.getElem_cons_succ, List.setIfInBounds_toArray, List.set_cons_zero, List.set_cons_succ]
  refine wpAnyH_take (i := 31) (v := (.bool true)) rfl (by kernel_rfl) (by kernel_rfl) (by kernel_rfl) (fun _ _ _ h => h) (Or.inl ⟨by kernel_rfl, by intro w hSw; (try dsimp only at hSw); go_simp⟩) (by assumption) ?_
  try simp only [Act.put, List.getElem_toArray, List.getElem_cons_zero, List.getElem_cons_succ, List.setIfInBounds_toArray, List.set_cons_zero, List.set_cons_succ]
  refine wpAnyH_take (i := 32) (v := (.bool true)) rfl (by kernel_rfl) (by kernel_rfl) (by kernel_rfl) (fun _ _ _ h => h) (Or.inl ⟨by kernel_rfl, by intro w hSw; (try dsimp only at hSw); go_simp⟩) (by assumption) ?_
  try simp only [Act.put, List.getElem_toArray, List.getElem_cons_zero, List.getElem_cons_succ, List.setIfInBounds_toArray, List.set_cons_zero, List.set_cons_succ]
  refine wpAnyH_take (i := 33) (v := (.bool true)) rfl (by kernel_rfl) (by kernel_rfl) (by kernel_rfl) (fun _ _ _ h => h) (Or.inl ⟨by kernel_rfl, by intro w hSw; (try dsimp only at hSw); go_simp⟩) (by assumption) ?_
  try simp only [Act.put, List.getElem_toArray, List.getElem_cons_zero, List.getElem_cons_succ, List.setIfInBounds_toArray, List.set_cons_zero, List.set_cons_succ]
  refine wpAnyH_take (i := 34) (v := (.bool true)) rfl (by kernel_rfl) (by kernel_rfl) (by kernel_rfl) (fun _ _ _ h => h) (Or.inl ⟨by kernel_rfl, by intro w hSw; (try dsimp only at hSw); go_simp⟩) (by assumption) ?_
  try simp only [Act.put, List.getElem_toArray, List.getElem_cons_zero, List.getElem_cons_succ, List.setIfInBounds_toArray, List.set_cons_zero, List.set_cons_succ]
  refine wpAnyH_ready (rs := [35]) (by kernel_rfl) (by simp) ?_
  refine AllReadyH.cons rfl (fun K hK => ?_) (AllReadyH.nil)
  go_simp
  go_at_call 13
  (with_reducible refine (awake_any _ TT.out).mono ?_); rintro e wz ⟨rfl, hbwz⟩; have BB := Lib.hid (below_go BB.out hbwz); have TT := Lib.hid (TT.out.below hbwz); have Fa := Lib.hid (Fa.out.go hbwz); obtain ⟨a0, a1, a2, a3, a4, a5, _⟩ := Fa.out; have Fb := Lib.hid (Fb.out.go hbwz); obtain ⟨b0, b1, b2, b3, b4, b5, _⟩ := Fb.out; have Fx := Lib.hid (Fx.out.go hbwz); obtain ⟨x0, x1, x2, x3, x4, x5, _⟩ := Fx.out; have Fy := Lib.hid (Fy.out.go hbwz); obtain ⟨y0, y1, y2, y3, y4, y5, _⟩ := Fy.out
  go_wp2_with fail
  refine hK.out _ _ ⟨a0, a1, a2, a3, a4, b0, b1, b2, b3, b4, x0, x1, x2, x3, x4, y0, y1, y2, y3, y4⟩ (fun hHeld => ?_)
  clear hK K
  try simp only [Act.put, List.getElem_toArray, List.getElem_cons_zero, List.getElem_cons_succ, List.setIfInBounds_toArray, List.set_cons_zero, List.set_cons_succ]
  refine wpAnyH_take (i := 36) (v := (.bool true)) rfl (by kernel_rfl) (by kernel_rfl) (by kernel_rfl) (fun _ _ _ h => h) (Or.inl ⟨by kernel_rfl, by intro w hSw; (try dsimp only at hSw); go_simp⟩) (by assumption) ?_
  try simp only [Act.put, List.getElem_toArray, List.getElem_cons_zero, List.getElem_cons_succ, List.setIfInBounds_toArray, List.set_cons_zero, List.set_cons_succ]
  refine wpAnyH_take (i := 37) (v := (.bool true)) rfl (by kernel_rfl) (by kernel_rfl) (by kernel_rfl) (fun _ _ _ h => h) (Or.inl ⟨by kernel_rfl, by intro w hSw; (try dsimp only at hSw); go_simp⟩) (by assumption) ?_
  try simp only [Act.put, List.getElem_toArray, List.getElem_cons_zero, List.getElem_cons_succ, List.setIfInBounds_toArray, List.set_cons_zero, List.set_cons_succ]
  refine wpAnyH_done (by kernel_rfl) ?_ _
  go_wp2_with fail
  go_ret
  exact ⟨rfl, BB.out⟩
set_option linter.unusedSimpArgs false in
set_option maxRecDepth 100000 in
set_option maxHeartbeats 4000000 in
theorem mixed_bad3 (a b : SV) (w : World) (ht : Tab w) (ha : a.ok w) (hb : b.ok w) (hs : (decide (a.n ≤ 60) && decide (b.n ≤ 60)) = true) (E Ma Mb : Int) (h1 : Hid (bothE a b = E)) (hE : (E != 0) = true) (hE2 : (E == 0) = false) (H1 : Hid (a.may = Ma)) (H2 : Hid (b.may = Mb)) (hA : (Ma != 0) = false) (hA2 : (Ma == 0) = true) (hB : (Mb != 0) = false) (hB2 : (Mb == 0) = true) (hS : (a.s == b.s) = false) :
    Calls Tryd.prog 9 #[a.v, b.v] w fun e w' => e = .returned (.bool true) ∧ Below w.heap.size w w' := by
  have hs' := Lib.hid hs
  have hna := ha.1.2.2.2
  have hnb := hb.1.2.2.2
  have h2 := Lib.hid (boxed2 ha hb ht _ rfl)
  have Fa := Lib.hid h2.out.1
  have Fb := Lib.hid h2.out.2.1
  have BB := Lib.hid h2.out.2.2.1
  have TT := Lib.hid h2.out.2.2.2
  have hN3 := hs
  rw [Bool.and_eq_true, decide_eq_true_iff, decide_eq_true_iff] at hN3
  have N60 := Lib.hid hN3
  have Nab := Lib.hid (show max a.n b.n + 1 ≤ 64 by have := N60.out; omega)
  have Nat' := Lib.hid (show a.n + b.n + 1 ≤ 121 by have := N60.out; omega)
  have N64 : 64 ≤ 1099511627776 := by decide
  have N121 : 121 ≤ 1099511627776 := by decide
  have hSn : ¬ a.s = b.s := by simpa using hS
  have HE := Lib.hid hE
  have HS := Lib.hid (show sameE a b = false by unfold sameE; rw [h1.out, hE2]; rfl)
  clear hN3 hs ha hb ht h2
  unfold SV.v
  go_enter Tryd.func9, Tryd.ntmps9
  go_wp2_with (first
    | (go_at_call 12; (with_reducible refine (small2 _ a b _ true hs' hna hnb (by go_simp) (by go_simp)).mono ?_); rintro e w1 ⟨rfl, rfl⟩)
    | (go_at_call 18; (with_reducible refine (plus_e a b _ 64 E Fa.out.ok Fb.out.ok Nab.out N64 h1 HE).mono ?_); rintro e wx ⟨x, rfl, xok, xC, xc, xn, hbx⟩; have Hxok := Lib.hid xok; have Fa := Lib.hid ((Fa.out.go hbx).al (.cells #[.int .i64 x.s, .bool x.b, .slice x.A x.n x.c, .int .i64 x.lv, .float .f64 x.x] 27)); have Fb := Lib.hid ((Fb.out.go hbx).al (.cells #[.int .i64 x.s, .bool x.b, .slice x.A x.n x.c, .int .i64 x.lv, .float .f64 x.x] 27)); have BB := Lib.hid (below_al (below_go BB.out hbx) (.cells #[.int .i64 x.s, .bool x.b, .slice x.A x.n x.c, .int .i64 x.lv, .float .f64 x.x] 27)); have TT := Lib.hid ((TT.out.below hbx).below (below_al (Below.refl _ _) (.cells #[.int .i64 x.s, .bool x.b, .slice x.A x.n x.c, .int .i64 x.lv, .float .f64 x.x] 27))); have Fx := Lib.hid (five_new _ x Hxok.out); obtain ⟨c66_0, c66_1, c66_2, c66_3, c66_4, c66_5, _⟩ := Fa.out; obtain ⟨c67_0, c67_1, c67_2, c67_3, c67_4, c67_5, _⟩ := Fb.out; obtain ⟨c68_0, c68_1, c68_2, c68_3, c68_4, c68_5, _⟩ := Fx.out)
    | (go_at_call 17; (with_reducible refine (times_e a b _ 121 E Fa.out.ok Fb.out.ok Nat'.out N121 h1 HE).mono ?_); rintro e wy ⟨y, rfl, yok, yC, yc, yn, hby⟩; have Hyok := Lib.hid yok; have Fa := Lib.hid ((Fa.out.go hby).al (.cells #[.int .i64 y.s, .bool y.b, .slice y.A y.n y.c, .int .i64 y.lv, .float .f64 y.x] 27)); have Fb := Lib.hid ((Fb.out.go hby).al (.cells #[.int .i64 y.s, .bool y.b, .slice y.A y.n y.c, .int .i64 y.lv, .float .f64 y.x] 27)); have Fx := Lib.hid ((Fx.out.go hby).al (.cells #[.int .i64 y.s, .bool y.b, .slice y.A y.n y.c, .int .i64 y.lv, .float .f64 y.x] 27)); have BB := Lib.hid (below_al (below_go BB.out hby) (.cells #[.int .i64 y.s, .bool y.b, .slice y.A y.n y.c, .int .i64 y.lv, .float .f64 y.x] 27)); have TT := Lib.hid ((TT.out.below hby).below (below_al (Below.refl _ _) (.cells #[.int .i64 y.s, .bool y.b, .slice y.A y.n y.c, .int .i64 y.lv, .float .f64 y.x] 27))); have Fy := Lib.hid (five_new _ y Hyok.out); obtain ⟨c69_0, c69_1, c69_2, c69_3, c69_4, c69_5, _⟩ := Fa.out; obtain ⟨c70_0, c70_1, c70_2, c70_3, c70_4, c70_5, _⟩ := Fb.out; obtain ⟨c71_0, c71_1, c71_2, c71_3, c71_4, c71_5, _⟩ := Fx.out; obtain ⟨c72_0, c72_1, c72_2, c72_3, c72_4, c72_5, _⟩ := Fy.out)
    | (go_at_call 31; (with_reducible refine (better_n a b _ 64 E Fa.out.ok Fb.out.ok Nab.out N64 h1 HE).mono ?_); rintro e wk ⟨rfl, hbwk⟩; have Fa := Lib.hid (Fa.out.go hbwk); have Fb := Lib.hid (Fb.out.go hbwk); have Fx := Lib.hid (Fx.out.go hbwk); have Fy := Lib.hid (Fy.out.go hbwk); have BB := Lib.hid (below_go BB.out hbwk); have TT := Lib.hid (TT.out.below hbwk); obtain ⟨c73_0, c73_1, c73_2, c73_3, c73_4, c73_5, _⟩ := Fa.out; obtain ⟨c74_0, c74_1, c74_2, c74_3, c74_4, c74_5, _⟩ := Fb.out; obtain ⟨c75_0, c75_1, c75_2, c75_3, c75_4, c75_5, _⟩ := Fx.out; obtain ⟨c76_0, c76_1, c76_2, c76_3, c76_4, c76_5, _⟩ := Fy.out)
    | (go_at_call 32; (with_reducible refine (may_is a _ Fa.out.ok H1).mono ?_); rintro e wa ⟨rfl, hbwa⟩; have Fa := Lib.hid (Fa.out.go hbwa); have Fb := Lib.hid (Fb.out.go hbwa); have Fx := Lib.hid (Fx.out.go hbwa); have Fy := Lib.hid (Fy.out.go hbwa); have BB := Lib.hid (below_go BB.out hbwa); have TT := Lib.hid (TT.out.below hbwa); obtain ⟨c77_0, c77_1, c77_2, c77_3, c77_4, c77_5, _⟩ := Fa.out; obtain ⟨c78_0, c78_1, c78_2, c78_3, c78_4, c78_5, _⟩ := Fb.out; obtain ⟨c79_0, c79_1, c79_2, c79_3, c79_4, c79_5, _⟩ := Fx.out; obtain ⟨c80_0, c80_1, c80_2, c80_3, c80_4, c80_5, _⟩ := Fy.out)
    | (go_at_call 32; (with_reducible refine (may_is b _ Fb.out.ok H2).mono ?_); rintro e wb ⟨rfl, hbwb⟩; have Fa := Lib.hid (Fa.out.go hbwb); have Fb := Lib.hid (Fb.out.go hbwb); have Fx := Lib.hid (Fx.out.go hbwb); have Fy := Lib.hid (Fy.out.go hbwb); have BB := Lib.hid (below_go BB.out hbwb); have TT := Lib.hid (TT.out.below hbwb); obtain ⟨c81_0, c81_1, c81_2, c81_3, c81_4, c81_5, _⟩ := Fa.out; obtain ⟨c82_0, c82_1, c82_2, c82_3, c82_4, c82_5, _⟩ := Fb.out; obtain ⟨c83_0, c83_1, c83_2, c83_3, c83_4, c83_5, _⟩ := Fx.out; obtain ⟨c84_0, c84_1, c84_2, c84_3, c84_4, c84_5, _⟩ := Fy.out))
  have BB := Lib.hid (below_dr BB.out)
  have TT := Lib.hid (TT.out.below (below_dr (Below.refl _ _)))
  have Fa := Lib.hid Fa.out.drew
  have Fb := Lib.hid Fb.out.drew
  have Fx := Lib.hid Fx.out.drew
  have Fy := Lib.hid Fy.out.drew
  obtain ⟨a0, a1, a2, a3, a4, a5, _⟩ := Fa.out
  obtain ⟨b0, b1, b2, b3, b4, b5, _⟩ := Fb.out
  obtain ⟨x0, x1, x2, x3, x4, x5, _⟩ := Fx.out
  obtain ⟨y0, y1, y2, y3, y4, y5, _⟩ := Fy.out
  refine wp_region_held_drew (S := fun w' => w'.cell? ⟨w.heap.size, 0, none⟩ = some (.int .i64 a.s) ∧ w'.cell? ⟨w.heap.size, 1, none⟩ = some (.bool a.b) ∧ w'.cell? ⟨w.heap.size, 2, none⟩ = some (.slice a.A a.n a.c) ∧ w'.cell? ⟨w.heap.size, 3, none⟩ = some (.int .i64 a.lv) ∧ w'.cell? ⟨w.heap.size, 4, none⟩ = some (.float .f64 a.x) ∧ w'.cell? ⟨w.heap.size + 1, 0, none⟩ = some (.int .i64 b.s) ∧ w'.cell? ⟨w.heap.size + 1, 1, none⟩ = some (.bool b.b) ∧ w'.cell? ⟨w.heap.size + 1, 2, none⟩ = some (.slice b.A b.n b.c) ∧ w'.cell? ⟨w.heap.size + 1, 3, none⟩ = some (.int .i64 b.lv) ∧ w'.cell? ⟨w.heap.size + 1, 4, none⟩ = some (.float .f64 b.x) ∧ w'.cell? ⟨wx.heap.size, 0, none⟩ = some (.int .i64 x.s) ∧ w'.cell? ⟨wx.heap.size, 1, none⟩ = some (.bool x.b) ∧ w'.cell? ⟨wx.heap.size, 2, none⟩ = some (.slice x.A x.n x.c) ∧ w'.cell? ⟨wx.heap.size, 3, none⟩ = some (.int .i64 x.lv) ∧ w'.cell? ⟨wx.heap.size, 4, none⟩ = some (.float .f64 x.x) ∧ w'.cell? ⟨wy.heap.size, 0, none⟩ = some (.int .i64 y.s) ∧ w'.cell? ⟨wy.heap.size, 1, none⟩ = some (.bool y.b) ∧ w'.cell? ⟨wy.heap.size, 2, none⟩ = some (.slice y.A y.n y.c) ∧ w'.cell? ⟨wy.heap.size, 3, none⟩ = some (.int .i64 y.lv) ∧ w'.cell? ⟨wy.heap.size, 4, none⟩ = some (.float .f64 y.x)) (by kernel_rfl) ⟨a0, a1, a2, a3, a4, b0, b1, b2, b3, b4, x0, x1, x2, x3, x4, y0, y1, y2, y3, y4⟩ (fun hHeld => ?_)
  refine wpAnyH_take (i := 0) (v := (.agg #[.int .i64 x.s, .bool x.b, .slice x.A x.n x.c, .int .i64 x.lv, .float .f64 x.x])) rfl (by kernel_rfl) (by kernel_rfl) (by kernel_rfl) (fun _ _ _ h => h) (Or.inl ⟨by kernel_rfl, by intro w hSw; (try dsimp only at hSw); go_simp⟩) (by assumption) ?_
  try simp only [Act.put, List.getElem_toArray, List.getElem_cons_zero, List.getElem_cons_succ, List.setIfInBounds_toArray, List.set_cons_zero, List.set_cons_succ]
  refine wpAnyH_take (i := 1) (v := (.agg #[.int .i64 0, .bool false, .slice none 0 0, .int .i64 0, .float .f64 0])) rfl (by kernel_rfl) (by kernel_rfl) (by kernel_rfl) (fun _ _ _ h => h) (Or.inl ⟨by kernel_rfl, by intro w hSw; (try dsimp only at hSw); go_simp⟩) (by assumption) ?_
  try simp only [Act.put, List.getElem_toArray, List.getElem_cons_zero, List.getElem_cons_succ, List.setIfInBounds_toArray, List.set_cons_zero, List.set_cons_succ]
  refine wpAnyH_ready (rs := [2]) (by kernel_rfl) (by simp) ?_
  refine AllReadyH.cons rfl (fun K hK => ?_) (AllReadyH.nil)
  go_simp
  go_at_call 33
  (with_reducible refine (fields_none x _ Fx.out.ok xc xC).mono ?_); rintro e wf ⟨rfl, hbwf⟩; have BB := Lib.hid (below_go BB.out hbwf); have TT := Lib.hid (TT.out.below hbwf); have Fa := Lib.hid (Fa.out.go hbwf); obtain ⟨a0, a1, a2, a3, a4, a5, _⟩ := Fa.out; have Fb := Lib.hid (Fb.out.go hbwf); obtain ⟨b0, b1, b2, b3, b4, b5, _⟩ := Fb.out; have Fx := Lib.hid (Fx.out.go hbwf); obtain ⟨x0, x1, x2, x3, x4, x5, _⟩ := Fx.out; have Fy := Lib.hid (Fy.out.go hbwf); obtain ⟨y0, y1, y2, y3, y4, y5, _⟩ := Fy.out
  go_wp2_with fail
  refine hK.out _ _ ⟨a0, a1, a2, a3, a4, b0, b1, b2, b3, b4, x0, x1, x2, x3, x4, y0, y1, y2, y3, y4⟩ (fun hHeld => ?_)
  clear hK K
  try simp only [Act.put, List.getElem_toArray, List.getElem_cons_zero, List.getElem_cons_succ, List.setIfInBounds_toArray, List.set_cons_zero, List.set_cons_succ]
  refine wpAnyH_take (i := 3) (v := (.bool true)) rfl (by kernel_rfl) (by kernel_rfl) (by kernel_rfl) (fun _ _ _ h => h) (Or.inl ⟨by kernel_rfl, by intro w hSw; (try dsimp only at hSw); go_simp⟩) (by assumption) ?_
  try simp only [Act.put, List.getElem_toArray, List.getElem_cons_zero, List.getElem_cons_succ, List.setIfInBounds_toArray, List.set_cons_zero, List.set_cons_succ]
  refine wpAnyH_take (i := 4) (v := (.agg #[.int .i64 y.s, .bool y.b, .slice y.A y.n y.c, .int .i64 y.lv, .float .f64 y.x])) rfl (by kernel_rfl) (by kernel_rfl) (by kernel_rfl) (fun _ _ _ h => h) (Or.inl ⟨by kernel_rfl, by intro w hSw; (try dsimp only at hSw); go_simp⟩) (by assumption) ?_
  try simp only [Act.put, List.getElem_toArray, List.getElem_cons_zero, List.getElem_cons_succ, List.setIfInBounds_toArray, List.set_cons_zero, List.set_cons_succ]
  refine wpAnyH_take (i := 5) (v := (.agg #[.int .i64 0, .bool false, .slice none 0 0, .int .i64 0, .float .f64 0])) rfl (by kernel_rfl) (by kernel_rfl) (by kernel_rfl) (fun _ _ _ h => h) (Or.inl ⟨by kernel_rfl, by intro w hSw; (try dsimp only at hSw); go_simp⟩) (by assumption) ?_
  try simp only [Act.put, List.getElem_toArray, List.getElem_cons_zero, List.getElem_cons_succ, List.setIfInBounds_toArray, List.set_cons_zero, List.set_cons_succ]
  refine wpAnyH_ready (rs := [6]) (by kernel_rfl) (by simp) ?_
  refine AllReadyH.cons rfl (fun K hK => ?_) (AllReadyH.nil)
  go_simp
  go_at_call 33
  (with_reducible refine (fields_none y _ Fy.out.ok yc yC).mono ?_); rintro e wg ⟨rfl, hbwg⟩; have BB := Lib.hid (below_go BB.out hbwg); have TT := Lib.hid (TT.out.below hbwg); have Fa := Lib.hid (Fa.out.go hbwg); obtain ⟨a0, a1, a2, a3, a4, a5, _⟩ := Fa.out; have Fb := Lib.hid (Fb.out.go hbwg); obtain ⟨b0, b1, b2, b3, b4, b5, _⟩ := Fb.out; have Fx := Lib.hid (Fx.out.go hbwg); obtain ⟨x0, x1, x2, x3, x4, x5, _⟩ := Fx.out; have Fy := Lib.hid (Fy.out.go hbwg); obtain ⟨y0, y1, y2, y3, y4, y5, _⟩ := Fy.out
  go_wp2_with fail
  refine hK.out _ _ ⟨a0, a1, a2, a3, a4, b0, b1, b2, b3, b4, x0, x1, x2, x3, x4, y0, y1, y2, y3, y4⟩ (fun hHeld => ?_)
  clear hK K
  try simp only [Act.put, List.getElem_toArray, List.getElem_cons_zero, List.getElem_cons_succ, List.setIfInBounds_toArray, List.set_cons_zero, List.set_cons_succ]
  refine wpAnyH_take (i := 7) (v := (.bool true)) rfl (by kernel_rfl) (by kernel_rfl) (by kernel_rfl) (fun _ _ _ h => h) (Or.inl ⟨by kernel_rfl, by intro w hSw; (try dsimp only at hSw); go_simp⟩) (by assumption) ?_
  try simp only [Act.put, List.getElem_toArray, List.getElem_cons_zero, List.getElem_cons_succ, List.setIfInBounds_toArray, List.set_cons_zero, List.set_cons_succ]
  refine wpAnyH_take (i := 8) (v := (.bool true)) rfl (by kernel_rfl) (by kernel_rfl) (by kernel_rfl) (fun _ _ _ h => h) (Or.inl ⟨by kernel_rfl, by intro w hSw; (try dsimp only at hSw); go_simp⟩) (by assumption) ?_
  try simp only [Act.put, List.getElem_toArray, List.getElem_cons_zero, List.getElem_cons_succ, List.setIfInBounds_toArray, List.set_cons_zero, List.set_cons_succ]
  refine wpAnyH_take (i := 9) (v := (.bool false)) rfl (by kernel_rfl) (by kernel_rfl) (by kernel_rfl) (fun _ _ _ h => h) (Or.inl ⟨by kernel_rfl, by intro w hSw; (try dsimp only at hSw); go_simp⟩) (by assumption) ?_
  try simp only [Act.put, List.getElem_toArray, List.getElem_cons_zero, List.getElem_cons_succ, List.setIfInBounds_toArray, List.set_cons_zero, List.set_cons_succ]
  refine wpAnyH_take (i := 10) (v := (.bool true)) rfl (by kernel_rfl) (by kernel_rfl) (by kernel_rfl) (fun _ _ _ h => h) (Or.inl ⟨by kernel_rfl, by intro w hSw; (try dsimp only at hSw); go_simp⟩) (by assumption) ?_
  try simp only [Act.put, List.getElem_toArray, List.getElem_cons_zero, List.getElem_cons_succ, List.setIfInBounds_toArray, List.set_cons_zero, List.set_cons_succ]
  refine wpAnyH_take (i := 11) (v := (.bool true)) rfl (by kernel_rfl) (by kernel_rfl) (by kernel_rfl) (fun _ _ _ h => h) (Or.inl ⟨by kernel_rfl, by intro w hSw; (try dsimp only at hSw); go_simp⟩) (by assumption) ?_
  try simp only [Act.put, List.getElem_toArray, List.getElem_cons_zero, List.getElem_cons_succ, List.setIfInBounds_toArray, List.set_cons_zero, List.set_cons_succ]
  refine wpAnyH_take (i := 12) (v := (.bool true)) rfl (by kernel_rfl) (by kernel_rfl) (by kernel_rfl) (fun _ _ _ h => h) (Or.inl ⟨by kernel_rfl, by intro w hSw; (try dsimp only at hSw); go_simp⟩) (by assumption) ?_
  try simp only [Act.put, List.getElem_toArray, List.getElem_cons_zero, List.getElem_cons_succ, List.setIfInBounds_toArray, List.set_cons_zero, List.set_cons_succ]
  refine wpAnyH_take (i := 13) (v := (.agg #[.int .i64 a.s, .bool a.b, .slice a.A a.n a.c, .int .i64 a.lv, .float .f64 a.x])) rfl (by kernel_rfl) (by kernel_rfl) (by kernel_rfl) (fun _ _ _ h => h) (Or.inl ⟨by kernel_rfl, by intro w hSw; (try dsimp only at hSw); go_simp⟩) (by assumption) ?_
  try simp only [Act.put, List.getElem_toArray, List.getElem_cons_zero, List.getElem_cons_succ, List.setIfInBounds_toArray, List.set_cons_zero, List.set_cons_succ]
  refine wpAnyH_take (i := 14) (v := (.agg #[.int .i64 b.s, .bool b.b, .slice b.A b.n b.c, .int .i64 b.lv, .float .f64 b.x])) rfl (by kernel_rfl) (by kernel_rfl) (by kernel_rfl) (fun _ _ _ h => h) (Or.inl ⟨by kernel_rfl, by intro w hSw; (try dsimp only at hSw); go_simp⟩) (by assumption) ?_
  try simp only [Act.put, List.getElem_toArray, List.getElem_cons_zero, List.getElem_cons_succ, List.setIfInBounds_toArray, List.set_cons_zero, List.set_cons_succ]
  refine wpAnyH_take (i := 17) (v := (.agg #[.int .i64 a.s, .bool a.b, .slice a.A a.n a.c, .int .i64 a.lv, .float .f64 a.x])) rfl (by kernel_rfl) (by kernel_rfl) (by kernel_rfl) (fun _ _ _ h => h) (Or.inl ⟨by kernel_rfl, by intro w hSw; (try dsimp only at hSw); go_simp⟩) (by assumption) ?_
  try simp only [Act.put, List.getElem_toArray, List.getElem_cons_zero, List.getElem_cons_succ, List.setIfInBounds_toArray, List.set_cons_zero, List.set_cons_succ]
  refine wpAnyH_ready (rs := [15]) (by kernel_rfl) (by simp) ?_
  refine AllReadyH.cons rfl (fun K hK => ?_) (AllReadyH.nil)
  go_simp
  go_at_call 19
  (with_reducible refine (same_no a b _ Fa.out.ok Fb.out.ok HS).mono ?_); rintro e wh ⟨rfl, hbwh⟩; have BB := Lib.hid (below_go BB.out hbwh); have TT := Lib.hid (TT.out.below hbwh); have Fa := Lib.hid (Fa.out.go hbwh); obtain ⟨a0, a1, a2, a3, a4, a5, _⟩ := Fa.out; have Fb := Lib.hid (Fb.out.go hbwh); obtain ⟨b0, b1, b2, b3, b4, b5, _⟩ := Fb.out; have Fx := Lib.hid (Fx.out.go hbwh); obtain ⟨x0, x1, x2, x3, x4, x5, _⟩ := Fx.out; have Fy := Lib.hid (Fy.out.go hbwh); obtain ⟨y0, y1, y2, y3, y4, y5, _⟩ := Fy.out
  go_wp2_with fail
  refine hK.out _ _ ⟨a0, a1, a2, a3, a4, b0, b1, b2, b3, b4, x0, x1, x2, x3, x4, y0, y1, y2, y3, y4⟩ (fun hHeld => ?_)
  clear hK K
  try simp only [Act.put, List.getElem_toArray, List.getElem_cons_zero, List.getElem_cons_succ, List.setIfInBounds_toArray, List.set_cons_zero, List.set_cons_succ]
  refine wpAnyH_take (i := 16) (v := (.bool true)) rfl (by kernel_rfl) (by kernel_rfl) (by kernel_rfl) (fun _ _ _ h => h) (Or.inl ⟨by kernel_rfl, by intro w hSw; (try dsimp only at hSw); go_simp⟩) (by assumption) ?_
  try simp only [Act.put, List.getElem_toArray, List.getElem_cons_zero, List.getElem_cons_succ, List.setIfInBounds_toArray, List.set_cons_zero, List.set_cons_succ]
  refine wpAnyH_ready (rs := [18]) (by kernel_rfl) (by simp) ?_
  refine AllReadyH.cons rfl (fun K hK => ?_) (AllReadyH.nil)
  go_simp
  go_at_call 15
  (with_reducible refine (rmay_is a _ Fa.out.ok H1).mono ?_); rintro e wi ⟨rfl, hbwi⟩; have BB := Lib.hid (below_go BB.out hbwi); have TT := Lib.hid (TT.out.below hbwi); have Fa := Lib.hid (Fa.out.go hbwi); obtain ⟨a0, a1, a2, a3, a4, a5, _⟩ := Fa.out; have Fb := Lib.hid (Fb.out.go hbwi); obtain ⟨b0, b1, b2, b3, b4, b5, _⟩ := Fb.out; have Fx := Lib.hid (Fx.out.go hbwi); obtain ⟨x0, x1, x2, x3, x4, x5, _⟩ := Fx.out; have Fy := Lib.hid (Fy.out.go hbwi); obtain ⟨y0, y1, y2, y3, y4, y5, _⟩ := Fy.out
  go_wp2_with fail
  refine hK.out _ _ ⟨a0, a1, a2, a3, a4, b0, b1, b2, b3, b4, x0, x1, x2, x3, x4, y0, y1, y2, y3, y4⟩ (fun hHeld => ?_)
  clear hK K
  try simp only [Act.put, List.getElem_toArray, List.getElem_cons_zero, List.getElem_cons_succ, List.setIfInBounds_toArray, List.set_cons_zero, List.set_cons_succ]
  refine wpAnyH_take (i := 19) (v := (.bool false)) rfl (by kernel_rfl) (by kernel_rfl) (by kernel_rfl) (fun _ _ _ h => h) (Or.inl ⟨by kernel_rfl, by intro w hSw; (try dsimp only at hSw); go_simp⟩) (by assumption) ?_
  try simp only [Act.put, List.getElem_toArray, List.getElem_cons_zero, List.getElem_cons_succ, List.setIfInBounds_toArray, List.set_cons_zero, List.set_cons_succ]
  refine wpAnyH_take (i := 20) (v := (.bool false)) rfl (by kernel_rfl) (by kernel_rfl) (by kernel_rfl) (fun _ _ _ h => h) (Or.inl ⟨by kernel_rfl, by intro w hSw; (try dsimp only at hSw); go_simp⟩) (by assumption) ?_
  try simp only [Act.put, List.getElem_toArray, List.getElem_cons_zero, List.getElem_cons_succ, List.setIfInBounds_toArray, List.set_cons_zero, List.set_cons_succ]
  refine wpAnyH_take (i := 21) (v := (.agg #[.int .i64 b.s, .bool b.b, .slice b.A b.n b.c, .int .i64 b.lv, .float .f64 b.x])) rfl (by kernel_rfl) (by kernel_rfl) (by kernel_rfl) (fun _ _ _ h => h) (Or.inl ⟨by kernel_rfl, by intro w hSw; (try dsimp only at hSw); go_simp⟩) (by assumption) ?_
  try simp only [Act.put, List.getElem_toArray, List.getElem_cons_zero, List.getElem_cons_succ, List.setIfInBounds_toArray, List.set_cons_zero, List.set_cons_succ]
  refine wpAnyH_ready (rs := [22]) (by kernel_rfl) (by simp) ?_
  refine AllReadyH.cons rfl (fun K hK => ?_) (AllReadyH.nil)
  go_simp
  go_at_call 15
  (with_reducible refine (rmay_is b _ Fb.out.ok H2).mono ?_); rintro e wj ⟨rfl, hbwj⟩; have BB := Lib.hid (below_go BB.out hbwj); have TT := Lib.hid (TT.out.below hbwj); have Fa := Lib.hid (Fa.out.go hbwj); obtain ⟨a0, a1, a2, a3, a4, a5, _⟩ := Fa.out; have Fb := Lib.hid (Fb.out.go hbwj); obtain ⟨b0, b1, b2, b3, b4, b5, _⟩ := Fb.out; have Fx := Lib.hid (Fx.out.go hbwj); obtain ⟨x0, x1, x2, x3, x4, x5, _⟩ := Fx.out; have Fy := Lib.hid (Fy.out.go hbwj); obtain ⟨y0, y1, y2, y3, y4, y5, _⟩ := Fy.out
  go_wp2_with fail
  refine hK.out _ _ ⟨a0, a1, a2, a3, a4, b0, b1, b2, b3, b4, x0, x1, x2, x3, x4, y0, y1, y2, y3, y4⟩ (fun hHeld => ?_)
  clear hK K
  try simp only [Act.put, List.getElem_toArray, List.getElem_cons_zero, List.getElem_cons_succ, List.setIfInBounds_toArray, List.set_cons_zero, List.set_cons_succ]
  refine wpAnyH_take (i := 23) (v := (.bool false)) rfl (by kernel_rfl) (by kernel_rfl) (by kernel_rfl) (fun _ _ _ h => h) (Or.inl ⟨by kernel_rfl, by intro w hSw; (try dsimp only at hSw); go_simp⟩) (by assumption) ?_
  try simp only [Act.put, List.getElem_toArray, List.getElem_cons_zero, List.getElem_cons_succ, List.setIfInBounds_toArray, List.set_cons_zero, List.set_cons_succ]
  refine wpAnyH_take (i := 24) (v := (.bool false)) rfl (by kernel_rfl) (by kernel_rfl) (by kernel_rfl) (fun _ _ _ h => h) (Or.inl ⟨by kernel_rfl, by intro w hSw; (try dsimp only at hSw); go_simp⟩) (by assumption) ?_
  try simp only [Act.put, List.getElem_toArray, List.getElem_cons_zero, List.getElem_cons_succ, List.setIfInBounds_toArray, List.set_cons_zero, List.set_cons_succ]
  refine wpAnyH_take (i := 25) (v := (.bool false)) rfl (by kernel_rfl) (by kernel_rfl) (by kernel_rfl) (fun _ _ _ h => h) (Or.inl ⟨by kernel_rfl, by intro w hSw; (try dsimp only at hSw); go_simp⟩) (by assumption) ?_
  try simp only [Act.put, List.getElem_toArray, List.getElem_cons_zero, List.getElem_cons_succ, List.setIfInBounds_toArray, List.set_cons_zero, List.set_cons_succ]
  refine wpAnyH_take (i := 26) (v := (.pointer (some ⟨w.heap.size, 0, none⟩))) rfl (by kernel_rfl) (by kernel_rfl) (by kernel_rfl) (fun _ _ _ h => h) (Or.inl ⟨by kernel_rfl, by intro w hSw; (try dsimp only at hSw); go_simp⟩) (by assumption) ?_
  try simp only [Act.put, List.getElem_toArray, List.getElem_cons_zero, List.getElem_cons_succ, List.setIfInBounds_toArray, List.set_cons_zero, List.set_cons_succ]
  refine wpAnyH_take (i := 27) (v := (.int .i64 a.s)) rfl (by kernel_rfl) (by kernel_rfl) (by kernel_rfl) (fun _ _ _ h => h) (Or.inl ⟨by kernel_rfl, by intro w hSw; (try dsimp only at hSw); go_simp⟩) (by assumption) ?_
  try simp only [Act.put, List.getElem_toArray, List.getElem_cons_zero, List.getElem_cons_succ, List.setIfInBounds_toArray, List.set_cons_zero, List.set_cons_succ]
  refine wpAnyH_take (i := 28) (v := (.pointer (some ⟨w.heap.size + 1, 0, none⟩))) rfl (by kernel_rfl) (by kernel_rfl) (by kernel_rfl) (fun _ _ _ h => h) (Or.inl ⟨by kernel_rfl, by intro w hSw; (try dsimp only at hSw); go_simp⟩) (by assumption) ?_
  try simp only [Act.put, List.getElem_toArray, List.getElem_cons_zero, List.getElem_cons_succ, List.setIfInBounds_toArray, List.set_cons_zero, List.set_cons_succ]
  refine wpAnyH_take (i := 29) (v := (.int .i64 b.s)) rfl (by kernel_rfl) (by kernel_rfl) (by kernel_rfl) (fun _ _ _ h => h) (Or.inl ⟨by kernel_rfl, by intro w hSw; (try dsimp only at hSw); go_simp⟩) (by assumption) ?_
  try simp only [Act.put, List.getElem_toArray, List.getElem_cons_zero, List.getElem_cons_succ, List.setIfInBounds_toArray, List.set_cons_zero, List.set_cons_succ]
  refine wpAnyH_take (i := 30) (v := (.bool true)) rfl (by kernel_rfl) (by kernel_rfl) (by kernel_rfl) (fun _ _ _ h => h) (Or.inl ⟨by kernel_rfl, by intro w hSw; (try dsimp only at hSw); go_simp⟩) (by assumption) ?_
  try simp only [Act.put, List.getElem_toArray, List.getElem_cons_zero, List.getElem_cons_succ, List.setIfInBounds_toArray, List.set_cons_zero, List.set_cons_succ]
  refine wpAnyH_take (i := 31) (v := (.bool true)) rfl (by kernel_rfl) (by kernel_rfl) (by kernel_rfl) (fun _ _ _ h => h) (Or.inl ⟨by kernel_rfl, by intro w hSw; (try dsimp only at hSw); go_simp⟩) (by assumption) ?_
  try simp only [Act.put, List.getElem_toArray, List.getElem_cons_zero, List.getElem_cons_succ, List.setIfInBounds_toArray, List.set_cons_zero, List.set_cons_succ]
  refine wpAnyH_take (i := 32) (v := (.bool true)) rfl (by kernel_rfl) (by kernel_rfl) (by kernel_rfl) (fun _ _ _ h => h) (Or.inl ⟨by kernel_rfl, by intro w hSw; (try dsimp only at hSw); go_simp⟩) (by assumption) ?_
  try simp only [Act.put, List.getElem_toArray, List.getElem_cons_zero, List.getElem_cons_succ, List.setIfInBounds_toArray, List.set_cons_zero, List.set_cons_succ]
  refine wpAnyH_take (i := 33) (v := (.bool true)) rfl (by kernel_rfl) (by kernel_rfl) (by kernel_rfl) (fun _ _ _ h => h) (Or.inl ⟨by kernel_rfl, by intro w hSw; (try dsimp only at hSw); go_simp⟩) (by assumption) ?_
  try simp only [Act.put, List.getElem_toArray, List.getElem_cons_zero, List.getElem_cons_succ, List.setIfInBounds_toArray, List.set_cons_zero, List.set_cons_succ]
  refine wpAnyH_take (i := 34) (v := (.bool true)) rfl (by kernel_rfl) (by kernel_rfl) (by kernel_rfl) (fun _ _ _ h => h) (Or.inl ⟨by kernel_rfl, by intro w hSw; (try dsimp only at hSw); go_simp⟩) (by assumption) ?_
  try simp only [Act.put, List.getElem_toArray, List.getElem_cons_zero, List.getElem_cons_succ, List.setIfInBounds_toArray, List.set_cons_zero, List.set_cons_succ]
  refine wpAnyH_ready (rs := [35]) (by kernel_rfl) (by simp) ?_
  refine AllReadyH.cons rfl (fun K hK => ?_) (AllReadyH.nil)
  go_simp
  go_at_call 13
  (with_reducible refine (awake_any _ TT.out).mono ?_); rintro e wz ⟨rfl, hbwz⟩; have BB := Lib.hid (below_go BB.out hbwz); have TT := Lib.hid (TT.out.below hbwz); have Fa := Lib.hid (Fa.out.go hbwz); obtain ⟨a0, a1, a2, a3, a4, a5, _⟩ := Fa.out; have Fb := Lib.hid (Fb.out.go hbwz); obtain ⟨b0, b1, b2, b3, b4, b5, _⟩ := Fb.out; have Fx := Lib.hid (Fx.out.go hbwz); obtain ⟨x0, x1, x2, x3, x4, x5, _⟩ := Fx.out; have Fy := Lib.hid (Fy.out.go hbwz); obtain ⟨y0, y1, y2, y3, y4, y5, _⟩ := Fy.out
  go_wp2_with fail
  refine hK.out _ _ ⟨a0, a1, a2, a3, a4, b0, b1, b2, b3, b4, x0, x1, x2, x3, x4, y0, y1, y2, y3, y4⟩ (fun hHeld => ?_)
  clear hK K
  try simp only [Act.put, List.getElem_toArray, List.getElem_cons_zero, List.getElem_cons_succ, List.setIfInBounds_toArray, List.set_cons_zero, List.set_cons_succ]
  refine wpAnyH_take (i := 36) (v := (.bool true)) rfl (by kernel_rfl) (by kernel_rfl) (by kernel_rfl) (fun _ _ _ h => h) (Or.inl ⟨by kernel_rfl, by intro w hSw; (try dsimp only at hSw); go_simp⟩) (by assumption) ?_
  try simp only [Act.put, List.getElem_toArray, List.getElem_cons_zero, List.getElem_cons_succ, List.setIfInBounds_toArray, List.set_cons_zero, List.set_cons_succ]
  refine wpAnyH_take (i := 37) (v := (.bool true)) rfl (by kernel_rfl) (by kernel_rfl) (by kernel_rfl) (fun _ _ _ h => h) (Or.inl ⟨by kernel_rfl, by intro w hSw; (try dsimp only at hSw); go_simp⟩) (by assumption) ?_
  try simp only [Act.put, List.getElem_toArray, List.getElem_cons_zero, List.getElem_cons_succ, List.setIfInBounds_toArray, List.set_cons_zero, List.set_cons_succ]
  refine wpAnyH_done (by kernel_rfl) ?_ _
  go_wp2_with fail
  go_ret
  exact ⟨rfl, BB.out⟩
theorem eq_no {M : Int} (h : (M != 0) = true) : (M == 0) = false := by simpa [bne] using h
theorem eq_of {M : Int} (h : (M != 0) = false) : (M == 0) = true := by simpa [bne] using h
theorem semiMixed_law (a b : SV) (w : World) (ht : Tab w) (ha : a.ok w) (hb : b.ok w) :
    Calls Tryd.prog 9 #[a.v, b.v] w fun e w' => e = .returned (.bool true) ∧ Below w.heap.size w w' := by
  cases hs : (decide (a.n ≤ 60) && decide (b.n ≤ 60))
  · exact mixed_big a b w ht ha hb hs
  · by_cases h1 : bothE a b = 0
    · exact mixed_good a b w ht ha hb hs (Lib.hid h1) (by rw [beq_iff_eq]; exact (bothE_zero.1 h1).2.2)
    · have hE : (bothE a b != 0) = true := by simpa using h1
      have hE2 := eq_no hE
      cases hA : a.may != 0
      · cases hB : b.may != 0
        · refine mixed_bad3 a b w ht ha hb hs _ _ _ (Lib.hid rfl) hE hE2 (Lib.hid rfl) (Lib.hid rfl) hA (eq_of hA) hB (eq_of hB) ?_
          cases hS : a.s == b.s
          · rfl
          · exact absurd (bothE_zero.2 ⟨by simpa using hA, by simpa using hB, by simpa using hS⟩) h1
        · exact mixed_bad2 a b w ht ha hb hs _ _ _ (Lib.hid rfl) hE hE2 (Lib.hid rfl) (Lib.hid rfl) hA (eq_of hA) hB (eq_no hB)
      · exact mixed_bad1 a b w ht ha hb hs _ _ _ (Lib.hid rfl) hE hE2 (Lib.hid rfl) (Lib.hid rfl) hA (eq_no hA)
end Go.Proofs.YtdkmmnehlmaebaaDoor.Se
