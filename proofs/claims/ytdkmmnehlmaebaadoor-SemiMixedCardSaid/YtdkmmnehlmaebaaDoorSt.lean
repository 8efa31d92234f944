/- The law SemiBetter. Conditions: the table of powers is laid; the values can be read. -/
import Derived.Test.YtdkmmnehlmaebaaDoorSs
namespace Go.Proofs.YtdkmmnehlmaebaaDoor.Se
open Go.RowKit Go.NT Go.FT Go.FX Go.Lib Na

/-- Three values in a row of arguments. -/
theorem small3 (g : Nat) (a b c : SV) (w : World) (t : Bool) (ht : Hid ((decide (a.n ≤ 60) && decide (b.n ≤ 60) && decide (c.n ≤ 60)) = t)) (ha : a.n ≤ 9223372036854775807) (hb : b.n ≤ 9223372036854775807) (hc : c.n ≤ 9223372036854775807)
    (k0 : w.cell? ⟨g, 2, none⟩ = some (.slice a.A a.n a.c)) (k1 : w.cell? ⟨g, 7, none⟩ = some (.slice b.A b.n b.c)) (k2 : w.cell? ⟨g, 12, none⟩ = some (.slice c.A c.n c.c)) :
    Calls Tryd.prog 12 #[.slice (some ⟨g, 0, none⟩) 3 3] w fun e w' => e = .returned (.bool t) ∧ w' = w := by
  refine (small_any g (fun i => if i = 0 then a.n else if i = 1 then b.n else c.n) (fun i => if i = 0 then a.c else if i = 1 then b.c else c.c) (fun i => if i = 0 then a.A else if i = 1 then b.A else c.A) 3 3 w (by omega) (by omega) ?_ ?_).mono ?_
  · intro i hi
    match i, hi with
    | 0, _ => exact k0
    | 1, _ => exact k1
    | 2, _ => exact k2
  · intro i
    match i with
    | 0 => exact ha
    | 1 => exact hb
    | _ + 2 => exact hc
  · rintro e w' ⟨rfl, rfl⟩
    refine ⟨?_, rfl⟩
    rw [← ht.out]
    congr 2
    rw [Bool.eq_iff_iff, Bool.and_eq_true, Bool.and_eq_true, decide_eq_true_iff, decide_eq_true_iff, decide_eq_true_iff, decide_eq_true_iff]
    constructor
    · intro h; exact ⟨⟨h 0 (by omega), h 1 (by omega)⟩, h 2 (by omega)⟩
    · rintro ⟨⟨h0, h1⟩, h2⟩ i hi
      match i, hi with
      | 0, _ => exact h0
      | 1, _ => exact h1
      | 2, _ => exact h2
/-- Three values in their boxes, and once more in a row of arguments. -/
theorem boxed3 {w : World} {a b c : SV} (ha : a.ok w) (hb : b.ok w) (hc : c.ok w) (ht : Tab w) : ∀ W, W = (((w.alloc (.cells #[.int .i64 a.s, .bool a.b, .slice a.A a.n a.c, .int .i64 a.lv, .float .f64 a.x] 27)).alloc (.cells #[.int .i64 b.s, .bool b.b, .slice b.A b.n b.c, .int .i64 b.lv, .float .f64 b.x] 27)).alloc (.cells #[.int .i64 c.s, .bool c.b, .slice c.A c.n c.c, .int .i64 c.lv, .float .f64 c.x] 27)).alloc (.cells #[.int .i64 a.s, .bool a.b, .slice a.A a.n a.c, .int .i64 a.lv, .float .f64 a.x, .int .i64 b.s, .bool b.b, .slice b.A b.n b.c, .int .i64 b.lv, .float .f64 b.x, .int .i64 c.s, .bool c.b, .slice c.A c.n c.c, .int .i64 c.lv, .float .f64 c.x] 27) →
    Five W w.heap.size a ∧ Five W (w.heap.size + 1) b ∧ Five W (w.heap.size + 2) c ∧ Below w.heap.size w W ∧ Tab W := by
  intro W hW
  subst hW
  have h1 := below_al (below_al (below_al (below_al (Below.refl w.heap.size w) (.cells #[.int .i64 a.s, .bool a.b, .slice a.A a.n a.c, .int .i64 a.lv, .float .f64 a.x] 27)) (.cells #[.int .i64 b.s, .bool b.b, .slice b.A b.n b.c, .int .i64 b.lv, .float .f64 b.x] 27)) (.cells #[.int .i64 c.s, .bool c.b, .slice c.A c.n c.c, .int .i64 c.lv, .float .f64 c.x] 27)) (.cells #[.int .i64 a.s, .bool a.b, .slice a.A a.n a.c, .int .i64 a.lv, .float .f64 a.x, .int .i64 b.s, .bool b.b, .slice b.A b.n b.c, .int .i64 b.lv, .float .f64 b.x, .int .i64 c.s, .bool c.b, .slice c.A c.n c.c, .int .i64 c.lv, .float .f64 c.x] 27)
  have A1 := (((five_new w a ha).al (.cells #[.int .i64 b.s, .bool b.b, .slice b.A b.n b.c, .int .i64 b.lv, .float .f64 b.x] 27)).al (.cells #[.int .i64 c.s, .bool c.b, .slice c.A c.n c.c, .int .i64 c.lv, .float .f64 c.x] 27)).al (.cells #[.int .i64 a.s, .bool a.b, .slice a.A a.n a.c, .int .i64 a.lv, .float .f64 a.x, .int .i64 b.s, .bool b.b, .slice b.A b.n b.c, .int .i64 b.lv, .float .f64 b.x, .int .i64 c.s, .bool c.b, .slice c.A c.n c.c, .int .i64 c.lv, .float .f64 c.x] 27)
  have B1 := ((five_new _ b (hb.al (.cells #[.int .i64 a.s, .bool a.b, .slice a.A a.n a.c, .int .i64 a.lv, .float .f64 a.x] 27))).al (.cells #[.int .i64 c.s, .bool c.b, .slice c.A c.n c.c, .int .i64 c.lv, .float .f64 c.x] 27)).al (.cells #[.int .i64 a.s, .bool a.b, .slice a.A a.n a.c, .int .i64 a.lv, .float .f64 a.x, .int .i64 b.s, .bool b.b, .slice b.A b.n b.c, .int .i64 b.lv, .float .f64 b.x, .int .i64 c.s, .bool c.b, .slice c.A c.n c.c, .int .i64 c.lv, .float .f64 c.x] 27)
  have C1 := (five_new _ c ((hc.al (.cells #[.int .i64 a.s, .bool a.b, .slice a.A a.n a.c, .int .i64 a.lv, .float .f64 a.x] 27)).al (.cells #[.int .i64 b.s, .bool b.b, .slice b.A b.n b.c, .int .i64 b.lv, .float .f64 b.x] 27))).al (.cells #[.int .i64 a.s, .bool a.b, .slice a.A a.n a.c, .int .i64 a.lv, .float .f64 a.x, .int .i64 b.s, .bool b.b, .slice b.A b.n b.c, .int .i64 b.lv, .float .f64 b.x, .int .i64 c.s, .bool c.b, .slice c.A c.n c.c, .int .i64 c.lv, .float .f64 c.x] 27)
  rw [show (w.alloc (.cells #[.int .i64 a.s, .bool a.b, .slice a.A a.n a.c, .int .i64 a.lv, .float .f64 a.x] 27)).heap.size = w.heap.size + 1 by simp] at B1
  rw [show ((w.alloc (.cells #[.int .i64 a.s, .bool a.b, .slice a.A a.n a.c, .int .i64 a.lv, .float .f64 a.x] 27)).alloc (.cells #[.int .i64 b.s, .bool b.b, .slice b.A b.n b.c, .int .i64 b.lv, .float .f64 b.x] 27)).heap.size = w.heap.size + 2 by simp] at C1
  exact ⟨A1, B1, C1, h1, ht.below h1⟩
theorem better_at (a b : SV) (w : World) (N : Nat) (X : Bool) (ha : a.ok w) (hb : b.ok w) (hN : max a.n b.n + 1 ≤ N) (hN2 : N ≤ 1099511627776) (h : Hid (bothE a b = 0)) (hX : Hid (betterC a.con b.con = X)) :
    Calls Tryd.prog 31 #[a.v, b.v] w fun e w' => e = .returned (.tuple #[.bool X, .int .i64 0]) ∧ Below w.heap.size w w' := by
  have := better_sv a b w N ha hb hN hN2
  rwa [hX.out, h.out, show ((0 : Int) == 0 && X) = X from rfl] at this
theorem better_e (a b : SV) (w : World) (N : Nat) (X : Bool) (E : Int) (ha : a.ok w) (hb : b.ok w) (hN : max a.n b.n + 1 ≤ N) (hN2 : N ≤ 1099511627776) (h : Hid (bothE a b = E)) (hX : Hid ((bothE a b == 0 && betterC a.con b.con) = X)) :
    Calls Tryd.prog 31 #[a.v, b.v] w fun e w' => e = .returned (.tuple #[.bool X, .int .i64 E]) ∧ Below w.heap.size w w' := by
  have := better_sv a b w N ha hb hN hN2
  rwa [hX.out, h.out] at this
set_option maxRecDepth 100000 in
set_option maxHeartbeats 4000000 in
theorem better_big (a b c : SV) (w : World) (ht : Tab w) (ha : a.ok w) (hb : b.ok w) (hc : c.ok w) (hs : (decide (a.n ≤ 60) && decide (b.n ≤ 60) && decide (c.n ≤ 60)) = false) :
    Calls Tryd.prog 8 #[a.v, b.v, c.v] w fun e w' => e = .returned (.bool true) ∧ Below w.heap.size w w' := by
  have hs' := Lib.hid hs
  have hna := ha.1.2.2.2
  have hnb := hb.1.2.2.2
  have hnc := hc.1.2.2.2
  have h2 := Lib.hid (boxed3 ha hb hc ht _ rfl)
  have Fa := Lib.hid h2.out.1
  have Fb := Lib.hid h2.out.2.1
  have Fc := Lib.hid h2.out.2.2.1
  have BB := Lib.hid h2.out.2.2.2.1
  have TT := Lib.hid h2.out.2.2.2.2
  clear hs ha hb hc ht h2
  unfold SV.v
  go_enter Tryd.func8, Tryd.ntmps8
  go_wp2_with (first
    | (go_at_call 12; (with_reducible refine (small3 _ a b c _ false hs' hna hnb hnc (by go_simp) (by go_simp) (by go_simp)).mono ?_); rintro e w1 ⟨rfl, rfl⟩)
    | (go_at_call 13; (with_reducible refine (awake_any _ TT.out).mono ?_); rintro e wz ⟨rfl, hbz⟩))
  go_ret
  exact ⟨rfl, below_go BB.out hbz⟩
set_option maxRecDepth 100000 in
set_option maxHeartbeats 4000000 in
theorem better_bad1 (a b c : SV) (w : World) (ht : Tab w) (ha : a.ok w) (hb : b.ok w) (hc : c.ok w) (hs : (decide (a.n ≤ 60) && decide (b.n ≤ 60) && decide (c.n ≤ 60)) = true) (E1 E2 E3 : Int) (H1 : Hid (bothE a b = E1)) (H2 : Hid (bothE b c = E2)) (H3 : Hid (bothE a c = E3)) (h1 : (E1 != 0) = true) :
    Calls Tryd.prog 8 #[a.v, b.v, c.v] w fun e w' => e = .returned (.bool true) ∧ Below w.heap.size w w' := by
  have hs' := Lib.hid hs
  have hna := ha.1.2.2.2
  have hnb := hb.1.2.2.2
  have hnc := hc.1.2.2.2
  have h2 := Lib.hid (boxed3 ha hb hc ht _ rfl)
  have Fa := Lib.hid h2.out.1
  have Fb := Lib.hid h2.out.2.1
  have Fc := Lib.hid h2.out.2.2.1
  have BB := Lib.hid h2.out.2.2.2.1
  have TT := Lib.hid h2.out.2.2.2.2
  have hN3 := hs
  rw [Bool.and_eq_true, Bool.and_eq_true, decide_eq_true_iff, decide_eq_true_iff, decide_eq_true_iff] at hN3
  have N60 := Lib.hid hN3
  have Nab := Lib.hid (show max a.n b.n + 1 ≤ 64 by have := N60.out; omega)
  have Nbc := Lib.hid (show max b.n c.n + 1 ≤ 64 by have := N60.out; omega)
  have Nac := Lib.hid (show max a.n c.n + 1 ≤ 64 by have := N60.out; omega)
  have Nba := Lib.hid (show max b.n a.n + 1 ≤ 64 by have := N60.out; omega)
  have Nat' := Lib.hid (show a.n + b.n + 1 ≤ 121 by have := N60.out; omega)
  have N64 : 64 ≤ 1099511627776 := by decide
  have N65 : 65 ≤ 1099511627776 := by decide
  have N121 : 121 ≤ 1099511627776 := by decide
  have N122 : 122 ≤ 1099511627776 := by decide
  obtain ⟨X1, hX1⟩ : ∃ X, (bothE a b == 0 && betterC a.con b.con) = X := ⟨_, rfl⟩
  obtain ⟨X2, hX2⟩ : ∃ X, (bothE b c == 0 && betterC b.con c.con) = X := ⟨_, rfl⟩
  obtain ⟨X3, hX3⟩ : ∃ X, (bothE a c == 0 && betterC a.con c.con) = X := ⟨_, rfl⟩
  have HX1 := Lib.hid hX1
  have HX2 := Lib.hid hX2
  have HX3 := Lib.hid hX3
  clear hX1 hX2 hX3 hN3 hs ha hb hc ht h2
  unfold SV.v
  go_enter Tryd.func8, Tryd.ntmps8
  go_wp2_with (first
    | (go_at_call 12; (with_reducible refine (small3 _ a b c _ true hs' hna hnb hnc (by go_simp) (by go_simp) (by go_simp)).mono ?_); rintro e w1 ⟨rfl, rfl⟩)
    | (go_at_call 31; (with_reducible refine (better_e a b _ 64 X1 E1 Fa.out.ok Fb.out.ok Nab.out N64 H1 HX1).mono ?_); rintro e wx ⟨rfl, hbwx⟩; have Fa := Lib.hid (Fa.out.go hbwx); have Fb := Lib.hid (Fb.out.go hbwx); have Fc := Lib.hid (Fc.out.go hbwx); have BB := Lib.hid (below_go BB.out hbwx); have TT := Lib.hid (TT.out.below hbwx); obtain ⟨c1_0, c1_1, c1_2, c1_3, c1_4, c1_5, _⟩ := Fa.out; obtain ⟨c2_0, c2_1, c2_2, c2_3, c2_4, c2_5, _⟩ := Fb.out; obtain ⟨c3_0, c3_1, c3_2, c3_3, c3_4, c3_5, _⟩ := Fc.out)
    | (go_at_call 31; (with_reducible refine (better_e b c _ 64 X2 E2 Fb.out.ok Fc.out.ok Nbc.out N64 H2 HX2).mono ?_); rintro e wy ⟨rfl, hbwy⟩; have Fa := Lib.hid (Fa.out.go hbwy); have Fb := Lib.hid (Fb.out.go hbwy); have Fc := Lib.hid (Fc.out.go hbwy); have BB := Lib.hid (below_go BB.out hbwy); have TT := Lib.hid (TT.out.below hbwy); obtain ⟨c4_0, c4_1, c4_2, c4_3, c4_4, c4_5, _⟩ := Fa.out; obtain ⟨c5_0, c5_1, c5_2, c5_3, c5_4, c5_5, _⟩ := Fb.out; obtain ⟨c6_0, c6_1, c6_2, c6_3, c6_4, c6_5, _⟩ := Fc.out)
    | (go_at_call 31; (with_reducible refine (better_e a c _ 64 X3 E3 Fa.out.ok Fc.out.ok Nac.out N64 H3 HX3).mono ?_); rintro e wv ⟨rfl, hbwv⟩; have Fa := Lib.hid (Fa.out.go hbwv); have Fb := Lib.hid (Fb.out.go hbwv); have Fc := Lib.hid (Fc.out.go hbwv); have BB := Lib.hid (below_go BB.out hbwv); have TT := Lib.hid (TT.out.below hbwv); obtain ⟨c7_0, c7_1, c7_2, c7_3, c7_4, c7_5, _⟩ := Fa.out; obtain ⟨c8_0, c8_1, c8_2, c8_3, c8_4, c8_5, _⟩ := Fb.out; obtain ⟨c9_0, c9_1, c9_2, c9_3, c9_4, c9_5, _⟩ := Fc.out)
    | (go_at_call 13; (with_reducible refine (awake_any _ TT.out).mono ?_); rintro e wz ⟨rfl, hbz⟩))
  go_ret
  exact ⟨rfl, below_go BB.out hbz⟩
set_option maxRecDepth 100000 in
set_option maxHeartbeats 4000000 in
theorem better_bad2 (a b c : SV) (w : World) (ht : Tab w) (ha : a.ok w) (hb : b.ok w) (hc : c.ok w) (hs : (decide (a.n ≤ 60) && decide (b.n ≤ 60) && decide (c.n ≤ 60)) = true) (E1 E2 E3 : Int) (H1 : Hid (bothE a b = E1)) (H2 : Hid (bothE b c = E2)) (H3 : Hid (bothE a c = E3)) (h1 : (E1 != 0) = false) (h2' : (E2 != 0) = true) :
    Calls Tryd.prog 8 #[a.v, b.v, c.v] w fun e w' => e = .returned (.bool true) ∧ Below w.heap.size w w' := by
  have hs' := Lib.hid hs
  have hna := ha.1.2.2.2
  have hnb := hb.1.2.2.2
  have hnc := hc.1.2.2.2
  have h2 := Lib.hid (boxed3 ha hb hc ht _ rfl)
  have Fa := Lib.hid h2.out.1
  have Fb := Lib.hid h2.out.2.1
  have Fc := Lib.hid h2.out.2.2.1
  have BB := Lib.hid h2.out.2.2.2.1
  have TT := Lib.hid h2.out.2.2.2.2
  have hN3 := hs
  rw [Bool.and_eq_true, Bool.and_eq_true, decide_eq_true_iff, decide_eq_true_iff, decide_eq_true_iff] at hN3
  have N60 := Lib.hid hN3
  have Nab := Lib.hid (show max a.n b.n + 1 ≤ 64 by have := N60.out; omega)
  have Nbc := Lib.hid (show max b.n c.n + 1 ≤ 64 by have := N60.out; omega)
  have Nac := Lib.hid (show max a.n c.n + 1 ≤ 64 by have := N60.out; omega)
  have Nba := Lib.hid (show max b.n a.n + 1 ≤ 64 by have := N60.out; omega)
  have Nat' := Lib.hid (show a.n + b.n + 1 ≤ 121 by have := N60.out; omega)
  have N64 : 64 ≤ 1099511627776 := by decide
  have N65 : 65 ≤ 1099511627776 := by decide
  have N121 : 121 ≤ 1099511627776 := by decide
  have N122 : 122 ≤ 1099511627776 := by decide
  obtain ⟨X1, hX1⟩ : ∃ X, (bothE a b == 0 && betterC a.con b.con) = X := ⟨_, rfl⟩
  obtain ⟨X2, hX2⟩ : ∃ X, (bothE b c == 0 && betterC b.con c.con) = X := ⟨_, rfl⟩
  obtain ⟨X3, hX3⟩ : ∃ X, (bothE a c == 0 && betterC a.con c.con) = X := ⟨_, rfl⟩
  have HX1 := Lib.hid hX1
  have HX2 := Lib.hid hX2
  have HX3 := Lib.hid hX3
  clear hX1 hX2 hX3 hN3 hs ha hb hc ht h2
  unfold SV.v
  go_enter Tryd.func8, Tryd.ntmps8
  go_wp2_with (first
    | (go_at_call 12; (with_reducible refine (small3 _ a b c _ true hs' hna hnb hnc (by go_simp) (by go_simp) (by go_simp)).mono ?_); rintro e w1 ⟨rfl, rfl⟩)
    | (go_at_call 31; (with_reducible refine (better_e a b _ 64 X1 E1 Fa.out.ok Fb.out.ok Nab.out N64 H1 HX1).mono ?_); rintro e wx ⟨rfl, hbwx⟩; have Fa := Lib.hid (Fa.out.go hbwx); have Fb := Lib.hid (Fb.out.go hbwx); have Fc := Lib.hid (Fc.out.go hbwx); have BB := Lib.hid (below_go BB.out hbwx); have TT := Lib.hid (TT.out.below hbwx); obtain ⟨c10_0, c10_1, c10_2, c10_3, c10_4, c10_5, _⟩ := Fa.out; obtain ⟨c11_0, c11_1, c11_2, c11_3, c11_4, c11_5, _⟩ := Fb.out; obtain ⟨c12_0, c12_1, c12_2, c12_3, c12_4, c12_5, _⟩ := Fc.out)
    | (go_at_call 31; (with_reducible refine (better_e b c _ 64 X2 E2 Fb.out.ok Fc.out.ok Nbc.out N64 H2 HX2).mono ?_); rintro e wy ⟨rfl, hbwy⟩; have Fa := Lib.hid (Fa.out.go hbwy); have Fb := Lib.hid (Fb.out.go hbwy); have Fc := Lib.hid (Fc.out.go hbwy); have BB := Lib.hid (below_go BB.out hbwy); have TT := Lib.hid (TT.out.below hbwy); obtain ⟨c13_0, c13_1, c13_2, c13_3, c13_4, c13_5, _⟩ := Fa.out; obtain ⟨c14_0, c14_1, c14_2, c14_3, c14_4, c14_5, _⟩ := Fb.out; obtain ⟨c15_0, c15_1, c15_2, c15_3, c15_4, c15_5, _⟩ := Fc.out)
    | (go_at_call 31; (with_reducible refine (better_e a c _ 64 X3 E3 Fa.out.ok Fc.out.ok Nac.out N64 H3 HX3).mono ?_); rintro e wv ⟨rfl, hbwv⟩; have Fa := Lib.hid (Fa.out.go hbwv); have Fb := Lib.hid (Fb.out.go hbwv); have Fc := Lib.hid (Fc.out.go hbwv); have BB := Lib.hid (below_go BB.out hbwv); have TT := Lib.hid (TT.out.below hbwv); obtain ⟨c16_0, c16_1, c16_2, c16_3, c16_4, c16_5, _⟩ := Fa.out; obtain ⟨c17_0, c17_1, c17_2, c17_3, c17_4, c17_5, _⟩ := Fb.out; obtain ⟨c18_0, c18_1, c18_2, c18_3, c18_4, c18_5, _⟩ := Fc.out)
    | (go_at_call 13; (with_reducible refine (awake_any _ TT.out).mono ?_); rintro e wz ⟨rfl, hbz⟩))
  go_ret
  exact ⟨rfl, below_go BB.out hbz⟩
end Go.Proofs.YtdkmmnehlmaebaaDoor.Se
