/- The law SemiBetter at values that may be, of one semiring. Conditions: the table of powers is laid; the values can be read. -/
import Derived.Test.YtdkmmnehlmaebaaDoorSt
namespace Go.Proofs.YtdkmmnehlmaebaaDoor.Se
open Go.RowKit Go.NT Go.FT Go.FX Go.Lib Na

set_option maxRecDepth 100000 in
set_option maxHeartbeats 4000000 in
theorem better_count_fxx (a b c : SV) (w : World) (ht : Tab w) (ha : a.ok w) (hb : b.ok w) (hc : c.ok w) (hs : (decide (a.n ≤ 60) && decide (b.n ≤ 60) && decide (c.n ≤ 60)) = true) (h1 : Hid (bothE a b = 0)) (h2 : Hid (bothE b c = 0)) (Y Z R : Bool) (t1 : (a.s == 1) = true)
    (HX : Hid (betterC a.con b.con = false)) (HY : Hid (betterC b.con c.con = Y)) (HZ : Hid (betterC a.con c.con = Z)) (HV : Hid (betterC b.con a.con = true)) (HR : Hid (betterC a.con (timesC a.con b.con) = R)) :
    Calls Tryd.prog 8 #[a.v, b.v, c.v] w fun e w' => e = .returned (.bool true) ∧ Below w.heap.size w w' := by
  have hs' := Lib.hid hs
  have hna := ha.1.2.2.2
  have hnb := hb.1.2.2.2
  have hnc := hc.1.2.2.2
  have h2' := Lib.hid (boxed3 ha hb hc ht _ rfl)
  have Fa := Lib.hid h2'.out.1
  have Fb := Lib.hid h2'.out.2.1
  have Fc := Lib.hid h2'.out.2.2.1
  have BB := Lib.hid h2'.out.2.2.2.1
  have TT := Lib.hid h2'.out.2.2.2.2
  have hN3 := hs
  rw [Bool.and_eq_true, Bool.and_eq_true, decide_eq_true_iff, decide_eq_true_iff, decide_eq_true_iff] at hN3
  have N60 := Lib.hid hN3
  have Nab := Lib.hid (show max a.n b.n + 1 ≤ 64 by have := N60.out; omega)
  have Nbc := Lib.hid (show max b.n c.n + 1 ≤ 64 by have := N60.out; omega)
  have Nac := Lib.hid (show max a.n c.n + 1 ≤ 64 by have := N60.out; omega)
  have Nba := Lib.hid (show max b.n a.n + 1 ≤ 64 by have := N60.out; omega)
  have Nat' := Lib.hid (show a.n + b.n + 1 ≤ 121 by have := N60.out; omega)
  have N64 : 64 ≤ 1099511627776 := by decide
  have N65 : 65 ≤ 1099511627776 := by decide
  have N121 : 121 ≤ 1099511627776 := by decide
  have N122 : 122 ≤ 1099511627776 := by decide
  have M1 := Lib.hid (bothE_zero.1 h1.out)
  have M2 := Lib.hid (bothE_zero.1 h2.out)
  have h3 := Lib.hid (bothE_zero.2 ⟨M1.out.1, M2.out.2.1, M1.out.2.2.trans M2.out.2.2⟩ : bothE a c = 0)
  have h4 := Lib.hid (bothE_zero.2 ⟨M1.out.2.1, M1.out.1, M1.out.2.2.symm⟩ : bothE b a = 0)
  have Va := Lib.hid (val_of_may ha M1.out.1)
  have Vb := Lib.hid (val_of_may hb M1.out.2.1)
  clear hN3 hs ha hb hc ht h2'
  unfold SV.v
  go_enter Tryd.func8, Tryd.ntmps8
  go_wp2_with (first
    | (go_at_call 12; (with_reducible refine (small3 _ a b c _ true hs' hna hnb hnc (by go_simp) (by go_simp) (by go_simp)).mono ?_); rintro e w1 ⟨rfl, rfl⟩)
    | (go_at_call 31; (with_reducible refine (better_at a b _ 64 false Fa.out.ok Fb.out.ok Nab.out N64 h1 HX).mono ?_); rintro e wx ⟨rfl, hbwx⟩; have Fa := Lib.hid (Fa.out.go hbwx); have Fb := Lib.hid (Fb.out.go hbwx); have Fc := Lib.hid (Fc.out.go hbwx); have BB := Lib.hid (below_go BB.out hbwx); have TT := Lib.hid (TT.out.below hbwx); obtain ⟨c19_0, c19_1, c19_2, c19_3, c19_4, c19_5, _⟩ := Fa.out; obtain ⟨c20_0, c20_1, c20_2, c20_3, c20_4, c20_5, _⟩ := Fb.out; obtain ⟨c21_0, c21_1, c21_2, c21_3, c21_4, c21_5, _⟩ := Fc.out)
    | (go_at_call 31; (with_reducible refine (better_at b c _ 64 Y Fb.out.ok Fc.out.ok Nbc.out N64 h2 HY).mono ?_); rintro e wy ⟨rfl, hbwy⟩; have Fa := Lib.hid (Fa.out.go hbwy); have Fb := Lib.hid (Fb.out.go hbwy); have Fc := Lib.hid (Fc.out.go hbwy); have BB := Lib.hid (below_go BB.out hbwy); have TT := Lib.hid (TT.out.below hbwy); obtain ⟨c22_0, c22_1, c22_2, c22_3, c22_4, c22_5, _⟩ := Fa.out; obtain ⟨c23_0, c23_1, c23_2, c23_3, c23_4, c23_5, _⟩ := Fb.out; obtain ⟨c24_0, c24_1, c24_2, c24_3, c24_4, c24_5, _⟩ := Fc.out)
    | (go_at_call 31; (with_reducible refine (better_at a c _ 64 Z Fa.out.ok Fc.out.ok Nac.out N64 h3 HZ).mono ?_); rintro e wv ⟨rfl, hbwv⟩; have Fa := Lib.hid (Fa.out.go hbwv); have Fb := Lib.hid (Fb.out.go hbwv); have Fc := Lib.hid (Fc.out.go hbwv); have BB := Lib.hid (below_go BB.out hbwv); have TT := Lib.hid (TT.out.below hbwv); obtain ⟨c25_0, c25_1, c25_2, c25_3, c25_4, c25_5, _⟩ := Fa.out; obtain ⟨c26_0, c26_1, c26_2, c26_3, c26_4, c26_5, _⟩ := Fb.out; obtain ⟨c27_0, c27_1, c27_2, c27_3, c27_4, c27_5, _⟩ := Fc.out)
    | (go_at_call 18; (with_reducible refine (plus_at a b _ 64 Fa.out.ok Fb.out.ok Nab.out N64 h1).mono ?_); rintro e wp ⟨p, rfl, pok, pC, pc, pn, hbp⟩; have Hpok := Lib.hid pok; have hps := Lib.hid ((con_s pC.out).trans (plusC_s _ _)); have hpm := Lib.hid (may_at pok pc.out pC.out (may_plusC h1.out)); have Hpa := Lib.hid (bothE_zero.2 ⟨hpm.out, M1.out.1, hps.out⟩); have Vp := Lib.hid (val_of_may pok hpm.out); have HQ := Lib.hid (show betterC p.con a.con = true by have hv := Vp.out; rw [pC.out] at hv ⊢; exact better_sum Va.out Vb.out hv); have Npa := Lib.hid (show max p.n a.n + 1 ≤ 65 by have := pn.out; have := N60.out; omega); have Fa := Lib.hid ((Fa.out.go hbp).al (.cells #[.int .i64 p.s, .bool p.b, .slice p.A p.n p.c, .int .i64 p.lv, .float .f64 p.x] 27)); have Fb := Lib.hid ((Fb.out.go hbp).al (.cells #[.int .i64 p.s, .bool p.b, .slice p.A p.n p.c, .int .i64 p.lv, .float .f64 p.x] 27)); have BB := Lib.hid (below_al (below_go BB.out hbp) (.cells #[.int .i64 p.s, .bool p.b, .slice p.A p.n p.c, .int .i64 p.lv, .float .f64 p.x] 27)); have TT := Lib.hid ((TT.out.below hbp).below (below_al (Below.refl _ _) (.cells #[.int .i64 p.s, .bool p.b, .slice p.A p.n p.c, .int .i64 p.lv, .float .f64 p.x] 27))); have Fp := Lib.hid (five_new _ p Hpok.out); obtain ⟨c28_0, c28_1, c28_2, c28_3, c28_4, c28_5, _⟩ := Fa.out; obtain ⟨c29_0, c29_1, c29_2, c29_3, c29_4, c29_5, _⟩ := Fb.out; obtain ⟨c30_0, c30_1, c30_2, c30_3, c30_4, c30_5, _⟩ := Fp.out)
    | (go_at_call 17; (with_reducible refine (times_at a b _ 121 Fa.out.ok Fb.out.ok Nat'.out N121 h1).mono ?_); rintro e wt ⟨t, rfl, tok, tC, tc, tn, hbt⟩; have Htok := Lib.hid tok; have hts := Lib.hid ((con_s tC.out).trans (timesC_s _ _)); have htm := Lib.hid (may_at tok tc.out tC.out (may_timesC h1.out)); have Hat := Lib.hid (bothE_zero.2 ⟨M1.out.1, htm.out, hts.out.symm⟩); have Vt := Lib.hid (val_of_may tok htm.out); have Nat2 := Lib.hid (show max a.n t.n + 1 ≤ 122 by have := tn.out; have := N60.out; omega); have HW := Lib.hid (show betterC a.con t.con = R by rw [tC.out]; exact HR.out); have Fa := Lib.hid ((Fa.out.go hbt).al (.cells #[.int .i64 t.s, .bool t.b, .slice t.A t.n t.c, .int .i64 t.lv, .float .f64 t.x] 27)); have Fb := Lib.hid ((Fb.out.go hbt).al (.cells #[.int .i64 t.s, .bool t.b, .slice t.A t.n t.c, .int .i64 t.lv, .float .f64 t.x] 27)); have Fp := Lib.hid ((Fp.out.go hbt).al (.cells #[.int .i64 t.s, .bool t.b, .slice t.A t.n t.c, .int .i64 t.lv, .float .f64 t.x] 27)); have BB := Lib.hid (below_al (below_go BB.out hbt) (.cells #[.int .i64 t.s, .bool t.b, .slice t.A t.n t.c, .int .i64 t.lv, .float .f64 t.x] 27)); have TT := Lib.hid ((TT.out.below hbt).below (below_al (Below.refl _ _) (.cells #[.int .i64 t.s, .bool t.b, .slice t.A t.n t.c, .int .i64 t.lv, .float .f64 t.x] 27))); have Ft := Lib.hid (five_new _ t Htok.out); obtain ⟨c31_0, c31_1, c31_2, c31_3, c31_4, c31_5, _⟩ := Fa.out; obtain ⟨c32_0, c32_1, c32_2, c32_3, c32_4, c32_5, _⟩ := Fb.out; obtain ⟨c33_0, c33_1, c33_2, c33_3, c33_4, c33_5, _⟩ := Fp.out; obtain ⟨c34_0, c34_1, c34_2, c34_3, c34_4, c34_5, _⟩ := Ft.out)
    | (go_at_call 31; (with_reducible refine (better_at p a _ 65 true Fp.out.ok Fa.out.ok Npa.out N65 Hpa HQ).mono ?_); rintro e wq ⟨rfl, hbwq⟩; have Fa := Lib.hid (Fa.out.go hbwq); have Fb := Lib.hid (Fb.out.go hbwq); have Ft := Lib.hid (Ft.out.go hbwq); have BB := Lib.hid (below_go BB.out hbwq); have TT := Lib.hid (TT.out.below hbwq); obtain ⟨c35_0, c35_1, c35_2, c35_3, c35_4, c35_5, _⟩ := Fa.out; obtain ⟨c36_0, c36_1, c36_2, c36_3, c36_4, c36_5, _⟩ := Fb.out; obtain ⟨c37_0, c37_1, c37_2, c37_3, c37_4, c37_5, _⟩ := Ft.out)
    | (go_at_call 31; (with_reducible refine (better_at a t _ 122 R Fa.out.ok Ft.out.ok Nat2.out N122 Hat HW).mono ?_); rintro e wr ⟨rfl, hbwr⟩; have Fa := Lib.hid (Fa.out.go hbwr); have Fb := Lib.hid (Fb.out.go hbwr); have BB := Lib.hid (below_go BB.out hbwr); have TT := Lib.hid (TT.out.below hbwr); obtain ⟨c38_0, c38_1, c38_2, c38_3, c38_4, c38_5, _⟩ := Fa.out; obtain ⟨c39_0, c39_1, c39_2, c39_3, c39_4, c39_5, _⟩ := Fb.out)
    | (go_at_call 31; (with_reducible refine (better_at b a _ 64 true Fb.out.ok Fa.out.ok Nba.out N64 h4 HV).mono ?_); rintro e wu ⟨rfl, hbwu⟩; have Fa := Lib.hid (Fa.out.go hbwu); have Fb := Lib.hid (Fb.out.go hbwu); have BB := Lib.hid (below_go BB.out hbwu); have TT := Lib.hid (TT.out.below hbwu); obtain ⟨c40_0, c40_1, c40_2, c40_3, c40_4, c40_5, _⟩ := Fa.out; obtain ⟨c41_0, c41_1, c41_2, c41_3, c41_4, c41_5, _⟩ := Fb.out)
    | (go_at_call 13; (with_reducible refine (awake_any _ TT.out).mono ?_); rintro e wz ⟨rfl, hbz⟩))
  go_ret
  exact ⟨rfl, below_go BB.out hbz⟩
set_option maxRecDepth 100000 in
set_option maxHeartbeats 4000000 in
theorem better_count_tff (a b c : SV) (w : World) (ht : Tab w) (ha : a.ok w) (hb : b.ok w) (hc : c.ok w) (hs : (decide (a.n ≤ 60) && decide (b.n ≤ 60) && decide (c.n ≤ 60)) = true) (h1 : Hid (bothE a b = 0)) (h2 : Hid (bothE b c = 0)) (Z R : Bool) (t1 : (a.s == 1) = true)
    (HX : Hid (betterC a.con b.con = true)) (HY : Hid (betterC b.con c.con = false)) (HZ : Hid (betterC a.con c.con = Z)) (HV : Hid (betterC b.con a.con = false)) (HR : Hid (betterC a.con (timesC a.con b.con) = R)) :
    Calls Tryd.prog 8 #[a.v, b.v, c.v] w fun e w' => e = .returned (.bool true) ∧ Below w.heap.size w w' := by
  have hs' := Lib.hid hs
  have hna := ha.1.2.2.2
  have hnb := hb.1.2.2.2
  have hnc := hc.1.2.2.2
  have h2' := Lib.hid (boxed3 ha hb hc ht _ rfl)
  have Fa := Lib.hid h2'.out.1
  have Fb := Lib.hid h2'.out.2.1
  have Fc := Lib.hid h2'.out.2.2.1
  have BB := Lib.hid h2'.out.2.2.2.1
  have TT := Lib.hid h2'.out.2.2.2.2
  have hN3 := hs
  rw [Bool.and_eq_true, Bool.and_eq_true, decide_eq_true_iff, decide_eq_true_iff, decide_eq_true_iff] at hN3
  have N60 := Lib.hid hN3
  have Nab := Lib.hid (show max a.n b.n + 1 ≤ 64 by have := N60.out; omega)
  have Nbc := Lib.hid (show max b.n c.n + 1 ≤ 64 by have := N60.out; omega)
  have Nac := Lib.hid (show max a.n c.n + 1 ≤ 64 by have := N60.out; omega)
  have Nba := Lib.hid (show max b.n a.n + 1 ≤ 64 by have := N60.out; omega)
  have Nat' := Lib.hid (show a.n + b.n + 1 ≤ 121 by have := N60.out; omega)
  have N64 : 64 ≤ 1099511627776 := by decide
  have N65 : 65 ≤ 1099511627776 := by decide
  have N121 : 121 ≤ 1099511627776 := by decide
  have N122 : 122 ≤ 1099511627776 := by decide
  have M1 := Lib.hid (bothE_zero.1 h1.out)
  have M2 := Lib.hid (bothE_zero.1 h2.out)
  have h3 := Lib.hid (bothE_zero.2 ⟨M1.out.1, M2.out.2.1, M1.out.2.2.trans M2.out.2.2⟩ : bothE a c = 0)
  have h4 := Lib.hid (bothE_zero.2 ⟨M1.out.2.1, M1.out.1, M1.out.2.2.symm⟩ : bothE b a = 0)
  have Va := Lib.hid (val_of_may ha M1.out.1)
  have Vb := Lib.hid (val_of_may hb M1.out.2.1)
  clear hN3 hs ha hb hc ht h2'
  unfold SV.v
  go_enter Tryd.func8, Tryd.ntmps8
  go_wp2_with (first
    | (go_at_call 12; (with_reducible refine (small3 _ a b c _ true hs' hna hnb hnc (by go_simp) (by go_simp) (by go_simp)).mono ?_); rintro e w1 ⟨rfl, rfl⟩)
    | (go_at_call 31; (with_reducible refine (better_at a b _ 64 true Fa.out.ok Fb.out.ok Nab.out N64 h1 HX).mono ?_); rintro e wx ⟨rfl, hbwx⟩; have Fa := Lib.hid (Fa.out.go hbwx); have Fb := Lib.hid (Fb.out.go hbwx); have Fc := Lib.hid (Fc.out.go hbwx); have BB := Lib.hid (below_go BB.out hbwx); have TT := Lib.hid (TT.out.below hbwx); obtain ⟨c42_0, c42_1, c42_2, c42_3, c42_4, c42_5, _⟩ := Fa.out; obtain ⟨c43_0, c43_1, c43_2, c43_3, c43_4, c43_5, _⟩ := Fb.out; obtain ⟨c44_0, c44_1, c44_2, c44_3, c44_4, c44_5, _⟩ := Fc.out)
    | (go_at_call 31; (with_reducible refine (better_at b c _ 64 false Fb.out.ok Fc.out.ok Nbc.out N64 h2 HY).mono ?_); rintro e wy ⟨rfl, hbwy⟩; have Fa := Lib.hid (Fa.out.go hbwy); have Fb := Lib.hid (Fb.out.go hbwy); have Fc := Lib.hid (Fc.out.go hbwy); have BB := Lib.hid (below_go BB.out hbwy); have TT := Lib.hid (TT.out.below hbwy); obtain ⟨c45_0, c45_1, c45_2, c45_3, c45_4, c45_5, _⟩ := Fa.out; obtain ⟨c46_0, c46_1, c46_2, c46_3, c46_4, c46_5, _⟩ := Fb.out; obtain ⟨c47_0, c47_1, c47_2, c47_3, c47_4, c47_5, _⟩ := Fc.out)
    | (go_at_call 31; (with_reducible refine (better_at a c _ 64 Z Fa.out.ok Fc.out.ok Nac.out N64 h3 HZ).mono ?_); rintro e wv ⟨rfl, hbwv⟩; have Fa := Lib.hid (Fa.out.go hbwv); have Fb := Lib.hid (Fb.out.go hbwv); have Fc := Lib.hid (Fc.out.go hbwv); have BB := Lib.hid (below_go BB.out hbwv); have TT := Lib.hid (TT.out.below hbwv); obtain ⟨c48_0, c48_1, c48_2, c48_3, c48_4, c48_5, _⟩ := Fa.out; obtain ⟨c49_0, c49_1, c49_2, c49_3, c49_4, c49_5, _⟩ := Fb.out; obtain ⟨c50_0, c50_1, c50_2, c50_3, c50_4, c50_5, _⟩ := Fc.out)
    | (go_at_call 18; (with_reducible refine (plus_at a b _ 64 Fa.out.ok Fb.out.ok Nab.out N64 h1).mono ?_); rintro e wp ⟨p, rfl, pok, pC, pc, pn, hbp⟩; have Hpok := Lib.hid pok; have hps := Lib.hid ((con_s pC.out).trans (plusC_s _ _)); have hpm := Lib.hid (may_at pok pc.out pC.out (may_plusC h1.out)); have Hpa := Lib.hid (bothE_zero.2 ⟨hpm.out, M1.out.1, hps.out⟩); have Vp := Lib.hid (val_of_may pok hpm.out); have HQ := Lib.hid (show betterC p.con a.con = true by have hv := Vp.out; rw [pC.out] at hv ⊢; exact better_sum Va.out Vb.out hv); have Npa := Lib.hid (show max p.n a.n + 1 ≤ 65 by have := pn.out; have := N60.out; omega); have Fa := Lib.hid ((Fa.out.go hbp).al (.cells #[.int .i64 p.s, .bool p.b, .slice p.A p.n p.c, .int .i64 p.lv, .float .f64 p.x] 27)); have Fb := Lib.hid ((Fb.out.go hbp).al (.cells #[.int .i64 p.s, .bool p.b, .slice p.A p.n p.c, .int .i64 p.lv, .float .f64 p.x] 27)); have BB := Lib.hid (below_al (below_go BB.out hbp) (.cells #[.int .i64 p.s, .bool p.b, .slice p.A p.n p.c, .int .i64 p.lv, .float .f64 p.x] 27)); have TT := Lib.hid ((TT.out.below hbp).below (below_al (Below.refl _ _) (.cells #[.int .i64 p.s, .bool p.b, .slice p.A p.n p.c, .int .i64 p.lv, .float .f64 p.x] 27))); have Fp := Lib.hid (five_new _ p Hpok.out); obtain ⟨c51_0, c51_1, c51_2, c51_3, c51_4, c51_5, _⟩ := Fa.out; obtain ⟨c52_0, c52_1, c52_2, c52_3, c52_4, c52_5, _⟩ := Fb.out; obtain ⟨c53_0, c53_1, c53_2, c53_3, c53_4, c53_5, _⟩ := Fp.out)
    | (go_at_call 17; (with_reducible refine (times_at a b _ 121 Fa.out.ok Fb.out.ok Nat'.out N121 h1).mono ?_); rintro e wt ⟨t, rfl, tok, tC, tc, tn, hbt⟩; have Htok := Lib.hid tok; have hts := Lib.hid ((con_s tC.out).trans (timesC_s _ _)); have htm := Lib.hid (may_at tok tc.out tC.out (may_timesC h1.out)); have Hat := Lib.hid (bothE_zero.2 ⟨M1.out.1, htm.out, hts.out.symm⟩); have Vt := Lib.hid (val_of_may tok htm.out); have Nat2 := Lib.hid (show max a.n t.n + 1 ≤ 122 by have := tn.out; have := N60.out; omega); have HW := Lib.hid (show betterC a.con t.con = R by rw [tC.out]; exact HR.out); have Fa := Lib.hid ((Fa.out.go hbt).al (.cells #[.int .i64 t.s, .bool t.b, .slice t.A t.n t.c, .int .i64 t.lv, .float .f64 t.x] 27)); have Fb := Lib.hid ((Fb.out.go hbt).al (.cells #[.int .i64 t.s, .bool t.b, .slice t.A t.n t.c, .int .i64 t.lv, .float .f64 t.x] 27)); have Fp := Lib.hid ((Fp.out.go hbt).al (.cells #[.int .i64 t.s, .bool t.b, .slice t.A t.n t.c, .int .i64 t.lv, .float .f64 t.x] 27)); have BB := Lib.hid (below_al (below_go BB.out hbt) (.cells #[.int .i64 t.s, .bool t.b, .slice t.A t.n t.c, .int .i64 t.lv, .float .f64 t.x] 27)); have TT := Lib.hid ((TT.out.below hbt).below (below_al (Below.refl _ _) (.cells #[.int .i64 t.s, .bool t.b, .slice t.A t.n t.c, .int .i64 t.lv, .float .f64 t.x] 27))); have Ft := Lib.hid (five_new _ t Htok.out); obtain ⟨c54_0, c54_1, c54_2, c54_3, c54_4, c54_5, _⟩ := Fa.out; obtain ⟨c55_0, c55_1, c55_2, c55_3, c55_4, c55_5, _⟩ := Fb.out; obtain ⟨c56_0, c56_1, c56_2, c56_3, c56_4, c56_5, _⟩ := Fp.out; obtain ⟨c57_0, c57_1, c57_2, c57_3, c57_4, c57_5, _⟩ := Ft.out)
    | (go_at_call 31; (with_reducible refine (better_at p a _ 65 true Fp.out.ok Fa.out.ok Npa.out N65 Hpa HQ).mono ?_); rintro e wq ⟨rfl, hbwq⟩; have Fa := Lib.hid (Fa.out.go hbwq); have Fb := Lib.hid (Fb.out.go hbwq); have Ft := Lib.hid (Ft.out.go hbwq); have BB := Lib.hid (below_go BB.out hbwq); have TT := Lib.hid (TT.out.below hbwq); obtain ⟨c58_0, c58_1, c58_2, c58_3, c58_4, c58_5, _⟩ := Fa.out; obtain ⟨c59_0, c59_1, c59_2, c59_3, c59_4, c59_5, _⟩ := Fb.out; obtain ⟨c60_0, c60_1, c60_2, c60_3, c60_4, c60_5, _⟩ := Ft.out)
    | (go_at_call 31; (with_reducible refine (better_at a t _ 122 R Fa.out.ok Ft.out.ok Nat2.out N122 Hat HW).mono ?_); rintro e wr ⟨rfl, hbwr⟩; have Fa := Lib.hid (Fa.out.go hbwr); have Fb := Lib.hid (Fb.out.go hbwr); have BB := Lib.hid (below_go BB.out hbwr); have TT := Lib.hid (TT.out.below hbwr); obtain ⟨c61_0, c61_1, c61_2, c61_3, c61_4, c61_5, _⟩ := Fa.out; obtain ⟨c62_0, c62_1, c62_2, c62_3, c62_4, c62_5, _⟩ := Fb.out)
    | (go_at_call 31; (with_reducible refine (better_at b a _ 64 false Fb.out.ok Fa.out.ok Nba.out N64 h4 HV).mono ?_); rintro e wu ⟨rfl, hbwu⟩; have Fa := Lib.hid (Fa.out.go hbwu); have Fb := Lib.hid (Fb.out.go hbwu); have BB := Lib.hid (below_go BB.out hbwu); have TT := Lib.hid (TT.out.below hbwu); obtain ⟨c63_0, c63_1, c63_2, c63_3, c63_4, c63_5, _⟩ := Fa.out; obtain ⟨c64_0, c64_1, c64_2, c64_3, c64_4, c64_5, _⟩ := Fb.out)
    | (go_at_call 13; (with_reducible refine (awake_any _ TT.out).mono ?_); rintro e wz ⟨rfl, hbz⟩))
  go_ret
  exact ⟨rfl, below_go BB.out hbz⟩
set_option maxRecDepth 100000 in
set_option maxHeartbeats 4000000 in
theorem better_count_tft (a b c : SV) (w : World) (ht : Tab w) (ha : a.ok w) (hb : b.ok w) (hc : c.ok w) (hs : (decide (a.n ≤ 60) && decide (b.n ≤ 60) && decide (c.n ≤ 60)) = true) (h1 : Hid (bothE a b = 0)) (h2 : Hid (bothE b c = 0)) (Z R : Bool) (t1 : (a.s == 1) = true)
    (HX : Hid (betterC a.con b.con = true)) (HY : Hid (betterC b.con c.con = false)) (HZ : Hid (betterC a.con c.con = Z)) (HV : Hid (betterC b.con a.con = true)) (HR : Hid (betterC a.con (timesC a.con b.con) = R)) :
    Calls Tryd.prog 8 #[a.v, b.v, c.v] w fun e w' => e = .returned (.bool true) ∧ Below w.heap.size w w' := by
  have hs' := Lib.hid hs
  have hna := ha.1.2.2.2
  have hnb := hb.1.2.2.2
  have hnc := hc.1.2.2.2
  have h2' := Lib.hid (boxed3 ha hb hc ht _ rfl)
  have Fa := Lib.hid h2'.out.1
  have Fb := Lib.hid h2'.out.2.1
  have Fc := Lib.hid h2'.out.2.2.1
  have BB := Lib.hid h2'.out.2.2.2.1
  have TT := Lib.hid h2'.out.2.2.2.2
  have hN3 := hs
  rw [Bool.and_eq_true, Bool.and_eq_true, decide_eq_true_iff, decide_eq_true_iff, decide_eq_true_iff] at hN3
  have N60 := Lib.hid hN3
  have Nab := Lib.hid (show max a.n b.n + 1 ≤ 64 by have := N60.out; omega)
  have Nbc := Lib.hid (show max b.n c.n + 1 ≤ 64 by have := N60.out; omega)
  have Nac := Lib.hid (show max a.n c.n + 1 ≤ 64 by have := N60.out; omega)
  have Nba := Lib.hid (show max b.n a.n + 1 ≤ 64 by have := N60.out; omega)
  have Nat' := Lib.hid (show a.n + b.n + 1 ≤ 121 by have := N60.out; omega)
  have N64 : 64 ≤ 1099511627776 := by decide
  have N65 : 65 ≤ 1099511627776 := by decide
  have N121 : 121 ≤ 1099511627776 := by decide
  have N122 : 122 ≤ 1099511627776 := by decide
  have M1 := Lib.hid (bothE_zero.1 h1.out)
  have M2 := Lib.hid (bothE_zero.1 h2.out)
  have h3 := Lib.hid (bothE_zero.2 ⟨M1.out.1, M2.out.2.1, M1.out.2.2.trans M2.out.2.2⟩ : bothE a c = 0)
  have h4 := Lib.hid (bothE_zero.2 ⟨M1.out.2.1, M1.out.1, M1.out.2.2.symm⟩ : bothE b a = 0)
  have Va := Lib.hid (val_of_may ha M1.out.1)
  have Vb := Lib.hid (val_of_may hb M1.out.2.1)
  clear hN3 hs ha hb hc ht h2'
  have HS := Lib.hid (same_at M1.out.1 M1.out.2.1 M1.out.2.2 (better_anti Va.out Vb.out M1.out.2.2.symm HX.out HV.out))
  unfold SV.v
  go_enter Tryd.func8, Tryd.ntmps8
  go_wp2_with (first
    | (go_at_call 12; (with_reducible refine (small3 _ a b c _ true hs' hna hnb hnc (by go_simp) (by go_simp) (by go_simp)).mono ?_); rintro e w1 ⟨rfl, rfl⟩)
    | (go_at_call 31; (with_reducible refine (better_at a b _ 64 true Fa.out.ok Fb.out.ok Nab.out N64 h1 HX).mono ?_); rintro e wx ⟨rfl, hbwx⟩; have Fa := Lib.hid (Fa.out.go hbwx); have Fb := Lib.hid (Fb.out.go hbwx); have Fc := Lib.hid (Fc.out.go hbwx); have BB := Lib.hid (below_go BB.out hbwx); have TT := Lib.hid (TT.out.below hbwx); obtain ⟨c65_0, c65_1, c65_2, c65_3, c65_4, c65_5, _⟩ := Fa.out; obtain ⟨c66_0, c66_1, c66_2, c66_3, c66_4, c66_5, _⟩ := Fb.out; obtain ⟨c67_0, c67_1, c67_2, c67_3, c67_4, c67_5, _⟩ := Fc.out)
    | (go_at_call 31; (with_reducible refine (better_at b c _ 64 false Fb.out.ok Fc.out.ok Nbc.out N64 h2 HY).mono ?_); rintro e wy ⟨rfl, hbwy⟩; have Fa := Lib.hid (Fa.out.go hbwy); have Fb := Lib.hid (Fb.out.go hbwy); have Fc := Lib.hid (Fc.out.go hbwy); have BB := Lib.hid (below_go BB.out hbwy); have TT := Lib.hid (TT.out.below hbwy); obtain ⟨c68_0, c68_1, c68_2, c68_3, c68_4, c68_5, _⟩ := Fa.out; obtain ⟨c69_0, c69_1, c69_2, c69_3, c69_4, c69_5, _⟩ := Fb.out; obtain ⟨c70_0, c70_1, c70_2, c70_3, c70_4, c70_5, _⟩ := Fc.out)
    | (go_at_call 31; (with_reducible refine (better_at a c _ 64 Z Fa.out.ok Fc.out.ok Nac.out N64 h3 HZ).mono ?_); rintro e wv ⟨rfl, hbwv⟩; have Fa := Lib.hid (Fa.out.go hbwv); have Fb := Lib.hid (Fb.out.go hbwv); have Fc := Lib.hid (Fc.out.go hbwv); have BB := Lib.hid (below_go BB.out hbwv); have TT := Lib.hid (TT.out.below hbwv); obtain ⟨c71_0, c71_1, c71_2, c71_3, c71_4, c71_5, _⟩ := Fa.out; obtain ⟨c72_0, c72_1, c72_2, c72_3, c72_4, c72_5, _⟩ := Fb.out; obtain ⟨c73_0, c73_1, c73_2, c73_3, c73_4, c73_5, _⟩ := Fc.out)
    | (go_at_call 18; (with_reducible refine (plus_at a b _ 64 Fa.out.ok Fb.out.ok Nab.out N64 h1).mono ?_); rintro e wp ⟨p, rfl, pok, pC, pc, pn, hbp⟩; have Hpok := Lib.hid pok; have hps := Lib.hid ((con_s pC.out).trans (plusC_s _ _)); have hpm := Lib.hid (may_at pok pc.out pC.out (may_plusC h1.out)); have Hpa := Lib.hid (bothE_zero.2 ⟨hpm.out, M1.out.1, hps.out⟩); have Vp := Lib.hid (val_of_may pok hpm.out); have HQ := Lib.hid (show betterC p.con a.con = true by have hv := Vp.out; rw [pC.out] at hv ⊢; exact better_sum Va.out Vb.out hv); have Npa := Lib.hid (show max p.n a.n + 1 ≤ 65 by have := pn.out; have := N60.out; omega); have Fa := Lib.hid ((Fa.out.go hbp).al (.cells #[.int .i64 p.s, .bool p.b, .slice p.A p.n p.c, .int .i64 p.lv, .float .f64 p.x] 27)); have Fb := Lib.hid ((Fb.out.go hbp).al (.cells #[.int .i64 p.s, .bool p.b, .slice p.A p.n p.c, .int .i64 p.lv, .float .f64 p.x] 27)); have BB := Lib.hid (below_al (below_go BB.out hbp) (.cells #[.int .i64 p.s, .bool p.b, .slice p.A p.n p.c, .int .i64 p.lv, .float .f64 p.x] 27)); have TT := Lib.hid ((TT.out.below hbp).below (below_al (Below.refl _ _) (.cells #[.int .i64 p.s, .bool p.b, .slice p.A p.n p.c, .int .i64 p.lv, .float .f64 p.x] 27))); have Fp := Lib.hid (five_new _ p Hpok.out); obtain ⟨c74_0, c74_1, c74_2, c74_3, c74_4, c74_5, _⟩ := Fa.out; obtain ⟨c75_0, c75_1, c75_2, c75_3, c75_4, c75_5, _⟩ := Fb.out; obtain ⟨c76_0, c76_1, c76_2, c76_3, c76_4, c76_5, _⟩ := Fp.out)
    | (go_at_call 17; (with_reducible refine (times_at a b _ 121 Fa.out.ok Fb.out.ok Nat'.out N121 h1).mono ?_); rintro e wt ⟨t, rfl, tok, tC, tc, tn, hbt⟩; have Htok := Lib.hid tok; have hts := Lib.hid ((con_s tC.out).trans (timesC_s _ _)); have htm := Lib.hid (may_at tok tc.out tC.out (may_timesC h1.out)); have Hat := Lib.hid (bothE_zero.2 ⟨M1.out.1, htm.out, hts.out.symm⟩); have Vt := Lib.hid (val_of_may tok htm.out); have Nat2 := Lib.hid (show max a.n t.n + 1 ≤ 122 by have := tn.out; have := N60.out; omega); have HW := Lib.hid (show betterC a.con t.con = R by rw [tC.out]; exact HR.out); have Fa := Lib.hid ((Fa.out.go hbt).al (.cells #[.int .i64 t.s, .bool t.b, .slice t.A t.n t.c, .int .i64 t.lv, .float .f64 t.x] 27)); have Fb := Lib.hid ((Fb.out.go hbt).al (.cells #[.int .i64 t.s, .bool t.b, .slice t.A t.n t.c, .int .i64 t.lv, .float .f64 t.x] 27)); have Fp := Lib.hid ((Fp.out.go hbt).al (.cells #[.int .i64 t.s, .bool t.b, .slice t.A t.n t.c, .int .i64 t.lv, .float .f64 t.x] 27)); have BB := Lib.hid (below_al (below_go BB.out hbt) (.cells #[.int .i64 t.s, .bool t.b, .slice t.A t.n t.c, .int .i64 t.lv, .float .f64 t.x] 27)); have TT := Lib.hid ((TT.out.below hbt).below (below_al (Below.refl _ _) (.cells #[.int .i64 t.s, .bool t.b, .slice t.A t.n t.c, .int .i64 t.lv, .float .f64 t.x] 27))); have Ft := Lib.hid (five_new _ t Htok.out); obtain ⟨c77_0, c77_1, c77_2, c77_3, c77_4, c77_5, _⟩ := Fa.out; obtain ⟨c78_0, c78_1, c78_2, c78_3, c78_4, c78_5, _⟩ := Fb.out; obtain ⟨c79_0, c79_1, c79_2, c79_3, c79_4, c79_5, _⟩ := Fp.out; obtain ⟨c80_0, c80_1, c80_2, c80_3, c80_4, c80_5, _⟩ := Ft.out)
    | (go_at_call 31; (with_reducible refine (better_at p a _ 65 true Fp.out.ok Fa.out.ok Npa.out N65 Hpa HQ).mono ?_); rintro e wq ⟨rfl, hbwq⟩; have Fa := Lib.hid (Fa.out.go hbwq); have Fb := Lib.hid (Fb.out.go hbwq); have Ft := Lib.hid (Ft.out.go hbwq); have BB := Lib.hid (below_go BB.out hbwq); have TT := Lib.hid (TT.out.below hbwq); obtain ⟨c81_0, c81_1, c81_2, c81_3, c81_4, c81_5, _⟩ := Fa.out; obtain ⟨c82_0, c82_1, c82_2, c82_3, c82_4, c82_5, _⟩ := Fb.out; obtain ⟨c83_0, c83_1, c83_2, c83_3, c83_4, c83_5, _⟩ := Ft.out)
    | (go_at_call 31; (with_reducible refine (better_at a t _ 122 R Fa.out.ok Ft.out.ok Nat2.out N122 Hat HW).mono ?_); rintro e wr ⟨rfl, hbwr⟩; have Fa := Lib.hid (Fa.out.go hbwr); have Fb := Lib.hid (Fb.out.go hbwr); have BB := Lib.hid (below_go BB.out hbwr); have TT := Lib.hid (TT.out.below hbwr); obtain ⟨c84_0, c84_1, c84_2, c84_3, c84_4, c84_5, _⟩ := Fa.out; obtain ⟨c85_0, c85_1, c85_2, c85_3, c85_4, c85_5, _⟩ := Fb.out)
    | (go_at_call 31; (with_reducible refine (better_at b a _ 64 true Fb.out.ok Fa.out.ok Nba.out N64 h4 HV).mono ?_); rintro e wu ⟨rfl, hbwu⟩; have Fa := Lib.hid (Fa.out.go hbwu); have Fb := Lib.hid (Fb.out.go hbwu); have BB := Lib.hid (below_go BB.out hbwu); have TT := Lib.hid (TT.out.below hbwu); obtain ⟨c86_0, c86_1, c86_2, c86_3, c86_4, c86_5, _⟩ := Fa.out; obtain ⟨c87_0, c87_1, c87_2, c87_3, c87_4, c87_5, _⟩ := Fb.out)
    | (go_at_call 19; (with_reducible refine (same_yes a b _ Fa.out.ok Fb.out.ok HS).mono ?_); rintro e ws ⟨rfl, hbws⟩; have Fa := Lib.hid (Fa.out.go hbws); have BB := Lib.hid (below_go BB.out hbws); have TT := Lib.hid (TT.out.below hbws); obtain ⟨c88_0, c88_1, c88_2, c88_3, c88_4, c88_5, _⟩ := Fa.out)
    | (go_at_call 13; (with_reducible refine (awake_any _ TT.out).mono ?_); rintro e wz ⟨rfl, hbz⟩))
  go_ret
  exact ⟨rfl, below_go BB.out hbz⟩
set_option maxRecDepth 100000 in
set_option maxHeartbeats 4000000 in
theorem better_count_ttf (a b c : SV) (w : World) (ht : Tab w) (ha : a.ok w) (hb : b.ok w) (hc : c.ok w) (hs : (decide (a.n ≤ 60) && decide (b.n ≤ 60) && decide (c.n ≤ 60)) = true) (h1 : Hid (bothE a b = 0)) (h2 : Hid (bothE b c = 0)) (R : Bool) (t1 : (a.s == 1) = true)
    (HX : Hid (betterC a.con b.con = true)) (HY : Hid (betterC b.con c.con = true)) (HZ : Hid (betterC a.con c.con = true)) (HV : Hid (betterC b.con a.con = false)) (HR : Hid (betterC a.con (timesC a.con b.con) = R)) :
    Calls Tryd.prog 8 #[a.v, b.v, c.v] w fun e w' => e = .returned (.bool true) ∧ Below w.heap.size w w' := by
  have hs' := Lib.hid hs
  have hna := ha.1.2.2.2
  have hnb := hb.1.2.2.2
  have hnc := hc.1.2.2.2
  have h2' := Lib.hid (boxed3 ha hb hc ht _ rfl)
  have Fa := Lib.hid h2'.out.1
  have Fb := Lib.hid h2'.out.2.1
  have Fc := Lib.hid h2'.out.2.2.1
  have BB := Lib.hid h2'.out.2.2.2.1
  have TT := Lib.hid h2'.out.2.2.2.2
  have hN3 := hs
  rw [Bool.and_eq_true, Bool.and_eq_true, decide_eq_true_iff, decide_eq_true_iff, decide_eq_true_iff] at hN3
  have N60 := Lib.hid hN3
  have Nab := Lib.hid (show max a.n b.n + 1 ≤ 64 by have := N60.out; omega)
  have Nbc := Lib.hid (show max b.n c.n + 1 ≤ 64 by have := N60.out; omega)
  have Nac := Lib.hid (show max a.n c.n + 1 ≤ 64 by have := N60.out; omega)
  have Nba := Lib.hid (show max b.n a.n + 1 ≤ 64 by have := N60.out; omega)
  have Nat' := Lib.hid (show a.n + b.n + 1 ≤ 121 by have := N60.out; omega)
  have N64 : 64 ≤ 1099511627776 := by decide
  have N65 : 65 ≤ 1099511627776 := by decide
  have N121 : 121 ≤ 1099511627776 := by decide
  have N122 : 122 ≤ 1099511627776 := by decide
  have M1 := Lib.hid (bothE_zero.1 h1.out)
  have M2 := Lib.hid (bothE_zero.1 h2.out)
  have h3 := Lib.hid (bothE_zero.2 ⟨M1.out.1, M2.out.2.1, M1.out.2.2.trans M2.out.2.2⟩ : bothE a c = 0)
  have h4 := Lib.hid (bothE_zero.2 ⟨M1.out.2.1, M1.out.1, M1.out.2.2.symm⟩ : bothE b a = 0)
  have Va := Lib.hid (val_of_may ha M1.out.1)
  have Vb := Lib.hid (val_of_may hb M1.out.2.1)
  clear hN3 hs ha hb hc ht h2'
  unfold SV.v
  go_enter Tryd.func8, Tryd.ntmps8
  go_wp2_with (first
    | (go_at_call 12; (with_reducible refine (small3 _ a b c _ true hs' hna hnb hnc (by go_simp) (by go_simp) (by go_simp)).mono ?_); rintro e w1 ⟨rfl, rfl⟩)
    | (go_at_call 31; (with_reducible refine (better_at a b _ 64 true Fa.out.ok Fb.out.ok Nab.out N64 h1 HX).mono ?_); rintro e wx ⟨rfl, hbwx⟩; have Fa := Lib.hid (Fa.out.go hbwx); have Fb := Lib.hid (Fb.out.go hbwx); have Fc := Lib.hid (Fc.out.go hbwx); have BB := Lib.hid (below_go BB.out hbwx); have TT := Lib.hid (TT.out.below hbwx); obtain ⟨c89_0, c89_1, c89_2, c89_3, c89_4, c89_5, _⟩ := Fa.out; obtain ⟨c90_0, c90_1, c90_2, c90_3, c90_4, c90_5, _⟩ := Fb.out; obtain ⟨c91_0, c91_1, c91_2, c91_3, c91_4, c91_5, _⟩ := Fc.out)
    | (go_at_call 31; (with_reducible refine (better_at b c _ 64 true Fb.out.ok Fc.out.ok Nbc.out N64 h2 HY).mono ?_); rintro e wy ⟨rfl, hbwy⟩; have Fa := Lib.hid (Fa.out.go hbwy); have Fb := Lib.hid (Fb.out.go hbwy); have Fc := Lib.hid (Fc.out.go hbwy); have BB := Lib.hid (below_go BB.out hbwy); have TT := Lib.hid (TT.out.below hbwy); obtain ⟨c92_0, c92_1, c92_2, c92_3, c92_4, c92_5, _⟩ := Fa.out; obtain ⟨c93_0, c93_1, c93_2, c93_3, c93_4, c93_5, _⟩ := Fb.out; obtain ⟨c94_0, c94_1, c94_2, c94_3, c94_4, c94_5, _⟩ := Fc.out)
    | (go_at_call 31; (with_reducible refine (better_at a c _ 64 true Fa.out.ok Fc.out.ok Nac.out N64 h3 HZ).mono ?_); rintro e wv ⟨rfl, hbwv⟩; have Fa := Lib.hid (Fa.out.go hbwv); have Fb := Lib.hid (Fb.out.go hbwv); have Fc := Lib.hid (Fc.out.go hbwv); have BB := Lib.hid (below_go BB.out hbwv); have TT := Lib.hid (TT.out.below hbwv); obtain ⟨c95_0, c95_1, c95_2, c95_3, c95_4, c95_5, _⟩ := Fa.out; obtain ⟨c96_0, c96_1, c96_2, c96_3, c96_4, c96_5, _⟩ := Fb.out; obtain ⟨c97_0, c97_1, c97_2, c97_3, c97_4, c97_5, _⟩ := Fc.out)
    | (go_at_call 18; (with_reducible refine (plus_at a b _ 64 Fa.out.ok Fb.out.ok Nab.out N64 h1).mono ?_); rintro e wp ⟨p, rfl, pok, pC, pc, pn, hbp⟩; have Hpok := Lib.hid pok; have hps := Lib.hid ((con_s pC.out).trans (plusC_s _ _)); have hpm := Lib.hid (may_at pok pc.out pC.out (may_plusC h1.out)); have Hpa := Lib.hid (bothE_zero.2 ⟨hpm.out, M1.out.1, hps.out⟩); have Vp := Lib.hid (val_of_may pok hpm.out); have HQ := Lib.hid (show betterC p.con a.con = true by have hv := Vp.out; rw [pC.out] at hv ⊢; exact better_sum Va.out Vb.out hv); have Npa := Lib.hid (show max p.n a.n + 1 ≤ 65 by have := pn.out; have := N60.out; omega); have Fa := Lib.hid ((Fa.out.go hbp).al (.cells #[.int .i64 p.s, .bool p.b, .slice p.A p.n p.c, .int .i64 p.lv, .float .f64 p.x] 27)); have Fb := Lib.hid ((Fb.out.go hbp).al (.cells #[.int .i64 p.s, .bool p.b, .slice p.A p.n p.c, .int .i64 p.lv, .float .f64 p.x] 27)); have BB := Lib.hid (below_al (below_go BB.out hbp) (.cells #[.int .i64 p.s, .bool p.b, .slice p.A p.n p.c, .int .i64 p.lv, .float .f64 p.x] 27)); have TT := Lib.hid ((TT.out.below hbp).below (below_al (Below.refl _ _) (.cells #[.int .i64 p.s, .bool p.b, .slice p.A p.n p.c, .int .i64 p.lv, .float .f64 p.x] 27))); have Fp := Lib.hid (five_new _ p Hpok.out); obtain ⟨c98_0, c98_1, c98_2, c98_3, c98_4, c98_5, _⟩ := Fa.out; obtain ⟨c99_0, c99_1, c99_2, c99_3, c99_4, c99_5, _⟩ := Fb.out; obtain ⟨c100_0, c100_1, c100_2, c100_3, c100_4, c100_5, _⟩ := Fp.out)
    | (go_at_call 17; (with_reducible refine (times_at a b _ 121 Fa.out.ok Fb.out.ok Nat'.out N121 h1).mono ?_); rintro e wt ⟨t, rfl, tok, tC, tc, tn, hbt⟩; have Htok := Lib.hid tok; have hts := Lib.hid ((con_s tC.out).trans (timesC_s _ _)); have htm := Lib.hid (may_at tok tc.out tC.out (may_timesC h1.out)); have Hat := Lib.hid (bothE_zero.2 ⟨M1.out.1, htm.out, hts.out.symm⟩); have Vt := Lib.hid (val_of_may tok htm.out); have Nat2 := Lib.hid (show max a.n t.n + 1 ≤ 122 by have := tn.out; have := N60.out; omega); have HW := Lib.hid (show betterC a.con t.con = R by rw [tC.out]; exact HR.out); have Fa := Lib.hid ((Fa.out.go hbt).al (.cells #[.int .i64 t.s, .bool t.b, .slice t.A t.n t.c, .int .i64 t.lv, .float .f64 t.x] 27)); have Fb := Lib.hid ((Fb.out.go hbt).al (.cells #[.int .i64 t.s, .bool t.b, .slice t.A t.n t.c, .int .i64 t.lv, .float .f64 t.x] 27)); have Fp := Lib.hid ((Fp.out.go hbt).al (.cells #[.int .i64 t.s, .bool t.b, .slice t.A t.n t.c, .int .i64 t.lv, .float .f64 t.x] 27)); have BB := Lib.hid (below_al (below_go BB.out hbt) (.cells #[.int .i64 t.s, .bool t.b, .slice t.A t.n t.c, .int .i64 t.lv, .float .f64 t.x] 27)); have TT := Lib.hid ((TT.out.below hbt).below (below_al (Below.refl _ _) (.cells #[.int .i64 t.s, .bool t.b, .slice t.A t.n t.c, .int .i64 t.lv, .float .f64 t.x] 27))); have Ft := Lib.hid (five_new _ t Htok.out); obtain ⟨c101_0, c101_1, c101_2, c101_3, c101_4, c101_5, _⟩ := Fa.out; obtain ⟨c102_0, c102_1, c102_2, c102_3, c102_4, c102_5, _⟩ := Fb.out; obtain ⟨c103_0, c103_1, c103_2, c103_3, c103_4, c103_5, _⟩ := Fp.out; obtain ⟨c104_0, c104_1, c104_2, c104_3, c104_4, c104_5, _⟩ := Ft.out)
    | (go_at_call 31; (with_reducible refine (better_at p a _ 65 true Fp.out.ok Fa.out.ok Npa.out N65 Hpa HQ).mono ?_); rintro e wq ⟨rfl, hbwq⟩; have Fa := Lib.hid (Fa.out.go hbwq); have Fb := Lib.hid (Fb.out.go hbwq); have Ft := Lib.hid (Ft.out.go hbwq); have BB := Lib.hid (below_go BB.out hbwq); have TT := Lib.hid (TT.out.below hbwq); obtain ⟨c105_0, c105_1, c105_2, c105_3, c105_4, c105_5, _⟩ := Fa.out; obtain ⟨c106_0, c106_1, c106_2, c106_3, c106_4, c106_5, _⟩ := Fb.out; obtain ⟨c107_0, c107_1, c107_2, c107_3, c107_4, c107_5, _⟩ := Ft.out)
    | (go_at_call 31; (with_reducible refine (better_at a t _ 122 R Fa.out.ok Ft.out.ok Nat2.out N122 Hat HW).mono ?_); rintro e wr ⟨rfl, hbwr⟩; have Fa := Lib.hid (Fa.out.go hbwr); have Fb := Lib.hid (Fb.out.go hbwr); have BB := Lib.hid (below_go BB.out hbwr); have TT := Lib.hid (TT.out.below hbwr); obtain ⟨c108_0, c108_1, c108_2, c108_3, c108_4, c108_5, _⟩ := Fa.out; obtain ⟨c109_0, c109_1, c109_2, c109_3, c109_4, c109_5, _⟩ := Fb.out)
    | (go_at_call 31; (with_reducible refine (better_at b a _ 64 false Fb.out.ok Fa.out.ok Nba.out N64 h4 HV).mono ?_); rintro e wu ⟨rfl, hbwu⟩; have Fa := Lib.hid (Fa.out.go hbwu); have Fb := Lib.hid (Fb.out.go hbwu); have BB := Lib.hid (below_go BB.out hbwu); have TT := Lib.hid (TT.out.below hbwu); obtain ⟨c110_0, c110_1, c110_2, c110_3, c110_4, c110_5, _⟩ := Fa.out; obtain ⟨c111_0, c111_1, c111_2, c111_3, c111_4, c111_5, _⟩ := Fb.out)
    | (go_at_call 13; (with_reducible refine (awake_any _ TT.out).mono ?_); rintro e wz ⟨rfl, hbz⟩))
  go_ret
  exact ⟨rfl, below_go BB.out hbz⟩
set_option maxRecDepth 100000 in
set_option maxHeartbeats 4000000 in
theorem better_count_ttt (a b c : SV) (w : World) (ht : Tab w) (ha : a.ok w) (hb : b.ok w) (hc : c.ok w) (hs : (decide (a.n ≤ 60) && decide (b.n ≤ 60) && decide (c.n ≤ 60)) = true) (h1 : Hid (bothE a b = 0)) (h2 : Hid (bothE b c = 0)) (R : Bool) (t1 : (a.s == 1) = true)
    (HX : Hid (betterC a.con b.con = true)) (HY : Hid (betterC b.con c.con = true)) (HZ : Hid (betterC a.con c.con = true)) (HV : Hid (betterC b.con a.con = true)) (HR : Hid (betterC a.con (timesC a.con b.con) = R)) :
    Calls Tryd.prog 8 #[a.v, b.v, c.v] w fun e w' => e = .returned (.bool true) ∧ Below w.heap.size w w' := by
  have hs' := Lib.hid hs
  have hna := ha.1.2.2.2
  have hnb := hb.1.2.2.2
  have hnc := hc.1.2.2.2
  have h2' := Lib.hid (boxed3 ha hb hc ht _ rfl)
  have Fa := Lib.hid h2'.out.1
  have Fb := Lib.hid h2'.out.2.1
  have Fc := Lib.hid h2'.out.2.2.1
  have BB := Lib.hid h2'.out.2.2.2.1
  have TT := Lib.hid h2'.out.2.2.2.2
  have hN3 := hs
  rw [Bool.and_eq_true, Bool.and_eq_true, decide_eq_true_iff, decide_eq_true_iff, decide_eq_true_iff] at hN3
  have N60 := Lib.hid hN3
  have Nab := Lib.hid (show max a.n b.n + 1 ≤ 64 by have := N60.out; omega)
  have Nbc := Lib.hid (show max b.n c.n + 1 ≤ 64 by have := N60.out; omega)
  have Nac := Lib.hid (show max a.n c.n + 1 ≤ 64 by have := N60.out; omega)
  have Nba := Lib.hid (show max b.n a.n + 1 ≤ 64 by have := N60.out; omega)
  have Nat' := Lib.hid (show a.n + b.n + 1 ≤ 121 by have := N60.out; omega)
  have N64 : 64 ≤ 1099511627776 := by decide
  have N65 : 65 ≤ 1099511627776 := by decide
  have N121 : 121 ≤ 1099511627776 := by decide
  have N122 : 122 ≤ 1099511627776 := by decide
  have M1 := Lib.hid (bothE_zero.1 h1.out)
  have M2 := Lib.hid (bothE_zero.1 h2.out)
  have h3 := Lib.hid (bothE_zero.2 ⟨M1.out.1, M2.out.2.1, M1.out.2.2.trans M2.out.2.2⟩ : bothE a c = 0)
  have h4 := Lib.hid (bothE_zero.2 ⟨M1.out.2.1, M1.out.1, M1.out.2.2.symm⟩ : bothE b a = 0)
  have Va := Lib.hid (val_of_may ha M1.out.1)
  have Vb := Lib.hid (val_of_may hb M1.out.2.1)
  clear hN3 hs ha hb hc ht h2'
  have HS := Lib.hid (same_at M1.out.1 M1.out.2.1 M1.out.2.2 (better_anti Va.out Vb.out M1.out.2.2.symm HX.out HV.out))
  unfold SV.v
  go_enter Tryd.func8, Tryd.ntmps8
  go_wp2_with (first
    | (go_at_call 12; (with_reducible refine (small3 _ a b c _ true hs' hna hnb hnc (by go_simp) (by go_simp) (by go_simp)).mono ?_); rintro e w1 ⟨rfl, rfl⟩)
    | (go_at_call 31; (with_reducible refine (better_at a b _ 64 true Fa.out.ok Fb.out.ok Nab.out N64 h1 HX).mono ?_); rintro e wx ⟨rfl, hbwx⟩; have Fa := Lib.hid (Fa.out.go hbwx); have Fb := Lib.hid (Fb.out.go hbwx); have Fc := Lib.hid (Fc.out.go hbwx); have BB := Lib.hid (below_go BB.out hbwx); have TT := Lib.hid (TT.out.below hbwx); obtain ⟨c112_0, c112_1, c112_2, c112_3, c112_4, c112_5, _⟩ := Fa.out; obtain ⟨c113_0, c113_1, c113_2, c113_3, c113_4, c113_5, _⟩ := Fb.out; obtain ⟨c114_0, c114_1, c114_2, c114_3, c114_4, c114_5, _⟩ := Fc.out)
    | (go_at_call 31; (with_reducible refine (better_at b c _ 64 true Fb.out.ok Fc.out.ok Nbc.out N64 h2 HY).mono ?_); rintro e wy ⟨rfl, hbwy⟩; have Fa := Lib.hid (Fa.out.go hbwy); have Fb := Lib.hid (Fb.out.go hbwy); have Fc := Lib.hid (Fc.out.go hbwy); have BB := Lib.hid (below_go BB.out hbwy); have TT := Lib.hid (TT.out.below hbwy); obtain ⟨c115_0, c115_1, c115_2, c115_3, c115_4, c115_5, _⟩ := Fa.out; obtain ⟨c116_0, c116_1, c116_2, c116_3, c116_4, c116_5, _⟩ := Fb.out; obtain ⟨c117_0, c117_1, c117_2, c117_3, c117_4, c117_5, _⟩ := Fc.out)
    | (go_at_call 31; (with_reducible refine (better_at a c _ 64 true Fa.out.ok Fc.out.ok Nac.out N64 h3 HZ).mono ?_); rintro e wv ⟨rfl, hbwv⟩; have Fa := Lib.hid (Fa.out.go hbwv); have Fb := Lib.hid (Fb.out.go hbwv); have Fc := Lib.hid (Fc.out.go hbwv); have BB := Lib.hid (below_go BB.out hbwv); have TT := Lib.hid (TT.out.below hbwv); obtain ⟨c118_0, c118_1, c118_2, c118_3, c118_4, c118_5, _⟩ := Fa.out; obtain ⟨c119_0, c119_1, c119_2, c119_3, c119_4, c119_5, _⟩ := Fb.out; obtain ⟨c120_0, c120_1, c120_2, c120_3, c120_4, c120_5, _⟩ := Fc.out)
    | (go_at_call 18; (with_reducible refine (plus_at a b _ 64 Fa.out.ok Fb.out.ok Nab.out N64 h1).mono ?_); rintro e wp ⟨p, rfl, pok, pC, pc, pn, hbp⟩; have Hpok := Lib.hid pok; have hps := Lib.hid ((con_s pC.out).trans (plusC_s _ _)); have hpm := Lib.hid (may_at pok pc.out pC.out (may_plusC h1.out)); have Hpa := Lib.hid (bothE_zero.2 ⟨hpm.out, M1.out.1, hps.out⟩); have Vp := Lib.hid (val_of_may pok hpm.out); have HQ := Lib.hid (show betterC p.con a.con = true by have hv := Vp.out; rw [pC.out] at hv ⊢; exact better_sum Va.out Vb.out hv); have Npa := Lib.hid (show max p.n a.n + 1 ≤ 65 by have := pn.out; have := N60.out; omega); have Fa := Lib.hid ((Fa.out.go hbp).al (.cells #[.int .i64 p.s, .bool p.b, .slice p.A p.n p.c, .int .i64 p.lv, .float .f64 p.x] 27)); have Fb := Lib.hid ((Fb.out.go hbp).al (.cells #[.int .i64 p.s, .bool p.b, .slice p.A p.n p.c, .int .i64 p.lv, .float .f64 p.x] 27)); have BB := Lib.hid (below_al (below_go BB.out hbp) (.cells #[.int .i64 p.s, .bool p.b, .slice p.A p.n p.c, .int .i64 p.lv, .float .f64 p.x] 27)); have TT := Lib.hid ((TT.out.below hbp).below (below_al (Below.refl _ _) (.cells #[.int .i64 p.s, .bool p.b, .slice p.A p.n p.c, .int .i64 p.lv, .float .f64 p.x] 27))); have Fp := Lib.hid (five_new _ p Hpok.out); obtain ⟨c121_0, c121_1, c121_2, c121_3, c121_4, c121_5, _⟩ := Fa.out; obtain ⟨c122_0, c122_1, c122_2, c122_3, c122_4, c122_5, _⟩ := Fb.out; obtain ⟨c123_0, c123_1, c123_2, c123_3, c123_4, c123_5, _⟩ := Fp.out)
    | (go_at_call 17; (with_reducible refine (times_at a b _ 121 Fa.out.ok Fb.out.ok Nat'.out N121 h1).mono ?_); rintro e wt ⟨t, rfl, tok, tC, tc, tn, hbt⟩; have Htok := Lib.hid tok; have hts := Lib.hid ((con_s tC.out).trans (timesC_s _ _)); have htm := Lib.hid (may_at tok tc.out tC.out (may_timesC h1.out)); have Hat := Lib.hid (bothE_zero.2 ⟨M1.out.1, htm.out, hts.out.symm⟩); have Vt := Lib.hid (val_of_may tok htm.out); have Nat2 := Lib.hid (show max a.n t.n + 1 ≤ 122 by have := tn.out; have := N60.out; omega); have HW := Lib.hid (show betterC a.con t.con = R by rw [tC.out]; exact HR.out); have Fa := Lib.hid ((Fa.out.go hbt).al (.cells #[.int .i64 t.s, .bool t.b, .slice t.A t.n t.c, .int .i64 t.lv, .float .f64 t.x] 27)); have Fb := Lib.hid ((Fb.out.go hbt).al (.cells #[.int .i64 t.s, .bool t.b, .slice t.A t.n t.c, .int .i64 t.lv, .float .f64 t.x] 27)); have Fp := Lib.hid ((Fp.out.go hbt).al (.cells #[.int .i64 t.s, .bool t.b, .slice t.A t.n t.c, .int .i64 t.lv, .float .f64 t.x] 27)); have BB := Lib.hid (below_al (below_go BB.out hbt) (.cells #[.int .i64 t.s, .bool t.b, .slice t.A t.n t.c, .int .i64 t.lv, .float .f64 t.x] 27)); have TT := Lib.hid ((TT.out.below hbt).below (below_al (Below.refl _ _) (.cells #[.int .i64 t.s, .bool t.b, .slice t.A t.n t.c, .int .i64 t.lv, .float .f64 t.x] 27))); have Ft := Lib.hid (five_new _ t Htok.out); obtain ⟨c124_0, c124_1, c124_2, c124_3, c124_4, c124_5, _⟩ := Fa.out; obtain ⟨c125_0, c125_1, c125_2, c125_3, c125_4, c125_5, _⟩ := Fb.out; obtain ⟨c126_0, c126_1, c126_2, c126_3, c126_4, c126_5, _⟩ := Fp.out; obtain ⟨c127_0, c127_1, c127_2, c127_3, c127_4, c127_5, _⟩ := Ft.out)
    | (go_at_call 31; (with_reducible refine (better_at p a _ 65 true Fp.out.ok Fa.out.ok Npa.out N65 Hpa HQ).mono ?_); rintro e wq ⟨rfl, hbwq⟩; have Fa := Lib.hid (Fa.out.go hbwq); have Fb := Lib.hid (Fb.out.go hbwq); have Ft := Lib.hid (Ft.out.go hbwq); have BB := Lib.hid (below_go BB.out hbwq); have TT := Lib.hid (TT.out.below hbwq); obtain ⟨c128_0, c128_1, c128_2, c128_3, c128_4, c128_5, _⟩ := Fa.out; obtain ⟨c129_0, c129_1, c129_2, c129_3, c129_4, c129_5, _⟩ := Fb.out; obtain ⟨c130_0, c130_1, c130_2, c130_3, c130_4, c130_5, _⟩ := Ft.out)
    | (go_at_call 31; (with_reducible refine (better_at a t _ 122 R Fa.out.ok Ft.out.ok Nat2.out N122 Hat HW).mono ?_); rintro e wr ⟨rfl, hbwr⟩; have Fa := Lib.hid (Fa.out.go hbwr); have Fb := Lib.hid (Fb.out.go hbwr); have BB := Lib.hid (below_go BB.out hbwr); have TT := Lib.hid (TT.out.below hbwr); obtain ⟨c131_0, c131_1, c131_2, c131_3, c131_4, c131_5, _⟩ := Fa.out; obtain ⟨c132_0, c132_1, c132_2, c132_3, c132_4, c132_5, _⟩ := Fb.out)
    | (go_at_call 31; (with_reducible refine (better_at b a _ 64 true Fb.out.ok Fa.out.ok Nba.out N64 h4 HV).mono ?_); rintro e wu ⟨rfl, hbwu⟩; have Fa := Lib.hid (Fa.out.go hbwu); have Fb := Lib.hid (Fb.out.go hbwu); have BB := Lib.hid (below_go BB.out hbwu); have TT := Lib.hid (TT.out.below hbwu); obtain ⟨c133_0, c133_1, c133_2, c133_3, c133_4, c133_5, _⟩ := Fa.out; obtain ⟨c134_0, c134_1, c134_2, c134_3, c134_4, c134_5, _⟩ := Fb.out)
    | (go_at_call 19; (with_reducible refine (same_yes a b _ Fa.out.ok Fb.out.ok HS).mono ?_); rintro e ws ⟨rfl, hbws⟩; have Fa := Lib.hid (Fa.out.go hbws); have BB := Lib.hid (below_go BB.out hbws); have TT := Lib.hid (TT.out.below hbws); obtain ⟨c135_0, c135_1, c135_2, c135_3, c135_4, c135_5, _⟩ := Fa.out)
    | (go_at_call 13; (with_reducible refine (awake_any _ TT.out).mono ?_); rintro e wz ⟨rfl, hbz⟩))
  go_ret
  exact ⟨rfl, below_go BB.out hbz⟩
set_option maxRecDepth 100000 in
set_option maxHeartbeats 4000000 in
theorem better_other_fxx (a b c : SV) (w : World) (ht : Tab w) (ha : a.ok w) (hb : b.ok w) (hc : c.ok w) (hs : (decide (a.n ≤ 60) && decide (b.n ≤ 60) && decide (c.n ≤ 60)) = true) (h1 : Hid (bothE a b = 0)) (h2 : Hid (bothE b c = 0)) (Y Z : Bool) (t1 : (a.s == 1) = false)
    (HX : Hid (betterC a.con b.con = false)) (HY : Hid (betterC b.con c.con = Y)) (HZ : Hid (betterC a.con c.con = Z)) (HV : Hid (betterC b.con a.con = true)) :
    Calls Tryd.prog 8 #[a.v, b.v, c.v] w fun e w' => e = .returned (.bool true) ∧ Below w.heap.size w w' := by
  have hs' := Lib.hid hs
  have hna := ha.1.2.2.2
  have hnb := hb.1.2.2.2
  have hnc := hc.1.2.2.2
  have h2' := Lib.hid (boxed3 ha hb hc ht _ rfl)
  have Fa := Lib.hid h2'.out.1
  have Fb := Lib.hid h2'.out.2.1
  have Fc := Lib.hid h2'.out.2.2.1
  have BB := Lib.hid h2'.out.2.2.2.1
  have TT := Lib.hid h2'.out.2.2.2.2
  have hN3 := hs
  rw [Bool.and_eq_true, Bool.and_eq_true, decide_eq_true_iff, decide_eq_true_iff, decide_eq_true_iff] at hN3
  have N60 := Lib.hid hN3
  have Nab := Lib.hid (show max a.n b.n + 1 ≤ 64 by have := N60.out; omega)
  have Nbc := Lib.hid (show max b.n c.n + 1 ≤ 64 by have := N60.out; omega)
  have Nac := Lib.hid (show max a.n c.n + 1 ≤ 64 by have := N60.out; omega)
  have Nba := Lib.hid (show max b.n a.n + 1 ≤ 64 by have := N60.out; omega)
  have Nat' := Lib.hid (show a.n + b.n + 1 ≤ 121 by have := N60.out; omega)
  have N64 : 64 ≤ 1099511627776 := by decide
  have N65 : 65 ≤ 1099511627776 := by decide
  have N121 : 121 ≤ 1099511627776 := by decide
  have N122 : 122 ≤ 1099511627776 := by decide
  have M1 := Lib.hid (bothE_zero.1 h1.out)
  have M2 := Lib.hid (bothE_zero.1 h2.out)
  have h3 := Lib.hid (bothE_zero.2 ⟨M1.out.1, M2.out.2.1, M1.out.2.2.trans M2.out.2.2⟩ : bothE a c = 0)
  have h4 := Lib.hid (bothE_zero.2 ⟨M1.out.2.1, M1.out.1, M1.out.2.2.symm⟩ : bothE b a = 0)
  have Va := Lib.hid (val_of_may ha M1.out.1)
  have Vb := Lib.hid (val_of_may hb M1.out.2.1)
  have HT1 := Lib.hid t1
  clear hN3 hs ha hb hc ht h2'
  unfold SV.v
  go_enter Tryd.func8, Tryd.ntmps8
  go_wp2_with (first
    | (go_at_call 12; (with_reducible refine (small3 _ a b c _ true hs' hna hnb hnc (by go_simp) (by go_simp) (by go_simp)).mono ?_); rintro e w1 ⟨rfl, rfl⟩)
    | (go_at_call 31; (with_reducible refine (better_at a b _ 64 false Fa.out.ok Fb.out.ok Nab.out N64 h1 HX).mono ?_); rintro e wx ⟨rfl, hbwx⟩; have Fa := Lib.hid (Fa.out.go hbwx); have Fb := Lib.hid (Fb.out.go hbwx); have Fc := Lib.hid (Fc.out.go hbwx); have BB := Lib.hid (below_go BB.out hbwx); have TT := Lib.hid (TT.out.below hbwx); obtain ⟨c136_0, c136_1, c136_2, c136_3, c136_4, c136_5, _⟩ := Fa.out; obtain ⟨c137_0, c137_1, c137_2, c137_3, c137_4, c137_5, _⟩ := Fb.out; obtain ⟨c138_0, c138_1, c138_2, c138_3, c138_4, c138_5, _⟩ := Fc.out)
    | (go_at_call 31; (with_reducible refine (better_at b c _ 64 Y Fb.out.ok Fc.out.ok Nbc.out N64 h2 HY).mono ?_); rintro e wy ⟨rfl, hbwy⟩; have Fa := Lib.hid (Fa.out.go hbwy); have Fb := Lib.hid (Fb.out.go hbwy); have Fc := Lib.hid (Fc.out.go hbwy); have BB := Lib.hid (below_go BB.out hbwy); have TT := Lib.hid (TT.out.below hbwy); obtain ⟨c139_0, c139_1, c139_2, c139_3, c139_4, c139_5, _⟩ := Fa.out; obtain ⟨c140_0, c140_1, c140_2, c140_3, c140_4, c140_5, _⟩ := Fb.out; obtain ⟨c141_0, c141_1, c141_2, c141_3, c141_4, c141_5, _⟩ := Fc.out)
    | (go_at_call 31; (with_reducible refine (better_at a c _ 64 Z Fa.out.ok Fc.out.ok Nac.out N64 h3 HZ).mono ?_); rintro e wv ⟨rfl, hbwv⟩; have Fa := Lib.hid (Fa.out.go hbwv); have Fb := Lib.hid (Fb.out.go hbwv); have Fc := Lib.hid (Fc.out.go hbwv); have BB := Lib.hid (below_go BB.out hbwv); have TT := Lib.hid (TT.out.below hbwv); obtain ⟨c142_0, c142_1, c142_2, c142_3, c142_4, c142_5, _⟩ := Fa.out; obtain ⟨c143_0, c143_1, c143_2, c143_3, c143_4, c143_5, _⟩ := Fb.out; obtain ⟨c144_0, c144_1, c144_2, c144_3, c144_4, c144_5, _⟩ := Fc.out)
    | (go_at_call 18; (with_reducible refine (plus_at a b _ 64 Fa.out.ok Fb.out.ok Nab.out N64 h1).mono ?_); rintro e wp ⟨p, rfl, pok, pC, pc, pn, hbp⟩; have Hpok := Lib.hid pok; have hps := Lib.hid ((con_s pC.out).trans (plusC_s _ _)); have hpm := Lib.hid (may_at pok pc.out pC.out (may_plusC h1.out)); have Hpa := Lib.hid (bothE_zero.2 ⟨hpm.out, M1.out.1, hps.out⟩); have Vp := Lib.hid (val_of_may pok hpm.out); have HQ := Lib.hid (show betterC p.con a.con = true by have hv := Vp.out; rw [pC.out] at hv ⊢; exact better_sum Va.out Vb.out hv); have Npa := Lib.hid (show max p.n a.n + 1 ≤ 65 by have := pn.out; have := N60.out; omega); have Fa := Lib.hid ((Fa.out.go hbp).al (.cells #[.int .i64 p.s, .bool p.b, .slice p.A p.n p.c, .int .i64 p.lv, .float .f64 p.x] 27)); have Fb := Lib.hid ((Fb.out.go hbp).al (.cells #[.int .i64 p.s, .bool p.b, .slice p.A p.n p.c, .int .i64 p.lv, .float .f64 p.x] 27)); have BB := Lib.hid (below_al (below_go BB.out hbp) (.cells #[.int .i64 p.s, .bool p.b, .slice p.A p.n p.c, .int .i64 p.lv, .float .f64 p.x] 27)); have TT := Lib.hid ((TT.out.below hbp).below (below_al (Below.refl _ _) (.cells #[.int .i64 p.s, .bool p.b, .slice p.A p.n p.c, .int .i64 p.lv, .float .f64 p.x] 27))); have Fp := Lib.hid (five_new _ p Hpok.out); obtain ⟨c145_0, c145_1, c145_2, c145_3, c145_4, c145_5, _⟩ := Fa.out; obtain ⟨c146_0, c146_1, c146_2, c146_3, c146_4, c146_5, _⟩ := Fb.out; obtain ⟨c147_0, c147_1, c147_2, c147_3, c147_4, c147_5, _⟩ := Fp.out)
    | (go_at_call 17; (with_reducible refine (times_at a b _ 121 Fa.out.ok Fb.out.ok Nat'.out N121 h1).mono ?_); rintro e wt ⟨t, rfl, tok, tC, tc, tn, hbt⟩; have Htok := Lib.hid tok; have hts := Lib.hid ((con_s tC.out).trans (timesC_s _ _)); have htm := Lib.hid (may_at tok tc.out tC.out (may_timesC h1.out)); have Hat := Lib.hid (bothE_zero.2 ⟨M1.out.1, htm.out, hts.out.symm⟩); have Vt := Lib.hid (val_of_may tok htm.out); have Nat2 := Lib.hid (show max a.n t.n + 1 ≤ 122 by have := tn.out; have := N60.out; omega); have HW := Lib.hid (show betterC a.con t.con = true by have hv := Vt.out; rw [tC.out] at hv ⊢; exact better_prod Va.out Vb.out M1.out.2.2.symm HT1.out hv); have Fa := Lib.hid ((Fa.out.go hbt).al (.cells #[.int .i64 t.s, .bool t.b, .slice t.A t.n t.c, .int .i64 t.lv, .float .f64 t.x] 27)); have Fb := Lib.hid ((Fb.out.go hbt).al (.cells #[.int .i64 t.s, .bool t.b, .slice t.A t.n t.c, .int .i64 t.lv, .float .f64 t.x] 27)); have Fp := Lib.hid ((Fp.out.go hbt).al (.cells #[.int .i64 t.s, .bool t.b, .slice t.A t.n t.c, .int .i64 t.lv, .float .f64 t.x] 27)); have BB := Lib.hid (below_al (below_go BB.out hbt) (.cells #[.int .i64 t.s, .bool t.b, .slice t.A t.n t.c, .int .i64 t.lv, .float .f64 t.x] 27)); have TT := Lib.hid ((TT.out.below hbt).below (below_al (Below.refl _ _) (.cells #[.int .i64 t.s, .bool t.b, .slice t.A t.n t.c, .int .i64 t.lv, .float .f64 t.x] 27))); have Ft := Lib.hid (five_new _ t Htok.out); obtain ⟨c148_0, c148_1, c148_2, c148_3, c148_4, c148_5, _⟩ := Fa.out; obtain ⟨c149_0, c149_1, c149_2, c149_3, c149_4, c149_5, _⟩ := Fb.out; obtain ⟨c150_0, c150_1, c150_2, c150_3, c150_4, c150_5, _⟩ := Fp.out; obtain ⟨c151_0, c151_1, c151_2, c151_3, c151_4, c151_5, _⟩ := Ft.out)
    | (go_at_call 31; (with_reducible refine (better_at p a _ 65 true Fp.out.ok Fa.out.ok Npa.out N65 Hpa HQ).mono ?_); rintro e wq ⟨rfl, hbwq⟩; have Fa := Lib.hid (Fa.out.go hbwq); have Fb := Lib.hid (Fb.out.go hbwq); have Ft := Lib.hid (Ft.out.go hbwq); have BB := Lib.hid (below_go BB.out hbwq); have TT := Lib.hid (TT.out.below hbwq); obtain ⟨c152_0, c152_1, c152_2, c152_3, c152_4, c152_5, _⟩ := Fa.out; obtain ⟨c153_0, c153_1, c153_2, c153_3, c153_4, c153_5, _⟩ := Fb.out; obtain ⟨c154_0, c154_1, c154_2, c154_3, c154_4, c154_5, _⟩ := Ft.out)
    | (go_at_call 31; (with_reducible refine (better_at a t _ 122 true Fa.out.ok Ft.out.ok Nat2.out N122 Hat HW).mono ?_); rintro e wr ⟨rfl, hbwr⟩; have Fa := Lib.hid (Fa.out.go hbwr); have Fb := Lib.hid (Fb.out.go hbwr); have BB := Lib.hid (below_go BB.out hbwr); have TT := Lib.hid (TT.out.below hbwr); obtain ⟨c155_0, c155_1, c155_2, c155_3, c155_4, c155_5, _⟩ := Fa.out; obtain ⟨c156_0, c156_1, c156_2, c156_3, c156_4, c156_5, _⟩ := Fb.out)
    | (go_at_call 31; (with_reducible refine (better_at b a _ 64 true Fb.out.ok Fa.out.ok Nba.out N64 h4 HV).mono ?_); rintro e wu ⟨rfl, hbwu⟩; have Fa := Lib.hid (Fa.out.go hbwu); have Fb := Lib.hid (Fb.out.go hbwu); have BB := Lib.hid (below_go BB.out hbwu); have TT := Lib.hid (TT.out.below hbwu); obtain ⟨c157_0, c157_1, c157_2, c157_3, c157_4, c157_5, _⟩ := Fa.out; obtain ⟨c158_0, c158_1, c158_2, c158_3, c158_4, c158_5, _⟩ := Fb.out)
    | (go_at_call 13; (with_reducible refine (awake_any _ TT.out).mono ?_); rintro e wz ⟨rfl, hbz⟩))
  go_ret
  exact ⟨rfl, below_go BB.out hbz⟩
set_option maxRecDepth 100000 in
set_option maxHeartbeats 4000000 in
theorem better_other_tff (a b c : SV) (w : World) (ht : Tab w) (ha : a.ok w) (hb : b.ok w) (hc : c.ok w) (hs : (decide (a.n ≤ 60) && decide (b.n ≤ 60) && decide (c.n ≤ 60)) = true) (h1 : Hid (bothE a b = 0)) (h2 : Hid (bothE b c = 0)) (Z : Bool) (t1 : (a.s == 1) = false)
    (HX : Hid (betterC a.con b.con = true)) (HY : Hid (betterC b.con c.con = false)) (HZ : Hid (betterC a.con c.con = Z)) (HV : Hid (betterC b.con a.con = false)) :
    Calls Tryd.prog 8 #[a.v, b.v, c.v] w fun e w' => e = .returned (.bool true) ∧ Below w.heap.size w w' := by
  have hs' := Lib.hid hs
  have hna := ha.1.2.2.2
  have hnb := hb.1.2.2.2
  have hnc := hc.1.2.2.2
  have h2' := Lib.hid (boxed3 ha hb hc ht _ rfl)
  have Fa := Lib.hid h2'.out.1
  have Fb := Lib.hid h2'.out.2.1
  have Fc := Lib.hid h2'.out.2.2.1
  have BB := Lib.hid h2'.out.2.2.2.1
  have TT := Lib.hid h2'.out.2.2.2.2
  have hN3 := hs
  rw [Bool.and_eq_true, Bool.and_eq_true, decide_eq_true_iff, decide_eq_true_iff, decide_eq_true_iff] at hN3
  have N60 := Lib.hid hN3
  have Nab := Lib.hid (show max a.n b.n + 1 ≤ 64 by have := N60.out; omega)
  have Nbc := Lib.hid (show max b.n c.n + 1 ≤ 64 by have := N60.out; omega)
  have Nac := Lib.hid (show max a.n c.n + 1 ≤ 64 by have := N60.out; omega)
  have Nba := Lib.hid (show max b.n a.n + 1 ≤ 64 by have := N60.out; omega)
  have Nat' := Lib.hid (show a.n + b.n + 1 ≤ 121 by have := N60.out; omega)
  have N64 : 64 ≤ 1099511627776 := by decide
  have N65 : 65 ≤ 1099511627776 := by decide
  have N121 : 121 ≤ 1099511627776 := by decide
  have N122 : 122 ≤ 1099511627776 := by decide
  have M1 := Lib.hid (bothE_zero.1 h1.out)
  have M2 := Lib.hid (bothE_zero.1 h2.out)
  have h3 := Lib.hid (bothE_zero.2 ⟨M1.out.1, M2.out.2.1, M1.out.2.2.trans M2.out.2.2⟩ : bothE a c = 0)
  have h4 := Lib.hid (bothE_zero.2 ⟨M1.out.2.1, M1.out.1, M1.out.2.2.symm⟩ : bothE b a = 0)
  have Va := Lib.hid (val_of_may ha M1.out.1)
  have Vb := Lib.hid (val_of_may hb M1.out.2.1)
  have HT1 := Lib.hid t1
  clear hN3 hs ha hb hc ht h2'
  unfold SV.v
  go_enter Tryd.func8, Tryd.ntmps8
  go_wp2_with (first
    | (go_at_call 12; (with_reducible refine (small3 _ a b c _ true hs' hna hnb hnc (by go_simp) (by go_simp) (by go_simp)).mono ?_); rintro e w1 ⟨rfl, rfl⟩)
    | (go_at_call 31; (with_reducible refine (better_at a b _ 64 true Fa.out.ok Fb.out.ok Nab.out N64 h1 HX).mono ?_); rintro e wx ⟨rfl, hbwx⟩; have Fa := Lib.hid (Fa.out.go hbwx); have Fb := Lib.hid (Fb.out.go hbwx); have Fc := Lib.hid (Fc.out.go hbwx); have BB := Lib.hid (below_go BB.out hbwx); have TT := Lib.hid (TT.out.below hbwx); obtain ⟨c159_0, c159_1, c159_2, c159_3, c159_4, c159_5, _⟩ := Fa.out; obtain ⟨c160_0, c160_1, c160_2, c160_3, c160_4, c160_5, _⟩ := Fb.out; obtain ⟨c161_0, c161_1, c161_2, c161_3, c161_4, c161_5, _⟩ := Fc.out)
    | (go_at_call 31; (with_reducible refine (better_at b c _ 64 false Fb.out.ok Fc.out.ok Nbc.out N64 h2 HY).mono ?_); rintro e wy ⟨rfl, hbwy⟩; have Fa := Lib.hid (Fa.out.go hbwy); have Fb := Lib.hid (Fb.out.go hbwy); have Fc := Lib.hid (Fc.out.go hbwy); have BB := Lib.hid (below_go BB.out hbwy); have TT := Lib.hid (TT.out.below hbwy); obtain ⟨c162_0, c162_1, c162_2, c162_3, c162_4, c162_5, _⟩ := Fa.out; obtain ⟨c163_0, c163_1, c163_2, c163_3, c163_4, c163_5, _⟩ := Fb.out; obtain ⟨c164_0, c164_1, c164_2, c164_3, c164_4, c164_5, _⟩ := Fc.out)
    | (go_at_call 31; (with_reducible refine (better_at a c _ 64 Z Fa.out.ok Fc.out.ok Nac.out N64 h3 HZ).mono ?_); rintro e wv ⟨rfl, hbwv⟩; have Fa := Lib.hid (Fa.out.go hbwv); have Fb := Lib.hid (Fb.out.go hbwv); have Fc := Lib.hid (Fc.out.go hbwv); have BB := Lib.hid (below_go BB.out hbwv); have TT := Lib.hid (TT.out.below hbwv); obtain ⟨c165_0, c165_1, c165_2, c165_3, c165_4, c165_5, _⟩ := Fa.out; obtain ⟨c166_0, c166_1, c166_2, c166_3, c166_4, c166_5, _⟩ := Fb.out; obtain ⟨c167_0, c167_1, c167_2, c167_3, c167_4, c167_5, _⟩ := Fc.out)
    | (go_at_call 18; (with_reducible refine (plus_at a b _ 64 Fa.out.ok Fb.out.ok Nab.out N64 h1).mono ?_); rintro e wp ⟨p, rfl, pok, pC, pc, pn, hbp⟩; have Hpok := Lib.hid pok; have hps := Lib.hid ((con_s pC.out).trans (plusC_s _ _)); have hpm := Lib.hid (may_at pok pc.out pC.out (may_plusC h1.out)); have Hpa := Lib.hid (bothE_zero.2 ⟨hpm.out, M1.out.1, hps.out⟩); have Vp := Lib.hid (val_of_may pok hpm.out); have HQ := Lib.hid (show betterC p.con a.con = true by have hv := Vp.out; rw [pC.out] at hv ⊢; exact better_sum Va.out Vb.out hv); have Npa := Lib.hid (show max p.n a.n + 1 ≤ 65 by have := pn.out; have := N60.out; omega); have Fa := Lib.hid ((Fa.out.go hbp).al (.cells #[.int .i64 p.s, .bool p.b, .slice p.A p.n p.c, .int .i64 p.lv, .float .f64 p.x] 27)); have Fb := Lib.hid ((Fb.out.go hbp).al (.cells #[.int .i64 p.s, .bool p.b, .slice p.A p.n p.c, .int .i64 p.lv, .float .f64 p.x] 27)); have BB := Lib.hid (below_al (below_go BB.out hbp) (.cells #[.int .i64 p.s, .bool p.b, .slice p.A p.n p.c, .int .i64 p.lv, .float .f64 p.x] 27)); have TT := Lib.hid ((TT.out.below hbp).below (below_al (Below.refl _ _) (.cells #[.int .i64 p.s, .bool p.b, .slice p.A p.n p.c, .int .i64 p.lv, .float .f64 p.x] 27))); have Fp := Lib.hid (five_new _ p Hpok.out); obtain ⟨c168_0, c168_1, c168_2, c168_3, c168_4, c168_5, _⟩ := Fa.out; obtain ⟨c169_0, c169_1, c169_2, c169_3, c169_4, c169_5, _⟩ := Fb.out; obtain ⟨c170_0, c170_1, c170_2, c170_3, c170_4, c170_5, _⟩ := Fp.out)
    | (go_at_call 17; (with_reducible refine (times_at a b _ 121 Fa.out.ok Fb.out.ok Nat'.out N121 h1).mono ?_); rintro e wt ⟨t, rfl, tok, tC, tc, tn, hbt⟩; have Htok := Lib.hid tok; have hts := Lib.hid ((con_s tC.out).trans (timesC_s _ _)); have htm := Lib.hid (may_at tok tc.out tC.out (may_timesC h1.out)); have Hat := Lib.hid (bothE_zero.2 ⟨M1.out.1, htm.out, hts.out.symm⟩); have Vt := Lib.hid (val_of_may tok htm.out); have Nat2 := Lib.hid (show max a.n t.n + 1 ≤ 122 by have := tn.out; have := N60.out; omega); have HW := Lib.hid (show betterC a.con t.con = true by have hv := Vt.out; rw [tC.out] at hv ⊢; exact better_prod Va.out Vb.out M1.out.2.2.symm HT1.out hv); have Fa := Lib.hid ((Fa.out.go hbt).al (.cells #[.int .i64 t.s, .bool t.b, .slice t.A t.n t.c, .int .i64 t.lv, .float .f64 t.x] 27)); have Fb := Lib.hid ((Fb.out.go hbt).al (.cells #[.int .i64 t.s, .bool t.b, .slice t.A t.n t.c, .int .i64 t.lv, .float .f64 t.x] 27)); have Fp := Lib.hid ((Fp.out.go hbt).al (.cells #[.int .i64 t.s, .bool t.b, .slice t.A t.n t.c, .int .i64 t.lv, .float .f64 t.x] 27)); have BB := Lib.hid (below_al (below_go BB.out hbt) (.cells #[.int .i64 t.s, .bool t.b, .slice t.A t.n t.c, .int .i64 t.lv, .float .f64 t.x] 27)); have TT := Lib.hid ((TT.out.below hbt).below (below_al (Below.refl _ _) (.cells #[.int .i64 t.s, .bool t.b, .slice t.A t.n t.c, .int .i64 t.lv, .float .f64 t.x] 27))); have Ft := Lib.hid (five_new _ t Htok.out); obtain ⟨c171_0, c171_1, c171_2, c171_3, c171_4, c171_5, _⟩ := Fa.out; obtain ⟨c172_0, c172_1, c172_2, c172_3, c172_4, c172_5, _⟩ := Fb.out; obtain ⟨c173_0, c173_1, c173_2, c173_3, c173_4, c173_5, _⟩ := Fp.out; obtain ⟨c174_0, c174_1, c174_2, c174_3, c174_4, c174_5, _⟩ := Ft.out)
    | (go_at_call 31; (with_reducible refine (better_at p a _ 65 true Fp.out.ok Fa.out.ok Npa.out N65 Hpa HQ).mono ?_); rintro e wq ⟨rfl, hbwq⟩; have Fa := Lib.hid (Fa.out.go hbwq); have Fb := Lib.hid (Fb.out.go hbwq); have Ft := Lib.hid (Ft.out.go hbwq); have BB := Lib.hid (below_go BB.out hbwq); have TT := Lib.hid (TT.out.below hbwq); obtain ⟨c175_0, c175_1, c175_2, c175_3, c175_4, c175_5, _⟩ := Fa.out; obtain ⟨c176_0, c176_1, c176_2, c176_3, c176_4, c176_5, _⟩ := Fb.out; obtain ⟨c177_0, c177_1, c177_2, c177_3, c177_4, c177_5, _⟩ := Ft.out)
    | (go_at_call 31; (with_reducible refine (better_at a t _ 122 true Fa.out.ok Ft.out.ok Nat2.out N122 Hat HW).mono ?_); rintro e wr ⟨rfl, hbwr⟩; have Fa := Lib.hid (Fa.out.go hbwr); have Fb := Lib.hid (Fb.out.go hbwr); have BB := Lib.hid (below_go BB.out hbwr); have TT := Lib.hid (TT.out.below hbwr); obtain ⟨c178_0, c178_1, c178_2, c178_3, c178_4, c178_5, _⟩ := Fa.out; obtain ⟨c179_0, c179_1, c179_2, c179_3, c179_4, c179_5, _⟩ := Fb.out)
    | (go_at_call 31; (with_reducible refine (better_at b a _ 64 false Fb.out.ok Fa.out.ok Nba.out N64 h4 HV).mono ?_); rintro e wu ⟨rfl, hbwu⟩; have Fa := Lib.hid (Fa.out.go hbwu); have Fb := Lib.hid (Fb.out.go hbwu); have BB := Lib.hid (below_go BB.out hbwu); have TT := Lib.hid (TT.out.below hbwu); obtain ⟨c180_0, c180_1, c180_2, c180_3, c180_4, c180_5, _⟩ := Fa.out; obtain ⟨c181_0, c181_1, c181_2, c181_3, c181_4, c181_5, _⟩ := Fb.out)
    | (go_at_call 13; (with_reducible refine (awake_any _ TT.out).mono ?_); rintro e wz ⟨rfl, hbz⟩))
  go_ret
  exact ⟨rfl, below_go BB.out hbz⟩
set_option maxRecDepth 100000 in
set_option maxHeartbeats 4000000 in
theorem better_other_tft (a b c : SV) (w : World) (ht : Tab w) (ha : a.ok w) (hb : b.ok w) (hc : c.ok w) (hs : (decide (a.n ≤ 60) && decide (b.n ≤ 60) && decide (c.n ≤ 60)) = true) (h1 : Hid (bothE a b = 0)) (h2 : Hid (bothE b c = 0)) (Z : Bool) (t1 : (a.s == 1) = false)
    (HX : Hid (betterC a.con b.con = true)) (HY : Hid (betterC b.con c.con = false)) (HZ : Hid (betterC a.con c.con = Z)) (HV : Hid (betterC b.con a.con = true)) :
    Calls Tryd.prog 8 #[a.v, b.v, c.v] w fun e w' => e = .returned (.bool true) ∧ Below w.heap.size w w' := by
  have hs' := Lib.hid hs
  have hna := ha.1.2.2.2
  have hnb := hb.1.2.2.2
  have hnc := hc.1.2.2.2
  have h2' := Lib.hid (boxed3 ha hb hc ht _ rfl)
  have Fa := Lib.hid h2'.out.1
  have Fb := Lib.hid h2'.out.2.1
  have Fc := Lib.hid h2'.out.2.2.1
  have BB := Lib.hid h2'.out.2.2.2.1
  have TT := Lib.hid h2'.out.2.2.2.2
  have hN3 := hs
  rw [Bool.and_eq_true, Bool.and_eq_true, decide_eq_true_iff, decide_eq_true_iff, decide_eq_true_iff] at hN3
  have N60 := Lib.hid hN3
  have Nab := Lib.hid (show max a.n b.n + 1 ≤ 64 by have := N60.out; omega)
  have Nbc := Lib.hid (show max b.n c.n + 1 ≤ 64 by have := N60.out; omega)
  have Nac := Lib.hid (show max a.n c.n + 1 ≤ 64 by have := N60.out; omega)
  have Nba := Lib.hid (show max b.n a.n + 1 ≤ 64 by have := N60.out; omega)
  have Nat' := Lib.hid (show a.n + b.n + 1 ≤ 121 by have := N60.out; omega)
  have N64 : 64 ≤ 1099511627776 := by decide
  have N65 : 65 ≤ 1099511627776 := by decide
  have N121 : 121 ≤ 1099511627776 := by decide
  have N122 : 122 ≤ 1099511627776 := by decide
  have M1 := Lib.hid (bothE_zero.1 h1.out)
  have M2 := Lib.hid (bothE_zero.1 h2.out)
  have h3 := Lib.hid (bothE_zero.2 ⟨M1.out.1, M2.out.2.1, M1.out.2.2.trans M2.out.2.2⟩ : bothE a c = 0)
  have h4 := Lib.hid (bothE_zero.2 ⟨M1.out.2.1, M1.out.1, M1.out.2.2.symm⟩ : bothE b a = 0)
  have Va := Lib.hid (val_of_may ha M1.out.1)
  have Vb := Lib.hid (val_of_may hb M1.out.2.1)
  have HT1 := Lib.hid t1
  clear hN3 hs ha hb hc ht h2'
  have HS := Lib.hid (same_at M1.out.1 M1.out.2.1 M1.out.2.2 (better_anti Va.out Vb.out M1.out.2.2.symm HX.out HV.out))
  unfold SV.v
  go_enter Tryd.func8, Tryd.ntmps8
  go_wp2_with (first
    | (go_at_call 12; (with_reducible refine (small3 _ a b c _ true hs' hna hnb hnc (by go_simp) (by go_simp) (by go_simp)).mono ?_); rintro e w1 ⟨rfl, rfl⟩)
    | (go_at_call 31; (with_reducible refine (better_at a b _ 64 true Fa.out.ok Fb.out.ok Nab.out N64 h1 HX).mono ?_); rintro e wx ⟨rfl, hbwx⟩; have Fa := Lib.hid (Fa.out.go hbwx); have Fb := Lib.hid (Fb.out.go hbwx); have Fc := Lib.hid (Fc.out.go hbwx); have BB := Lib.hid (below_go BB.out hbwx); have TT := Lib.hid (TT.out.below hbwx); obtain ⟨c182_0, c182_1, c182_2, c182_3, c182_4, c182_5, _⟩ := Fa.out; obtain ⟨c183_0, c183_1, c183_2, c183_3, c183_4, c183_5, _⟩ := Fb.out; obtain ⟨c184_0, c184_1, c184_2, c184_3, c184_4, c184_5, _⟩ := Fc.out)
    | (go_at_call 31; (with_reducible refine (better_at b c _ 64 false Fb.out.ok Fc.out.ok Nbc.out N64 h2 HY).mono ?_); rintro e wy ⟨rfl, hbwy⟩; have Fa := Lib.hid (Fa.out.go hbwy); have Fb := Lib.hid (Fb.out.go hbwy); have Fc := Lib.hid (Fc.out.go hbwy); have BB := Lib.hid (below_go BB.out hbwy); have TT := Lib.hid (TT.out.below hbwy); obtain ⟨c185_0, c185_1, c185_2, c185_3, c185_4, c185_5, _⟩ := Fa.out; obtain ⟨c186_0, c186_1, c186_2, c186_3, c186_4, c186_5, _⟩ := Fb.out; obtain ⟨c187_0, c187_1, c187_2, c187_3, c187_4, c187_5, _⟩ := Fc.out)
    | (go_at_call 31; (with_reducible refine (better_at a c _ 64 Z Fa.out.ok Fc.out.ok Nac.out N64 h3 HZ).mono ?_); rintro e wv ⟨rfl, hbwv⟩; have Fa := Lib.hid (Fa.out.go hbwv); have Fb := Lib.hid (Fb.out.go hbwv); have Fc := Lib.hid (Fc.out.go hbwv); have BB := Lib.hid (below_go BB.out hbwv); have TT := Lib.hid (TT.out.below hbwv); obtain ⟨c188_0, c188_1, c188_2, c188_3, c188_4, c188_5, _⟩ := Fa.out; obtain ⟨c189_0, c189_1, c189_2, c189_3, c189_4, c189_5, _⟩ := Fb.out; obtain ⟨c190_0, c190_1, c190_2, c190_3, c190_4, c190_5, _⟩ := Fc.out)
    | (go_at_call 18; (with_reducible refine (plus_at a b _ 64 Fa.out.ok Fb.out.ok Nab.out N64 h1).mono ?_); rintro e wp ⟨p, rfl, pok, pC, pc, pn, hbp⟩; have Hpok := Lib.hid pok; have hps := Lib.hid ((con_s pC.out).trans (plusC_s _ _)); have hpm := Lib.hid (may_at pok pc.out pC.out (may_plusC h1.out)); have Hpa := Lib.hid (bothE_zero.2 ⟨hpm.out, M1.out.1, hps.out⟩); have Vp := Lib.hid (val_of_may pok hpm.out); have HQ := Lib.hid (show betterC p.con a.con = true by have hv := Vp.out; rw [pC.out] at hv ⊢; exact better_sum Va.out Vb.out hv); have Npa := Lib.hid (show max p.n a.n + 1 ≤ 65 by have := pn.out; have := N60.out; omega); have Fa := Lib.hid ((Fa.out.go hbp).al (.cells #[.int .i64 p.s, .bool p.b, .slice p.A p.n p.c, .int .i64 p.lv, .float .f64 p.x] 27)); have Fb := Lib.hid ((Fb.out.go hbp).al (.cells #[.int .i64 p.s, .bool p.b, .slice p.A p.n p.c, .int .i64 p.lv, .float .f64 p.x] 27)); have BB := Lib.hid (below_al (below_go BB.out hbp) (.cells #[.int .i64 p.s, .bool p.b, .slice p.A p.n p.c, .int .i64 p.lv, .float .f64 p.x] 27)); have TT := Lib.hid ((TT.out.below hbp).below (below_al (Below.refl _ _) (.cells #[.int .i64 p.s, .bool p.b, .slice p.A p.n p.c, .int .i64 p.lv, .float .f64 p.x] 27))); have Fp := Lib.hid (five_new _ p Hpok.out); obtain ⟨c191_0, c191_1, c191_2, c191_3, c191_4, c191_5, _⟩ := Fa.out; obtain ⟨c192_0, c192_1, c192_2, c192_3, c192_4, c192_5, _⟩ := Fb.out; obtain ⟨c193_0, c193_1, c193_2, c193_3, c193_4, c193_5, _⟩ := Fp.out)
    | (go_at_call 17; (with_reducible refine (times_at a b _ 121 Fa.out.ok Fb.out.ok Nat'.out N121 h1).mono ?_); rintro e wt ⟨t, rfl, tok, tC, tc, tn, hbt⟩; have Htok := Lib.hid tok; have hts := Lib.hid ((con_s tC.out).trans (timesC_s _ _)); have htm := Lib.hid (may_at tok tc.out tC.out (may_timesC h1.out)); have Hat := Lib.hid (bothE_zero.2 ⟨M1.out.1, htm.out, hts.out.symm⟩); have Vt := Lib.hid (val_of_may tok htm.out); have Nat2 := Lib.hid (show max a.n t.n + 1 ≤ 122 by have := tn.out; have := N60.out; omega); have HW := Lib.hid (show betterC a.con t.con = true by have hv := Vt.out; rw [tC.out] at hv ⊢; exact better_prod Va.out Vb.out M1.out.2.2.symm HT1.out hv); have Fa := Lib.hid ((Fa.out.go hbt).al (.cells #[.int .i64 t.s, .bool t.b, .slice t.A t.n t.c, .int .i64 t.lv, .float .f64 t.x] 27)); have Fb := Lib.hid ((Fb.out.go hbt).al (.cells #[.int .i64 t.s, .bool t.b, .slice t.A t.n t.c, .int .i64 t.lv, .float .f64 t.x] 27)); have Fp := Lib.hid ((Fp.out.go hbt).al (.cells #[.int .i64 t.s, .bool t.b, .slice t.A t.n t.c, .int .i64 t.lv, .float .f64 t.x] 27)); have BB := Lib.hid (below_al (below_go BB.out hbt) (.cells #[.int .i64 t.s, .bool t.b, .slice t.A t.n t.c, .int .i64 t.lv, .float .f64 t.x] 27)); have TT := Lib.hid ((TT.out.below hbt).below (below_al (Below.refl _ _) (.cells #[.int .i64 t.s, .bool t.b, .slice t.A t.n t.c, .int .i64 t.lv, .float .f64 t.x] 27))); have Ft := Lib.hid (five_new _ t Htok.out); obtain ⟨c194_0, c194_1, c194_2, c194_3, c194_4, c194_5, _⟩ := Fa.out; obtain ⟨c195_0, c195_1, c195_2, c195_3, c195_4, c195_5, _⟩ := Fb.out; obtain ⟨c196_0, c196_1, c196_2, c196_3, c196_4, c196_5, _⟩ := Fp.out; obtain ⟨c197_0, c197_1, c197_2, c197_3, c197_4, c197_5, _⟩ := Ft.out)
    | (go_at_call 31; (with_reducible refine (better_at p a _ 65 true Fp.out.ok Fa.out.ok Npa.out N65 Hpa HQ).mono ?_); rintro e wq ⟨rfl, hbwq⟩; have Fa := Lib.hid (Fa.out.go hbwq); have Fb := Lib.hid (Fb.out.go hbwq); have Ft := Lib.hid (Ft.out.go hbwq); have BB := Lib.hid (below_go BB.out hbwq); have TT := Lib.hid (TT.out.below hbwq); obtain ⟨c198_0, c198_1, c198_2, c198_3, c198_4, c198_5, _⟩ := Fa.out; obtain ⟨c199_0, c199_1, c199_2, c199_3, c199_4, c199_5, _⟩ := Fb.out; obtain ⟨c200_0, c200_1, c200_2, c200_3, c200_4, c200_5, _⟩ := Ft.out)
    | (go_at_call 31; (with_reducible refine (better_at a t _ 122 true Fa.out.ok Ft.out.ok Nat2.out N122 Hat HW).mono ?_); rintro e wr ⟨rfl, hbwr⟩; have Fa := Lib.hid (Fa.out.go hbwr); have Fb := Lib.hid (Fb.out.go hbwr); have BB := Lib.hid (below_go BB.out hbwr); have TT := Lib.hid (TT.out.below hbwr); obtain ⟨c201_0, c201_1, c201_2, c201_3, c201_4, c201_5, _⟩ := Fa.out; obtain ⟨c202_0, c202_1, c202_2, c202_3, c202_4, c202_5, _⟩ := Fb.out)
    | (go_at_call 31; (with_reducible refine (better_at b a _ 64 true Fb.out.ok Fa.out.ok Nba.out N64 h4 HV).mono ?_); rintro e wu ⟨rfl, hbwu⟩; have Fa := Lib.hid (Fa.out.go hbwu); have Fb := Lib.hid (Fb.out.go hbwu); have BB := Lib.hid (below_go BB.out hbwu); have TT := Lib.hid (TT.out.below hbwu); obtain ⟨c203_0, c203_1, c203_2, c203_3, c203_4, c203_5, _⟩ := Fa.out; obtain ⟨c204_0, c204_1, c204_2, c204_3, c204_4, c204_5, _⟩ := Fb.out)
    | (go_at_call 19; (with_reducible refine (same_yes a b _ Fa.out.ok Fb.out.ok HS).mono ?_); rintro e ws ⟨rfl, hbws⟩; have Fa := Lib.hid (Fa.out.go hbws); have BB := Lib.hid (below_go BB.out hbws); have TT := Lib.hid (TT.out.below hbws); obtain ⟨c205_0, c205_1, c205_2, c205_3, c205_4, c205_5, _⟩ := Fa.out)
    | (go_at_call 13; (with_reducible refine (awake_any _ TT.out).mono ?_); rintro e wz ⟨rfl, hbz⟩))
  go_ret
  exact ⟨rfl, below_go BB.out hbz⟩
set_option maxRecDepth 100000 in
set_option maxHeartbeats 4000000 in
theorem better_other_ttf (a b c : SV) (w : World) (ht : Tab w) (ha : a.ok w) (hb : b.ok w) (hc : c.ok w) (hs : (decide (a.n ≤ 60) && decide (b.n ≤ 60) && decide (c.n ≤ 60)) = true) (h1 : Hid (bothE a b = 0)) (h2 : Hid (bothE b c = 0)) (t1 : (a.s == 1) = false)
    (HX : Hid (betterC a.con b.con = true)) (HY : Hid (betterC b.con c.con = true)) (HZ : Hid (betterC a.con c.con = true)) (HV : Hid (betterC b.con a.con = false)) :
    Calls Tryd.prog 8 #[a.v, b.v, c.v] w fun e w' => e = .returned (.bool true) ∧ Below w.heap.size w w' := by
  have hs' := Lib.hid hs
  have hna := ha.1.2.2.2
  have hnb := hb.1.2.2.2
  have hnc := hc.1.2.2.2
  have h2' := Lib.hid (boxed3 ha hb hc ht _ rfl)
  have Fa := Lib.hid h2'.out.1
  have Fb := Lib.hid h2'.out.2.1
  have Fc := Lib.hid h2'.out.2.2.1
  have BB := Lib.hid h2'.out.2.2.2.1
  have TT := Lib.hid h2'.out.2.2.2.2
  have hN3 := hs
  rw [Bool.and_eq_true, Bool.and_eq_true, decide_eq_true_iff, decide_eq_true_iff, decide_eq_true_iff] at hN3
  have N60 := Lib.hid hN3
  have Nab := Lib.hid (show max a.n b.n + 1 ≤ 64 by have := N60.out; omega)
  have Nbc := Lib.hid (show max b.n c.n + 1 ≤ 64 by have := N60.out; omega)
  have Nac := Lib.hid (show max a.n c.n + 1 ≤ 64 by have := N60.out; omega)
  have Nba := Lib.hid (show max b.n a.n + 1 ≤ 64 by have := N60.out; omega)
  have Nat' := Lib.hid (show a.n + b.n + 1 ≤ 121 by have := N60.out; omega)
  have N64 : 64 ≤ 1099511627776 := by decide
  have N65 : 65 ≤ 1099511627776 := by decide
  have N121 : 121 ≤ 1099511627776 := by decide
  have N122 : 122 ≤ 1099511627776 := by decide
  have M1 := Lib.hid (bothE_zero.1 h1.out)
  have M2 := Lib.hid (bothE_zero.1 h2.out)
  have h3 := Lib.hid (bothE_zero.2 ⟨M1.out.1, M2.out.2.1, M1.out.2.2.trans M2.out.2.2⟩ : bothE a c = 0)
  have h4 := Lib.hid (bothE_zero.2 ⟨M1.out.2.1, M1.out.1, M1.out.2.2.symm⟩ : bothE b a = 0)
  have Va := Lib.hid (val_of_may ha M1.out.1)
  have Vb := Lib.hid (val_of_may hb M1.out.2.1)
  have HT1 := Lib.hid t1
  clear hN3 hs ha hb hc ht h2'
  unfold SV.v
  go_enter Tryd.func8, Tryd.ntmps8
  go_wp2_with (first
    | (go_at_call 12; (with_reducible refine (small3 _ a b c _ true hs' hna hnb hnc (by go_simp) (by go_simp) (by go_simp)).mono ?_); rintro e w1 ⟨rfl, rfl⟩)
    | (go_at_call 31; (with_reducible refine (better_at a b _ 64 true Fa.out.ok Fb.out.ok Nab.out N64 h1 HX).mono ?_); rintro e wx ⟨rfl, hbwx⟩; have Fa := Lib.hid (Fa.out.go hbwx); have Fb := Lib.hid (Fb.out.go hbwx); have Fc := Lib.hid (Fc.out.go hbwx); have BB := Lib.hid (below_go BB.out hbwx); have TT := Lib.hid (TT.out.below hbwx); obtain ⟨c206_0, c206_1, c206_2, c206_3, c206_4, c206_5, _⟩ := Fa.out; obtain ⟨c207_0, c207_1, c207_2, c207_3, c207_4, c207_5, _⟩ := Fb.out; obtain ⟨c208_0, c208_1, c208_2, c208_3, c208_4, c208_5, _⟩ := Fc.out)
    | (go_at_call 31; (with_reducible refine (better_at b c _ 64 true Fb.out.ok Fc.out.ok Nbc.out N64 h2 HY).mono ?_); rintro e wy ⟨rfl, hbwy⟩; have Fa := Lib.hid (Fa.out.go hbwy); have Fb := Lib.hid (Fb.out.go hbwy); have Fc := Lib.hid (Fc.out.go hbwy); have BB := Lib.hid (below_go BB.out hbwy); have TT := Lib.hid (TT.out.below hbwy); obtain ⟨c209_0, c209_1, c209_2, c209_3, c209_4, c209_5, _⟩ := Fa.out; obtain ⟨c210_0, c210_1, c210_2, c210_3, c210_4, c210_5, _⟩ := Fb.out; obtain ⟨c211_0, c211_1, c211_2, c211_3, c211_4, c211_5, _⟩ := Fc.out)
    | (go_at_call 31; (with_reducible refine (better_at a c _ 64 true Fa.out.ok Fc.out.ok Nac.out N64 h3 HZ).mono ?_); rintro e wv ⟨rfl, hbwv⟩; have Fa := Lib.hid (Fa.out.go hbwv); have Fb := Lib.hid (Fb.out.go hbwv); have Fc := Lib.hid (Fc.out.go hbwv); have BB := Lib.hid (below_go BB.out hbwv); have TT := Lib.hid (TT.out.below hbwv); obtain ⟨c212_0, c212_1, c212_2, c212_3, c212_4, c212_5, _⟩ := Fa.out; obtain ⟨c213_0, c213_1, c213_2, c213_3, c213_4, c213_5, _⟩ := Fb.out; obtain ⟨c214_0, c214_1, c214_2, c214_3, c214_4, c214_5, _⟩ := Fc.out)
    | (go_at_call 18; (with_reducible refine (plus_at a b _ 64 Fa.out.ok Fb.out.ok Nab.out N64 h1).mono ?_); rintro e wp ⟨p, rfl, pok, pC, pc, pn, hbp⟩; have Hpok := Lib.hid pok; have hps := Lib.hid ((con_s pC.out).trans (plusC_s _ _)); have hpm := Lib.hid (may_at pok pc.out pC.out (may_plusC h1.out)); have Hpa := Lib.hid (bothE_zero.2 ⟨hpm.out, M1.out.1, hps.out⟩); have Vp := Lib.hid (val_of_may pok hpm.out); have HQ := Lib.hid (show betterC p.con a.con = true by have hv := Vp.out; rw [pC.out] at hv ⊢; exact better_sum Va.out Vb.out hv); have Npa := Lib.hid (show max p.n a.n + 1 ≤ 65 by have := pn.out; have := N60.out; omega); have Fa := Lib.hid ((Fa.out.go hbp).al (.cells #[.int .i64 p.s, .bool p.b, .slice p.A p.n p.c, .int .i64 p.lv, .float .f64 p.x] 27)); have Fb := Lib.hid ((Fb.out.go hbp).al (.cells #[.int .i64 p.s, .bool p.b, .slice p.A p.n p.c, .int .i64 p.lv, .float .f64 p.x] 27)); have BB := Lib.hid (below_al (below_go BB.out hbp) (.cells #[.int .i64 p.s, .bool p.b, .slice p.A p.n p.c, .int .i64 p.lv, .float .f64 p.x] 27)); have TT := Lib.hid ((TT.out.below hbp).below (below_al (Below.refl _ _) (.cells #[.int .i64 p.s, .bool p.b, .slice p.A p.n p.c, .int .i64 p.lv, .float .f64 p.x] 27))); have Fp := Lib.hid (five_new _ p Hpok.out); obtain ⟨c215_0, c215_1, c215_2, c215_3, c215_4, c215_5, _⟩ := Fa.out; obtain ⟨c216_0, c216_1, c216_2, c216_3, c216_4, c216_5, _⟩ := Fb.out; obtain ⟨c217_0, c217_1, c217_2, c217_3, c217_4, c217_5, _⟩ := Fp.out)
    | (go_at_call 17; (with_reducible refine (times_at a b _ 121 Fa.out.ok Fb.out.ok Nat'.out N121 h1).mono ?_); rintro e wt ⟨t, rfl, tok, tC, tc, tn, hbt⟩; have Htok := Lib.hid tok; have hts := Lib.hid ((con_s tC.out).trans (timesC_s _ _)); have htm := Lib.hid (may_at tok tc.out tC.out (may_timesC h1.out)); have Hat := Lib.hid (bothE_zero.2 ⟨M1.out.1, htm.out, hts.out.symm⟩); have Vt := Lib.hid (val_of_may tok htm.out); have Nat2 := Lib.hid (show max a.n t.n + 1 ≤ 122 by have := tn.out; have := N60.out; omega); have HW := Lib.hid (show betterC a.con t.con = true by have hv := Vt.out; rw [tC.out] at hv ⊢; exact better_prod Va.out Vb.out M1.out.2.2.symm HT1.out hv); have Fa := Lib.hid ((Fa.out.go hbt).al (.cells #[.int .i64 t.s, .bool t.b, .slice t.A t.n t.c, .int .i64 t.lv, .float .f64 t.x] 27)); have Fb := Lib.hid ((Fb.out.go hbt).al (.cells #[.int .i64 t.s, .bool t.b, .slice t.A t.n t.c, .int .i64 t.lv, .float .f64 t.x] 27)); have Fp := Lib.hid ((Fp.out.go hbt).al (.cells #[.int .i64 t.s, .bool t.b, .slice t.A t.n t.c, .int .i64 t.lv, .float .f64 t.x] 27)); have BB := Lib.hid (below_al (below_go BB.out hbt) (.cells #[.int .i64 t.s, .bool t.b, .slice t.A t.n t.c, .int .i64 t.lv, .float .f64 t.x] 27)); have TT := Lib.hid ((TT.out.below hbt).below (below_al (Below.refl _ _) (.cells #[.int .i64 t.s, .bool t.b, .slice t.A t.n t.c, .int .i64 t.lv, .float .f64 t.x] 27))); have Ft := Lib.hid (five_new _ t Htok.out); obtain ⟨c218_0, c218_1, c218_2, c218_3, c218_4, c218_5, _⟩ := Fa.out; obtain ⟨c219_0, c219_1, c219_2, c219_3, c219_4, c219_5, _⟩ := Fb.out; obtain ⟨c220_0, c220_1, c220_2, c220_3, c220_4, c220_5, _⟩ := Fp.out; obtain ⟨c221_0, c221_1, c221_2, c221_3, c221_4, c221_5, _⟩ := Ft.out)
    | (go_at_call 31; (with_reducible refine (better_at p a _ 65 true Fp.out.ok Fa.out.ok Npa.out N65 Hpa HQ).mono ?_); rintro e wq ⟨rfl, hbwq⟩; have Fa := Lib.hid (Fa.out.go hbwq); have Fb := Lib.hid (Fb.out.go hbwq); have Ft := Lib.hid (Ft.out.go hbwq); have BB := Lib.hid (below_go BB.out hbwq); have TT := Lib.hid (TT.out.below hbwq); obtain ⟨c222_0, c222_1, c222_2, c222_3, c222_4, c222_5, _⟩ := Fa.out; obtain ⟨c223_0, c223_1, c223_2, c223_3, c223_4, c223_5, _⟩ := Fb.out; obtain ⟨c224_0, c224_1, c224_2, c224_3, c224_4, c224_5, _⟩ := Ft.out)
    | (go_at_call 31; (with_reducible refine (better_at a t _ 122 true Fa.out.ok Ft.out.ok Nat2.out N122 Hat HW).mono ?_); rintro e wr ⟨rfl, hbwr⟩; have Fa := Lib.hid (Fa.out.go hbwr); have Fb := Lib.hid (Fb.out.go hbwr); have BB := Lib.hid (below_go BB.out hbwr); have TT := Lib.hid (TT.out.below hbwr); obtain ⟨c225_0, c225_1, c225_2, c225_3, c225_4, c225_5, _⟩ := Fa.out; obtain ⟨c226_0, c226_1, c226_2, c226_3, c226_4, c226_5, _⟩ := Fb.out)
    | (go_at_call 31; (with_reducible refine (better_at b a _ 64 false Fb.out.ok Fa.out.ok Nba.out N64 h4 HV).mono ?_); rintro e wu ⟨rfl, hbwu⟩; have Fa := Lib.hid (Fa.out.go hbwu); have Fb := Lib.hid (Fb.out.go hbwu); have BB := Lib.hid (below_go BB.out hbwu); have TT := Lib.hid (TT.out.below hbwu); obtain ⟨c227_0, c227_1, c227_2, c227_3, c227_4, c227_5, _⟩ := Fa.out; obtain ⟨c228_0, c228_1, c228_2, c228_3, c228_4, c228_5, _⟩ := Fb.out)
    | (go_at_call 13; (with_reducible refine (awake_any _ TT.out).mono ?_); rintro e wz ⟨rfl, hbz⟩))
  go_ret
  exact ⟨rfl, below_go BB.out hbz⟩
set_option maxRecDepth 100000 in
set_option maxHeartbeats 4000000 in
theorem better_other_ttt (a b c : SV) (w : World) (ht : Tab w) (ha : a.ok w) (hb : b.ok w) (hc : c.ok w) (hs : (decide (a.n ≤ 60) && decide (b.n ≤ 60) && decide (c.n ≤ 60)) = true) (h1 : Hid (bothE a b = 0)) (h2 : Hid (bothE b c = 0)) (t1 : (a.s == 1) = false)
    (HX : Hid (betterC a.con b.con = true)) (HY : Hid (betterC b.con c.con = true)) (HZ : Hid (betterC a.con c.con = true)) (HV : Hid (betterC b.con a.con = true)) :
    Calls Tryd.prog 8 #[a.v, b.v, c.v] w fun e w' => e = .returned (.bool true) ∧ Below w.heap.size w w' := by
  have hs' := Lib.hid hs
  have hna := ha.1.2.2.2
  have hnb := hb.1.2.2.2
  have hnc := hc.1.2.2.2
  have h2' := Lib.hid (boxed3 ha hb hc ht _ rfl)
  have Fa := Lib.hid h2'.out.1
  have Fb := Lib.hid h2'.out.2.1
  have Fc := Lib.hid h2'.out.2.2.1
  have BB := Lib.hid h2'.out.2.2.2.1
  have TT := Lib.hid h2'.out.2.2.2.2
  have hN3 := hs
  rw [Bool.and_eq_true, Bool.and_eq_true, decide_eq_true_iff, decide_eq_true_iff, decide_eq_true_iff] at hN3
  have N60 := Lib.hid hN3
  have Nab := Lib.hid (show max a.n b.n + 1 ≤ 64 by have := N60.out; omega)
  have Nbc := Lib.hid (show max b.n c.n + 1 ≤ 64 by have := N60.out; omega)
  have Nac := Lib.hid (show max a.n c.n + 1 ≤ 64 by have := N60.out; omega)
  have Nba := Lib.hid (show max b.n a.n + 1 ≤ 64 by have := N60.out; omega)
  have Nat' := Lib.hid (show a.n + b.n + 1 ≤ 121 by have := N60.out; omega)
  have N64 : 64 ≤ 1099511627776 := by decide
  have N65 : 65 ≤ 1099511627776 := by decide
  have N121 : 121 ≤ 1099511627776 := by decide
  have N122 : 122 ≤ 1099511627776 := by decide
  have M1 := Lib.hid (bothE_zero.1 h1.out)
  have M2 := Lib.hid (bothE_zero.1 h2.out)
  have h3 := Lib.hid (bothE_zero.2 ⟨M1.out.1, M2.out.2.1, M1.out.2.2.trans M2.out.2.2⟩ : bothE a c = 0)
  have h4 := Lib.hid (bothE_zero.2 ⟨M1.out.2.1, M1.out.1, M1.out.2.2.symm⟩ : bothE b a = 0)
  have Va := Lib.hid (val_of_may ha M1.out.1)
  have Vb := Lib.hid (val_of_may hb M1.out.2.1)
  have HT1 := Lib.hid t1
  clear hN3 hs ha hb hc ht h2'
  have HS := Lib.hid (same_at M1.out.1 M1.out.2.1 M1.out.2.2 (better_anti Va.out Vb.out M1.out.2.2.symm HX.out HV.out))
  unfold SV.v
  go_enter Tryd.func8, Tryd.ntmps8
  go_wp2_with (first
    | (go_at_call 12; (with_reducible refine (small3 _ a b c _ true hs' hna hnb hnc (by go_simp) (by go_simp) (by go_simp)).mono ?_); rintro e w1 ⟨rfl, rfl⟩)
    | (go_at_call 31; (with_reducible refine (better_at a b _ 64 true Fa.out.ok Fb.out.ok Nab.out N64 h1 HX).mono ?_); rintro e wx ⟨rfl, hbwx⟩; have Fa := Lib.hid (Fa.out.go hbwx); have Fb := Lib.hid (Fb.out.go hbwx); have Fc := Lib.hid (Fc.out.go hbwx); have BB := Lib.hid (below_go BB.out hbwx); have TT := Lib.hid (TT.out.below hbwx); obtain ⟨c229_0, c229_1, c229_2, c229_3, c229_4, c229_5, _⟩ := Fa.out; obtain ⟨c230_0, c230_1, c230_2, c230_3, c230_4, c230_5, _⟩ := Fb.out; obtain ⟨c231_0, c231_1, c231_2, c231_3, c231_4, c231_5, _⟩ := Fc.out)
    | (go_at_call 31; (with_reducible refine (better_at b c _ 64 true Fb.out.ok Fc.out.ok Nbc.out N64 h2 HY).mono ?_); rintro e wy ⟨rfl, hbwy⟩; have Fa := Lib.hid (Fa.out.go hbwy); have Fb := Lib.hid (Fb.out.go hbwy); have Fc := Lib.hid (Fc.out.go hbwy); have BB := Lib.hid (below_go BB.out hbwy); have TT := Lib.hid (TT.out.below hbwy); obtain ⟨c232_0, c232_1, c232_2, c232_3, c232_4, c232_5, _⟩ := Fa.out; obtain ⟨c233_0, c233_1, c233_2, c233_3, c233_4, c233_5, _⟩ := Fb.out; obtain ⟨c234_0, c234_1, c234_2, c234_3, c234_4, c234_5, _⟩ := Fc.out)
    | (go_at_call 31; (with_reducible refine (better_at a c _ 64 true Fa.out.ok Fc.out.ok Nac.out N64 h3 HZ).mono ?_); rintro e wv ⟨rfl, hbwv⟩; have Fa := Lib.hid (Fa.out.go hbwv); have Fb := Lib.hid (Fb.out.go hbwv); have Fc := Lib.hid (Fc.out.go hbwv); have BB := Lib.hid (below_go BB.out hbwv); have TT := Lib.hid (TT.out.below hbwv); obtain ⟨c235_0, c235_1, c235_2, c235_3, c235_4, c235_5, _⟩ := Fa.out; obtain ⟨c236_0, c236_1, c236_2, c236_3, c236_4, c236_5, _⟩ := Fb.out; obtain ⟨c237_0, c237_1, c237_2, c237_3, c237_4, c237_5, _⟩ := Fc.out)
    | (go_at_call 18; (with_reducible refine (plus_at a b _ 64 Fa.out.ok Fb.out.ok Nab.out N64 h1).mono ?_); rintro e wp ⟨p, rfl, pok, pC, pc, pn, hbp⟩; have Hpok := Lib.hid pok; have hps := Lib.hid ((con_s pC.out).trans (plusC_s _ _)); have hpm := Lib.hid (may_at pok pc.out pC.out (may_plusC h1.out)); have Hpa := Lib.hid (bothE_zero.2 ⟨hpm.out, M1.out.1, hps.out⟩); have Vp := Lib.hid (val_of_may pok hpm.out); have HQ := Lib.hid (show betterC p.con a.con = true by have hv := Vp.out; rw [pC.out] at hv ⊢; exact better_sum Va.out Vb.out hv); have Npa := Lib.hid (show max p.n a.n + 1 ≤ 65 by have := pn.out; have := N60.out; omega); have Fa := Lib.hid ((Fa.out.go hbp).al (.cells #[.int .i64 p.s, .bool p.b, .slice p.A p.n p.c, .int .i64 p.lv, .float .f64 p.x] 27)); have Fb := Lib.hid ((Fb.out.go hbp).al (.cells #[.int .i64 p.s, .bool p.b, .slice p.A p.n p.c, .int .i64 p.lv, .float .f64 p.x] 27)); have BB := Lib.hid (below_al (below_go BB.out hbp) (.cells #[.int .i64 p.s, .bool p.b, .slice p.A p.n p.c, .int .i64 p.lv, .float .f64 p.x] 27)); have TT := Lib.hid ((TT.out.below hbp).below (below_al (Below.refl _ _) (.cells #[.int .i64 p.s, .bool p.b, .slice p.A p.n p.c, .int .i64 p.lv, .float .f64 p.x] 27))); have Fp := Lib.hid (five_new _ p Hpok.out); obtain ⟨c238_0, c238_1, c238_2, c238_3, c238_4, c238_5, _⟩ := Fa.out; obtain ⟨c239_0, c239_1, c239_2, c239_3, c239_4, c239_5, _⟩ := Fb.out; obtain ⟨c240_0, c240_1, c240_2, c240_3, c240_4, c240_5, _⟩ := Fp.out)
    | (go_at_call 17; (with_reducible refine (times_at a b _ 121 Fa.out.ok Fb.out.ok Nat'.out N121 h1).mono ?_); rintro e wt ⟨t, rfl, tok, tC, tc, tn, hbt⟩; have Htok := Lib.hid tok; have hts := Lib.hid ((con_s tC.out).trans (timesC_s _ _)); have htm := Lib.hid (may_at tok tc.out tC.out (may_timesC h1.out)); have Hat := Lib.hid (bothE_zero.2 ⟨M1.out.1, htm.out, hts.out.symm⟩); have Vt := Lib.hid (val_of_may tok htm.out); have Nat2 := Lib.hid (show max a.n t.n + 1 ≤ 122 by have := tn.out; have := N60.out; omega); have HW := Lib.hid (show betterC a.con t.con = true by have hv := Vt.out; rw [tC.out] at hv ⊢; exact better_prod Va.out Vb.out M1.out.2.2.symm HT1.out hv); have Fa := Lib.hid ((Fa.out.go hbt).al (.cells #[.int .i64 t.s, .bool t.b, .slice t.A t.n t.c, .int .i64 t.lv, .float .f64 t.x] 27)); have Fb := Lib.hid ((Fb.out.go hbt).al (.cells #[.int .i64 t.s, .bool t.b, .slice t.A t.n t.c, .int .i64 t.lv, .float .f64 t.x] 27)); have Fp := Lib.hid ((Fp.out.go hbt).al (.cells #[.int .i64 t.s, .bool t.b, .slice t.A t.n t.c, .int .i64 t.lv, .float .f64 t.x] 27)); have BB := Lib.hid (below_al (below_go BB.out hbt) (.cells #[.int .i64 t.s, .bool t.b, .slice t.A t.n t.c, .int .i64 t.lv, .float .f64 t.x] 27)); have TT := Lib.hid ((TT.out.below hbt).below (below_al (Below.refl _ _) (.cells #[.int .i64 t.s, .bool t.b, .slice t.A t.n t.c, .int .i64 t.lv, .float .f64 t.x] 27))); have Ft := Lib.hid (five_new _ t Htok.out); obtain ⟨c241_0, c241_1, c241_2, c241_3, c241_4, c241_5, _⟩ := Fa.out; obtain ⟨c242_0, c242_1, c242_2, c242_3, c242_4, c242_5, _⟩ := Fb.out; obtain ⟨c243_0, c243_1, c243_2, c243_3, c243_4, c243_5, _⟩ := Fp.out; obtain ⟨c244_0, c244_1, c244_2, c244_3, c244_4, c244_5, _⟩ := Ft.out)
    | (go_at_call 31; (with_reducible refine (better_at p a _ 65 true Fp.out.ok Fa.out.ok Npa.out N65 Hpa HQ).mono ?_); rintro e wq ⟨rfl, hbwq⟩; have Fa := Lib.hid (Fa.out.go hbwq); have Fb := Lib.hid (Fb.out.go hbwq); have Ft := Lib.hid (Ft.out.go hbwq); have BB := Lib.hid (below_go BB.out hbwq); have TT := Lib.hid (TT.out.below hbwq); obtain ⟨c245_0, c245_1, c245_2, c245_3, c245_4, c245_5, _⟩ := Fa.out; obtain ⟨c246_0, c246_1, c246_2, c246_3, c246_4, c246_5, _⟩ := Fb.out; obtain ⟨c247_0, c247_1, c247_2, c247_3, c247_4, c247_5, _⟩ := Ft.out)
    | (go_at_call 31; (with_reducible refine (better_at a t _ 122 true Fa.out.ok Ft.out.ok Nat2.out N122 Hat HW).mono ?_); rintro e wr ⟨rfl, hbwr⟩; have Fa := Lib.hid (Fa.out.go hbwr); have Fb := Lib.hid (Fb.out.go hbwr); have BB := Lib.hid (below_go BB.out hbwr); have TT := Lib.hid (TT.out.below hbwr); obtain ⟨c248_0, c248_1, c248_2, c248_3, c248_4, c248_5, _⟩ := Fa.out; obtain ⟨c249_0, c249_1, c249_2, c249_3, c249_4, c249_5, _⟩ := Fb.out)
    | (go_at_call 31; (with_reducible refine (better_at b a _ 64 true Fb.out.ok Fa.out.ok Nba.out N64 h4 HV).mono ?_); rintro e wu ⟨rfl, hbwu⟩; have Fa := Lib.hid (Fa.out.go hbwu); have Fb := Lib.hid (Fb.out.go hbwu); have BB := Lib.hid (below_go BB.out hbwu); have TT := Lib.hid (TT.out.below hbwu); obtain ⟨c250_0, c250_1, c250_2, c250_3, c250_4, c250_5, _⟩ := Fa.out; obtain ⟨c251_0, c251_1, c251_2, c251_3, c251_4, c251_5, _⟩ := Fb.out)
    | (go_at_call 19; (with_reducible refine (same_yes a b _ Fa.out.ok Fb.out.ok HS).mono ?_); rintro e ws ⟨rfl, hbws⟩; have Fa := Lib.hid (Fa.out.go hbws); have BB := Lib.hid (below_go BB.out hbws); have TT := Lib.hid (TT.out.below hbws); obtain ⟨c252_0, c252_1, c252_2, c252_3, c252_4, c252_5, _⟩ := Fa.out)
    | (go_at_call 13; (with_reducible refine (awake_any _ TT.out).mono ?_); rintro e wz ⟨rfl, hbz⟩))
  go_ret
  exact ⟨rfl, below_go BB.out hbz⟩
theorem semiBetter_law (a b c : SV) (w : World) (ht : Tab w) (ha : a.ok w) (hb : b.ok w) (hc : c.ok w) :
    Calls Tryd.prog 8 #[a.v, b.v, c.v] w fun e w' => e = .returned (.bool true) ∧ Below w.heap.size w w' := by
  cases hs : (decide (a.n ≤ 60) && decide (b.n ≤ 60) && decide (c.n ≤ 60))
  · exact better_big a b c w ht ha hb hc hs
  · by_cases h1 : bothE a b = 0
    · by_cases h2 : bothE b c = 0
      · obtain ⟨m1, m2, m3⟩ := bothE_zero.1 h1
        obtain ⟨_, m5, m6⟩ := bothE_zero.1 h2
        have Va := val_of_may ha m1
        have Vb := val_of_may hb m2
        have Vc := val_of_may hc m5
        have hv := better_total Va Vb m3.symm
        have hz := fun x y => better_trans Va Vb Vc m3.symm m6.symm x y
        cases t1 : a.s == 1 <;> cases x : betterC a.con b.con
        · exact better_other_fxx a b c w ht ha hb hc hs (Lib.hid h1) (Lib.hid h2) _ _ t1 (Lib.hid x) (Lib.hid rfl) (Lib.hid rfl) (Lib.hid (hv x))
        · cases y : betterC b.con c.con <;> cases v : betterC b.con a.con
          · exact better_other_tff a b c w ht ha hb hc hs (Lib.hid h1) (Lib.hid h2) _ t1 (Lib.hid x) (Lib.hid y) (Lib.hid rfl) (Lib.hid v)
          · exact better_other_tft a b c w ht ha hb hc hs (Lib.hid h1) (Lib.hid h2) _ t1 (Lib.hid x) (Lib.hid y) (Lib.hid rfl) (Lib.hid v)
          · exact better_other_ttf a b c w ht ha hb hc hs (Lib.hid h1) (Lib.hid h2) t1 (Lib.hid x) (Lib.hid y) (Lib.hid (hz x y)) (Lib.hid v)
          · exact better_other_ttt a b c w ht ha hb hc hs (Lib.hid h1) (Lib.hid h2) t1 (Lib.hid x) (Lib.hid y) (Lib.hid (hz x y)) (Lib.hid v)
        · exact better_count_fxx a b c w ht ha hb hc hs (Lib.hid h1) (Lib.hid h2) _ _ _ t1 (Lib.hid x) (Lib.hid rfl) (Lib.hid rfl) (Lib.hid (hv x)) (Lib.hid rfl)
        · cases y : betterC b.con c.con <;> cases v : betterC b.con a.con
          · exact better_count_tff a b c w ht ha hb hc hs (Lib.hid h1) (Lib.hid h2) _ _ t1 (Lib.hid x) (Lib.hid y) (Lib.hid rfl) (Lib.hid v) (Lib.hid rfl)
          · exact better_count_tft a b c w ht ha hb hc hs (Lib.hid h1) (Lib.hid h2) _ _ t1 (Lib.hid x) (Lib.hid y) (Lib.hid rfl) (Lib.hid v) (Lib.hid rfl)
          · exact better_count_ttf a b c w ht ha hb hc hs (Lib.hid h1) (Lib.hid h2) _ t1 (Lib.hid x) (Lib.hid y) (Lib.hid (hz x y)) (Lib.hid v) (Lib.hid rfl)
          · exact better_count_ttt a b c w ht ha hb hc hs (Lib.hid h1) (Lib.hid h2) _ t1 (Lib.hid x) (Lib.hid y) (Lib.hid (hz x y)) (Lib.hid v) (Lib.hid rfl)
      · have h3 := Lib.hid h1
        exact better_bad2 a b c w ht ha hb hc hs _ _ _ (Lib.hid rfl) (Lib.hid rfl) (Lib.hid rfl) (by simpa using h1) (by simpa using h2)
    · exact better_bad1 a b c w ht ha hb hc hs _ _ _ (Lib.hid rfl) (Lib.hid rfl) (Lib.hid rfl) (by simpa using h1)
end Go.Proofs.YtdkmmnehlmaebaaDoor.Se
