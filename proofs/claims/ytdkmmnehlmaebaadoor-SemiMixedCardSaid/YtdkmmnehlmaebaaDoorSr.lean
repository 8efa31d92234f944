/- The law SemiStars. Conditions: the table of powers is laid; the value can be read. -/
import Derived.Test.YtdkmmnehlmaebaaDoorSq
namespace Go.Proofs.YtdkmmnehlmaebaaDoor.Se
open Go.RowKit Go.NT Go.FT Go.FX Go.Lib Na

theorem starC_s (c : Con) : (starC c).s = c.s := by unfold starC; split <;> rfl
theorem may_starC {c : Con} (h : knownB c.s = true) : mayC (starC c) = 0 := by
  unfold starC
  split
  · rename_i e
    have e1 : (c.s == 1) = true := by cases h1 : c.s == 1 <;> rw [h1] at e <;> simp at e ⊢
    have e2 : c.s = 1 := by simpa using e1
    exact mayC_nat h (by show natB c.s = true; rw [e2]; rfl)
  · exact may_oneC h
theorem val_of_may {a : SV} {w : World} (ho : a.ok w) (h : a.may = 0) : Val a.con := by
  refine ⟨may_named h, ?_, ?_, ?_⟩
  · intro v hv
    have h2 : mean a.b a.xs = some v := hv
    unfold mean at h2
    cases hb : a.b
    · rw [hb] at h2; injection h2 with h2; rw [← h2]; exact val_nonneg ho.1.2.2.1
    · rw [hb] at h2; cases h2
  · intro hl
    refine lev_of_may h ?_ hl
    have : levB a.s = true := hl
    cases hn : natB a.s
    · rfl
    · rcases known_cases (may_named h) with s | s | s | s | s | s <;> rw [s] at this hn <;> first | exact absurd this (by decide) | exact absurd hn (by decide)
  · intro hn hl; exact dbl_of_may h hn hl
theorem con_s {r : SV} {C : Con} (h : r.con = C) : r.s = C.s := congrArg Con.s h
theorem may_at {r : SV} {w : World} {C : Con} (ho : r.ok w) (hk : r.canon) (hc : r.con = C) (h : mayC C = 0) : r.may = 0 := by rw [may_canon ho hk, hc]; exact h
theorem same_at {r t : SV} (h1 : r.may = 0) (h2 : t.may = 0) (h3 : r.s = t.s) (h4 : sameC r.con t.con = true) : sameE r t = true := by
  unfold sameE; rw [bothE_zero.2 ⟨h1, h2, h3⟩, h4]; rfl
theorem plus_at (a b : SV) (w : World) (N : Nat) (ha : a.ok w) (hb : b.ok w) (hN : max a.n b.n + 1 ≤ N) (hN2 : N ≤ 1099511627776) (h : Hid (bothE a b = 0)) :
    Calls Tryd.prog 18 #[a.v, b.v] w fun e w' => SP w w' e (plusC a.con b.con) 0 N := by
  have := plus_sv a b w N ha hb hN hN2
  rwa [if_pos h.out, h.out] at this
theorem times_at (a b : SV) (w : World) (N : Nat) (ha : a.ok w) (hb : b.ok w) (hN : a.n + b.n + 1 ≤ N) (hN2 : N ≤ 1099511627776) (h : Hid (bothE a b = 0)) :
    Calls Tryd.prog 17 #[a.v, b.v] w fun e w' => SP w w' e (timesC a.con b.con) 0 N := by
  have := times_sv a b w N ha hb hN hN2
  rwa [if_pos h.out, h.out] at this
theorem star_at (a : SV) (w : World) (ha : a.ok w) (h : Hid (a.may = 0)) : Calls Tryd.prog 14 #[a.v] w fun e w' => SP w w' e (starC a.con) 0 2 := by
  have := star_sv a w 2 (Nat.le_refl _) ha
  rwa [if_pos h.out, h.out] at this
theorem one_at (s : Int) (w : World) (h : Hid (knownB s = true)) : Calls Tryd.prog 16 #[.int .i64 s] w fun e w' => SP w w' e (oneC s) 0 2 := by
  have := one_any s w 2 (Nat.le_refl _)
  rwa [if_pos h.out, if_pos h.out] at this
theorem same_yes (a b : SV) (w : World) (ha : a.ok w) (hb : b.ok w) (h : Hid (sameE a b = true)) : Calls Tryd.prog 19 #[a.v, b.v] w fun e w' => e = .returned (.bool true) ∧ Below w.heap.size w w' := by
  have := same_sv a b w ha hb
  rwa [h.out] at this
set_option maxRecDepth 100000 in
set_option maxHeartbeats 4000000 in
theorem stars_count (a : SV) (w : World) (ht : Tab w) (ha : a.ok w) (hs : decide (a.n ≤ 60) = true) (HM : Hid (a.may = 0)) (t1 : (a.s == 1) = true) :
    Calls Tryd.prog 3 #[a.v] w fun e w' => e = .returned (.bool true) ∧ Below w.heap.size w w' := by
  have hs' := Lib.hid hs
  have hn := ha.1.2.2.2
  have hn60 := Lib.hid (of_decide_eq_true hs)
  have HKn := Lib.hid (may_named HM.out)
  have HV := Lib.hid (val_of_may ha HM.out)
  have Haa := Lib.hid (bothE_zero.2 ⟨HM.out, HM.out, rfl⟩ : bothE a a = 0)
  have Naa := Lib.hid (show max a.n a.n + 1 ≤ 64 by have := hn60.out; omega)
  have N63 : 63 ≤ 1099511627776 := by decide
  have N64 : 64 ≤ 1099511627776 := by decide
  have h2 := Lib.hid (boxed ha ht _ rfl)
  have Fa := Lib.hid h2.out.1
  have BB := Lib.hid h2.out.2.1
  have TT := Lib.hid h2.out.2.2
  clear hs ha ht h2
  unfold SV.v
  go_enter Tryd.func3, Tryd.ntmps3
  go_wp2_with (first
    | (go_at_call 12; (with_reducible refine (small1 _ a _ true hs' hn (by go_simp)).mono ?_); rintro e w1 ⟨rfl, rfl⟩)
    | (go_at_call 14; (with_reducible refine (star_at a _ Fa.out.ok HM).mono ?_); rintro e ws ⟨s, rfl, sok, sC, sc, sn, hbs⟩; have Hsok := Lib.hid sok; have hss := Lib.hid ((con_s sC.out).trans (starC_s _)); have hsm := Lib.hid (may_at sok sc.out sC.out (may_starC HKn.out)); have Has := Lib.hid (bothE_zero.2 ⟨HM.out, hsm.out, hss.out.symm⟩); have Nas := Lib.hid (show a.n + s.n + 1 ≤ 63 by have := sn.out; have := hn60.out; omega); have Fa := Lib.hid ((Fa.out.go hbs).al (.cells #[.int .i64 s.s, .bool s.b, .slice s.A s.n s.c, .int .i64 s.lv, .float .f64 s.x] 27)); have BB := Lib.hid (below_al (below_go BB.out hbs) (.cells #[.int .i64 s.s, .bool s.b, .slice s.A s.n s.c, .int .i64 s.lv, .float .f64 s.x] 27)); have TT := Lib.hid ((TT.out.below hbs).below (below_al (Below.refl _ _) (.cells #[.int .i64 s.s, .bool s.b, .slice s.A s.n s.c, .int .i64 s.lv, .float .f64 s.x] 27))); have Fs := Lib.hid (five_new _ s Hsok.out); obtain ⟨c1_0, c1_1, c1_2, c1_3, c1_4, c1_5, _⟩ := Fa.out; obtain ⟨c2_0, c2_1, c2_2, c2_3, c2_4, c2_5, _⟩ := Fs.out)
    | (go_at_call 16; (with_reducible refine (one_at a.s _ HKn).mono ?_); rintro e wo ⟨o, rfl, ook, oC, oc, on, hbo⟩; have Hook := Lib.hid ook; have hos := Lib.hid (con_s oC.out); have hom := Lib.hid (may_at ook oc.out oC.out (may_oneC HKn.out)); have Fa := Lib.hid ((Fa.out.go hbo).al (.cells #[.int .i64 o.s, .bool o.b, .slice o.A o.n o.c, .int .i64 o.lv, .float .f64 o.x] 27)); have Fs := Lib.hid ((Fs.out.go hbo).al (.cells #[.int .i64 o.s, .bool o.b, .slice o.A o.n o.c, .int .i64 o.lv, .float .f64 o.x] 27)); have BB := Lib.hid (below_al (below_go BB.out hbo) (.cells #[.int .i64 o.s, .bool o.b, .slice o.A o.n o.c, .int .i64 o.lv, .float .f64 o.x] 27)); have TT := Lib.hid ((TT.out.below hbo).below (below_al (Below.refl _ _) (.cells #[.int .i64 o.s, .bool o.b, .slice o.A o.n o.c, .int .i64 o.lv, .float .f64 o.x] 27))); have Fo := Lib.hid (five_new _ o Hook.out); obtain ⟨c3_0, c3_1, c3_2, c3_3, c3_4, c3_5, _⟩ := Fa.out; obtain ⟨c4_0, c4_1, c4_2, c4_3, c4_4, c4_5, _⟩ := Fs.out; obtain ⟨c5_0, c5_1, c5_2, c5_3, c5_4, c5_5, _⟩ := Fo.out)
    | (go_at_call 17; (with_reducible refine (times_at a s _ 63 Fa.out.ok Fs.out.ok Nas.out N63 Has).mono ?_); rintro e wt ⟨t, rfl, tok, tC, tc, tn, hbt⟩; have Htok := Lib.hid tok; have hts := Lib.hid ((con_s tC.out).trans (timesC_s _ _)); have htm := Lib.hid (may_at tok tc.out tC.out (may_timesC Has.out)); have Hot := Lib.hid (bothE_zero.2 ⟨hom.out, htm.out, hos.out.trans hts.out.symm⟩); have Not := Lib.hid (show max o.n t.n + 1 ≤ 64 by have := on.out; have := tn.out; omega); have Fa := Lib.hid ((Fa.out.go hbt).al (.cells #[.int .i64 t.s, .bool t.b, .slice t.A t.n t.c, .int .i64 t.lv, .float .f64 t.x] 27)); have Fs := Lib.hid ((Fs.out.go hbt).al (.cells #[.int .i64 t.s, .bool t.b, .slice t.A t.n t.c, .int .i64 t.lv, .float .f64 t.x] 27)); have Fo := Lib.hid ((Fo.out.go hbt).al (.cells #[.int .i64 t.s, .bool t.b, .slice t.A t.n t.c, .int .i64 t.lv, .float .f64 t.x] 27)); have BB := Lib.hid (below_al (below_go BB.out hbt) (.cells #[.int .i64 t.s, .bool t.b, .slice t.A t.n t.c, .int .i64 t.lv, .float .f64 t.x] 27)); have TT := Lib.hid ((TT.out.below hbt).below (below_al (Below.refl _ _) (.cells #[.int .i64 t.s, .bool t.b, .slice t.A t.n t.c, .int .i64 t.lv, .float .f64 t.x] 27))); have Ft := Lib.hid (five_new _ t Htok.out); obtain ⟨c6_0, c6_1, c6_2, c6_3, c6_4, c6_5, _⟩ := Fa.out; obtain ⟨c7_0, c7_1, c7_2, c7_3, c7_4, c7_5, _⟩ := Fs.out; obtain ⟨c8_0, c8_1, c8_2, c8_3, c8_4, c8_5, _⟩ := Fo.out; obtain ⟨c9_0, c9_1, c9_2, c9_3, c9_4, c9_5, _⟩ := Ft.out)
    | (go_at_call 18; (with_reducible refine (plus_at o t _ 64 Fo.out.ok Ft.out.ok Not.out N64 Hot).mono ?_); rintro e wp ⟨p, rfl, pok, pC, pc, pn, hbp⟩; have Hpok := Lib.hid pok; have hps := Lib.hid (((con_s pC.out).trans (plusC_s _ _)).trans hos.out); have hpm := Lib.hid (may_at pok pc.out pC.out (may_plusC Hot.out)); have Hps := Lib.hid (same_at hpm.out hsm.out (hps.out.trans hss.out.symm) (by rw [pC.out, tC.out, oC.out, sC.out]; exact star_plain HV.out)); have Fa := Lib.hid ((Fa.out.go hbp).al (.cells #[.int .i64 p.s, .bool p.b, .slice p.A p.n p.c, .int .i64 p.lv, .float .f64 p.x] 27)); have Fs := Lib.hid ((Fs.out.go hbp).al (.cells #[.int .i64 p.s, .bool p.b, .slice p.A p.n p.c, .int .i64 p.lv, .float .f64 p.x] 27)); have Fo := Lib.hid ((Fo.out.go hbp).al (.cells #[.int .i64 p.s, .bool p.b, .slice p.A p.n p.c, .int .i64 p.lv, .float .f64 p.x] 27)); have Ft := Lib.hid ((Ft.out.go hbp).al (.cells #[.int .i64 p.s, .bool p.b, .slice p.A p.n p.c, .int .i64 p.lv, .float .f64 p.x] 27)); have BB := Lib.hid (below_al (below_go BB.out hbp) (.cells #[.int .i64 p.s, .bool p.b, .slice p.A p.n p.c, .int .i64 p.lv, .float .f64 p.x] 27)); have TT := Lib.hid ((TT.out.below hbp).below (below_al (Below.refl _ _) (.cells #[.int .i64 p.s, .bool p.b, .slice p.A p.n p.c, .int .i64 p.lv, .float .f64 p.x] 27))); have Fp := Lib.hid (five_new _ p Hpok.out); obtain ⟨c10_0, c10_1, c10_2, c10_3, c10_4, c10_5, _⟩ := Fa.out; obtain ⟨c11_0, c11_1, c11_2, c11_3, c11_4, c11_5, _⟩ := Fs.out; obtain ⟨c12_0, c12_1, c12_2, c12_3, c12_4, c12_5, _⟩ := Fo.out; obtain ⟨c13_0, c13_1, c13_2, c13_3, c13_4, c13_5, _⟩ := Ft.out; obtain ⟨c14_0, c14_1, c14_2, c14_3, c14_4, c14_5, _⟩ := Fp.out)
    | (go_at_call 18; (with_reducible refine (plus_at a a _ 64 Fa.out.ok Fa.out.ok Naa.out N64 Haa).mono ?_); rintro e wq ⟨q, rfl, qok, qC, qc, qn, hbq⟩; have Hqok := Lib.hid qok; have hqs := Lib.hid ((con_s qC.out).trans (plusC_s _ _)); have hqm := Lib.hid (may_at qok qc.out qC.out (may_plusC Haa.out)); have Fa := Lib.hid ((Fa.out.go hbq).al (.cells #[.int .i64 q.s, .bool q.b, .slice q.A q.n q.c, .int .i64 q.lv, .float .f64 q.x] 27)); have Fs := Lib.hid ((Fs.out.go hbq).al (.cells #[.int .i64 q.s, .bool q.b, .slice q.A q.n q.c, .int .i64 q.lv, .float .f64 q.x] 27)); have Fo := Lib.hid ((Fo.out.go hbq).al (.cells #[.int .i64 q.s, .bool q.b, .slice q.A q.n q.c, .int .i64 q.lv, .float .f64 q.x] 27)); have Ft := Lib.hid ((Ft.out.go hbq).al (.cells #[.int .i64 q.s, .bool q.b, .slice q.A q.n q.c, .int .i64 q.lv, .float .f64 q.x] 27)); have Fp := Lib.hid ((Fp.out.go hbq).al (.cells #[.int .i64 q.s, .bool q.b, .slice q.A q.n q.c, .int .i64 q.lv, .float .f64 q.x] 27)); have BB := Lib.hid (below_al (below_go BB.out hbq) (.cells #[.int .i64 q.s, .bool q.b, .slice q.A q.n q.c, .int .i64 q.lv, .float .f64 q.x] 27)); have TT := Lib.hid ((TT.out.below hbq).below (below_al (Below.refl _ _) (.cells #[.int .i64 q.s, .bool q.b, .slice q.A q.n q.c, .int .i64 q.lv, .float .f64 q.x] 27))); have Fq := Lib.hid (five_new _ q Hqok.out); obtain ⟨c15_0, c15_1, c15_2, c15_3, c15_4, c15_5, _⟩ := Fa.out; obtain ⟨c16_0, c16_1, c16_2, c16_3, c16_4, c16_5, _⟩ := Fs.out; obtain ⟨c17_0, c17_1, c17_2, c17_3, c17_4, c17_5, _⟩ := Fo.out; obtain ⟨c18_0, c18_1, c18_2, c18_3, c18_4, c18_5, _⟩ := Ft.out; obtain ⟨c19_0, c19_1, c19_2, c19_3, c19_4, c19_5, _⟩ := Fp.out; obtain ⟨c20_0, c20_1, c20_2, c20_3, c20_4, c20_5, _⟩ := Fq.out)
    | (go_at_call 19; (with_reducible refine (same_yes p s _ Fp.out.ok Fs.out.ok Hps).mono ?_); rintro e wx ⟨rfl, hbx⟩; have Fa := Lib.hid (Fa.out.go hbx); have Fq := Lib.hid (Fq.out.go hbx); have BB := Lib.hid (below_go BB.out hbx); have TT := Lib.hid (TT.out.below hbx); obtain ⟨c21_0, c21_1, c21_2, c21_3, c21_4, c21_5, _⟩ := Fa.out; obtain ⟨c22_0, c22_1, c22_2, c22_3, c22_4, c22_5, _⟩ := Fq.out)
    | (go_at_call 13; (with_reducible refine (awake_any _ TT.out).mono ?_); rintro e wz ⟨rfl, hbz⟩))
  go_ret
  exact ⟨rfl, below_go BB.out hbz⟩
set_option maxRecDepth 100000 in
set_option maxHeartbeats 4000000 in
theorem stars_other (a : SV) (w : World) (ht : Tab w) (ha : a.ok w) (hs : decide (a.n ≤ 60) = true) (HM : Hid (a.may = 0)) (t1 : (a.s == 1) = false) :
    Calls Tryd.prog 3 #[a.v] w fun e w' => e = .returned (.bool true) ∧ Below w.heap.size w w' := by
  have hs' := Lib.hid hs
  have hn := ha.1.2.2.2
  have hn60 := Lib.hid (of_decide_eq_true hs)
  have HKn := Lib.hid (may_named HM.out)
  have HV := Lib.hid (val_of_may ha HM.out)
  have Haa := Lib.hid (bothE_zero.2 ⟨HM.out, HM.out, rfl⟩ : bothE a a = 0)
  have Naa := Lib.hid (show max a.n a.n + 1 ≤ 64 by have := hn60.out; omega)
  have N63 : 63 ≤ 1099511627776 := by decide
  have N64 : 64 ≤ 1099511627776 := by decide
  have h2 := Lib.hid (boxed ha ht _ rfl)
  have Fa := Lib.hid h2.out.1
  have BB := Lib.hid h2.out.2.1
  have TT := Lib.hid h2.out.2.2
  have HT1 := Lib.hid t1
  clear hs ha ht h2
  unfold SV.v
  go_enter Tryd.func3, Tryd.ntmps3
  go_wp2_with (first
    | (go_at_call 12; (with_reducible refine (small1 _ a _ true hs' hn (by go_simp)).mono ?_); rintro e w1 ⟨rfl, rfl⟩)
    | (go_at_call 14; (with_reducible refine (star_at a _ Fa.out.ok HM).mono ?_); rintro e ws ⟨s, rfl, sok, sC, sc, sn, hbs⟩; have Hsok := Lib.hid sok; have hss := Lib.hid ((con_s sC.out).trans (starC_s _)); have hsm := Lib.hid (may_at sok sc.out sC.out (may_starC HKn.out)); have Has := Lib.hid (bothE_zero.2 ⟨HM.out, hsm.out, hss.out.symm⟩); have Nas := Lib.hid (show a.n + s.n + 1 ≤ 63 by have := sn.out; have := hn60.out; omega); have Fa := Lib.hid ((Fa.out.go hbs).al (.cells #[.int .i64 s.s, .bool s.b, .slice s.A s.n s.c, .int .i64 s.lv, .float .f64 s.x] 27)); have BB := Lib.hid (below_al (below_go BB.out hbs) (.cells #[.int .i64 s.s, .bool s.b, .slice s.A s.n s.c, .int .i64 s.lv, .float .f64 s.x] 27)); have TT := Lib.hid ((TT.out.below hbs).below (below_al (Below.refl _ _) (.cells #[.int .i64 s.s, .bool s.b, .slice s.A s.n s.c, .int .i64 s.lv, .float .f64 s.x] 27))); have Fs := Lib.hid (five_new _ s Hsok.out); obtain ⟨c1_0, c1_1, c1_2, c1_3, c1_4, c1_5, _⟩ := Fa.out; obtain ⟨c2_0, c2_1, c2_2, c2_3, c2_4, c2_5, _⟩ := Fs.out)
    | (go_at_call 16; (with_reducible refine (one_at a.s _ HKn).mono ?_); rintro e wo ⟨o, rfl, ook, oC, oc, on, hbo⟩; have Hook := Lib.hid ook; have hos := Lib.hid (con_s oC.out); have hom := Lib.hid (may_at ook oc.out oC.out (may_oneC HKn.out)); have Fa := Lib.hid ((Fa.out.go hbo).al (.cells #[.int .i64 o.s, .bool o.b, .slice o.A o.n o.c, .int .i64 o.lv, .float .f64 o.x] 27)); have Fs := Lib.hid ((Fs.out.go hbo).al (.cells #[.int .i64 o.s, .bool o.b, .slice o.A o.n o.c, .int .i64 o.lv, .float .f64 o.x] 27)); have BB := Lib.hid (below_al (below_go BB.out hbo) (.cells #[.int .i64 o.s, .bool o.b, .slice o.A o.n o.c, .int .i64 o.lv, .float .f64 o.x] 27)); have TT := Lib.hid ((TT.out.below hbo).below (below_al (Below.refl _ _) (.cells #[.int .i64 o.s, .bool o.b, .slice o.A o.n o.c, .int .i64 o.lv, .float .f64 o.x] 27))); have Fo := Lib.hid (five_new _ o Hook.out); obtain ⟨c3_0, c3_1, c3_2, c3_3, c3_4, c3_5, _⟩ := Fa.out; obtain ⟨c4_0, c4_1, c4_2, c4_3, c4_4, c4_5, _⟩ := Fs.out; obtain ⟨c5_0, c5_1, c5_2, c5_3, c5_4, c5_5, _⟩ := Fo.out)
    | (go_at_call 17; (with_reducible refine (times_at a s _ 63 Fa.out.ok Fs.out.ok Nas.out N63 Has).mono ?_); rintro e wt ⟨t, rfl, tok, tC, tc, tn, hbt⟩; have Htok := Lib.hid tok; have hts := Lib.hid ((con_s tC.out).trans (timesC_s _ _)); have htm := Lib.hid (may_at tok tc.out tC.out (may_timesC Has.out)); have Hot := Lib.hid (bothE_zero.2 ⟨hom.out, htm.out, hos.out.trans hts.out.symm⟩); have Not := Lib.hid (show max o.n t.n + 1 ≤ 64 by have := on.out; have := tn.out; omega); have Fa := Lib.hid ((Fa.out.go hbt).al (.cells #[.int .i64 t.s, .bool t.b, .slice t.A t.n t.c, .int .i64 t.lv, .float .f64 t.x] 27)); have Fs := Lib.hid ((Fs.out.go hbt).al (.cells #[.int .i64 t.s, .bool t.b, .slice t.A t.n t.c, .int .i64 t.lv, .float .f64 t.x] 27)); have Fo := Lib.hid ((Fo.out.go hbt).al (.cells #[.int .i64 t.s, .bool t.b, .slice t.A t.n t.c, .int .i64 t.lv, .float .f64 t.x] 27)); have BB := Lib.hid (below_al (below_go BB.out hbt) (.cells #[.int .i64 t.s, .bool t.b, .slice t.A t.n t.c, .int .i64 t.lv, .float .f64 t.x] 27)); have TT := Lib.hid ((TT.out.below hbt).below (below_al (Below.refl _ _) (.cells #[.int .i64 t.s, .bool t.b, .slice t.A t.n t.c, .int .i64 t.lv, .float .f64 t.x] 27))); have Ft := Lib.hid (five_new _ t Htok.out); obtain ⟨c6_0, c6_1, c6_2, c6_3, c6_4, c6_5, _⟩ := Fa.out; obtain ⟨c7_0, c7_1, c7_2, c7_3, c7_4, c7_5, _⟩ := Fs.out; obtain ⟨c8_0, c8_1, c8_2, c8_3, c8_4, c8_5, _⟩ := Fo.out; obtain ⟨c9_0, c9_1, c9_2, c9_3, c9_4, c9_5, _⟩ := Ft.out)
    | (go_at_call 18; (with_reducible refine (plus_at o t _ 64 Fo.out.ok Ft.out.ok Not.out N64 Hot).mono ?_); rintro e wp ⟨p, rfl, pok, pC, pc, pn, hbp⟩; have Hpok := Lib.hid pok; have hps := Lib.hid (((con_s pC.out).trans (plusC_s _ _)).trans hos.out); have hpm := Lib.hid (may_at pok pc.out pC.out (may_plusC Hot.out)); have Hps := Lib.hid (same_at hpm.out hsm.out (hps.out.trans hss.out.symm) (by rw [pC.out, tC.out, oC.out, sC.out]; exact star_plain HV.out)); have Fa := Lib.hid ((Fa.out.go hbp).al (.cells #[.int .i64 p.s, .bool p.b, .slice p.A p.n p.c, .int .i64 p.lv, .float .f64 p.x] 27)); have Fs := Lib.hid ((Fs.out.go hbp).al (.cells #[.int .i64 p.s, .bool p.b, .slice p.A p.n p.c, .int .i64 p.lv, .float .f64 p.x] 27)); have Fo := Lib.hid ((Fo.out.go hbp).al (.cells #[.int .i64 p.s, .bool p.b, .slice p.A p.n p.c, .int .i64 p.lv, .float .f64 p.x] 27)); have Ft := Lib.hid ((Ft.out.go hbp).al (.cells #[.int .i64 p.s, .bool p.b, .slice p.A p.n p.c, .int .i64 p.lv, .float .f64 p.x] 27)); have BB := Lib.hid (below_al (below_go BB.out hbp) (.cells #[.int .i64 p.s, .bool p.b, .slice p.A p.n p.c, .int .i64 p.lv, .float .f64 p.x] 27)); have TT := Lib.hid ((TT.out.below hbp).below (below_al (Below.refl _ _) (.cells #[.int .i64 p.s, .bool p.b, .slice p.A p.n p.c, .int .i64 p.lv, .float .f64 p.x] 27))); have Fp := Lib.hid (five_new _ p Hpok.out); obtain ⟨c10_0, c10_1, c10_2, c10_3, c10_4, c10_5, _⟩ := Fa.out; obtain ⟨c11_0, c11_1, c11_2, c11_3, c11_4, c11_5, _⟩ := Fs.out; obtain ⟨c12_0, c12_1, c12_2, c12_3, c12_4, c12_5, _⟩ := Fo.out; obtain ⟨c13_0, c13_1, c13_2, c13_3, c13_4, c13_5, _⟩ := Ft.out; obtain ⟨c14_0, c14_1, c14_2, c14_3, c14_4, c14_5, _⟩ := Fp.out)
    | (go_at_call 18; (with_reducible refine (plus_at a a _ 64 Fa.out.ok Fa.out.ok Naa.out N64 Haa).mono ?_); rintro e wq ⟨q, rfl, qok, qC, qc, qn, hbq⟩; have Hqok := Lib.hid qok; have hqs := Lib.hid ((con_s qC.out).trans (plusC_s _ _)); have hqm := Lib.hid (may_at qok qc.out qC.out (may_plusC Haa.out)); have Hqa := Lib.hid (same_at hqm.out HM.out hqs.out (by rw [qC.out]; exact twice_plain HKn.out HT1.out)); have Fa := Lib.hid ((Fa.out.go hbq).al (.cells #[.int .i64 q.s, .bool q.b, .slice q.A q.n q.c, .int .i64 q.lv, .float .f64 q.x] 27)); have Fs := Lib.hid ((Fs.out.go hbq).al (.cells #[.int .i64 q.s, .bool q.b, .slice q.A q.n q.c, .int .i64 q.lv, .float .f64 q.x] 27)); have Fo := Lib.hid ((Fo.out.go hbq).al (.cells #[.int .i64 q.s, .bool q.b, .slice q.A q.n q.c, .int .i64 q.lv, .float .f64 q.x] 27)); have Ft := Lib.hid ((Ft.out.go hbq).al (.cells #[.int .i64 q.s, .bool q.b, .slice q.A q.n q.c, .int .i64 q.lv, .float .f64 q.x] 27)); have Fp := Lib.hid ((Fp.out.go hbq).al (.cells #[.int .i64 q.s, .bool q.b, .slice q.A q.n q.c, .int .i64 q.lv, .float .f64 q.x] 27)); have BB := Lib.hid (below_al (below_go BB.out hbq) (.cells #[.int .i64 q.s, .bool q.b, .slice q.A q.n q.c, .int .i64 q.lv, .float .f64 q.x] 27)); have TT := Lib.hid ((TT.out.below hbq).below (below_al (Below.refl _ _) (.cells #[.int .i64 q.s, .bool q.b, .slice q.A q.n q.c, .int .i64 q.lv, .float .f64 q.x] 27))); have Fq := Lib.hid (five_new _ q Hqok.out); obtain ⟨c15_0, c15_1, c15_2, c15_3, c15_4, c15_5, _⟩ := Fa.out; obtain ⟨c16_0, c16_1, c16_2, c16_3, c16_4, c16_5, _⟩ := Fs.out; obtain ⟨c17_0, c17_1, c17_2, c17_3, c17_4, c17_5, _⟩ := Fo.out; obtain ⟨c18_0, c18_1, c18_2, c18_3, c18_4, c18_5, _⟩ := Ft.out; obtain ⟨c19_0, c19_1, c19_2, c19_3, c19_4, c19_5, _⟩ := Fp.out; obtain ⟨c20_0, c20_1, c20_2, c20_3, c20_4, c20_5, _⟩ := Fq.out)
    | (go_at_call 19; (with_reducible refine (same_yes p s _ Fp.out.ok Fs.out.ok Hps).mono ?_); rintro e wx ⟨rfl, hbx⟩; have Fa := Lib.hid (Fa.out.go hbx); have Fq := Lib.hid (Fq.out.go hbx); have BB := Lib.hid (below_go BB.out hbx); have TT := Lib.hid (TT.out.below hbx); obtain ⟨c21_0, c21_1, c21_2, c21_3, c21_4, c21_5, _⟩ := Fa.out; obtain ⟨c22_0, c22_1, c22_2, c22_3, c22_4, c22_5, _⟩ := Fq.out)
    | (go_at_call 19; (with_reducible refine (same_yes q a _ Fq.out.ok Fa.out.ok Hqa).mono ?_); rintro e wy ⟨rfl, hby⟩; have Fa := Lib.hid (Fa.out.go hby); have BB := Lib.hid (below_go BB.out hby); have TT := Lib.hid (TT.out.below hby); obtain ⟨c23_0, c23_1, c23_2, c23_3, c23_4, c23_5, _⟩ := Fa.out)
    | (go_at_call 13; (with_reducible refine (awake_any _ TT.out).mono ?_); rintro e wz ⟨rfl, hbz⟩))
  go_ret
  exact ⟨rfl, below_go BB.out hbz⟩
theorem semiStars_law (a : SV) (w : World) (ht : Tab w) (ha : a.ok w) :
    Calls Tryd.prog 3 #[a.v] w fun e w' => e = .returned (.bool true) ∧ Below w.heap.size w w' := by
  cases hs : decide (a.n ≤ 60)
  · exact stars_big a w ht ha hs
  · by_cases hm : a.may = 0
    · cases t1 : a.s == 1
      · exact stars_other a w ht ha hs (Lib.hid hm) t1
      · exact stars_count a w ht ha hs (Lib.hid hm) t1
    · exact stars_no a w ht ha hs _ (Lib.hid rfl) (by simpa using hm)
end Go.Proofs.YtdkmmnehlmaebaaDoor.Se
