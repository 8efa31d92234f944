/- The document's PlusValue, TimesValue, Star, Alike, Better, IsZero. Conditions: the values can be read. -/
import Derived.Test.YtdkmmnehlmaebaaGreatDoorRb
namespace Go.Proofs.YtdkmmnehlmaebaaGreatDoor.Se
open Go.RowKit Go.NT Go.FT Go.FX Go.Lib Na

set_option maxRecDepth 100000 in
set_option maxHeartbeats 2000000 in
theorem rplus_sv (a b : SV) (w : World) (N : Nat) (ha : a.ok w) (hb : b.ok w) (hN : a.n + b.n + 1 ≤ N) (hN2 : N ≤ 1099511627776) :
    Calls Tryz.prog 13 #[a.v, b.v] w fun e w' => SP w w' e (if bothE a b = 0 then plusC a.con b.con else noneC) (bothE a b) N := by
  have h3 := Lib.hid (three ha hb _ rfl)
  have hp := Lib.hid (fun W (h1 : a.ok W) (h2 : b.ok W) => rop_plus a b W N h1 h2 hN hN2)
  generalize (if bothE a b = 0 then plusC a.con b.con else noneC) = C at *
  generalize bothE a b = E at *
  clear ha hb hN hN2
  unfold SV.v
  go_enter Tryz.func13, Tryz.ntmps13
  go_wp2_with (go_at_call 41; (with_reducible refine (hp.out _ h3.out.1.ok h3.out.2.1.ok).mono ?_); rintro e w1 ⟨r, rfl, ho, hC, hc, hn, hb1⟩; have HB := Lib.hid (below_go h3.out.2.2.2 hb1); obtain ⟨⟨r0, r1, r2, r3, r4, r5, _⟩, hvb, f0, f1, f2, f3, f4⟩ := h3.out.2.2.1.go hb1)
  exact bodyPost_ret (v := .tuple #[r.v, .int .i64 E]) (by simp [results, Tryz.results13, go_sem, r0, r1, r2, r3, r4]) rfl
    (SP.mk' r (ho.set5 hvb _ _ _ _ _ _ _) hC.out hc.out hn.out (below_5 HB.out (by omega) _ _ _ _ _))
set_option maxRecDepth 100000 in
set_option maxHeartbeats 2000000 in
theorem rtimes_sv (a b : SV) (w : World) (N : Nat) (ha : a.ok w) (hb : b.ok w) (hN : a.n + b.n + 1 ≤ N) (hN2 : N ≤ 1099511627776) :
    Calls Tryz.prog 15 #[a.v, b.v] w fun e w' => SP w w' e (if bothE a b = 0 then timesC a.con b.con else noneC) (bothE a b) N := by
  have h3 := Lib.hid (three ha hb _ rfl)
  have hp := Lib.hid (fun W (h1 : a.ok W) (h2 : b.ok W) => rop_times a b W N h1 h2 hN hN2)
  generalize (if bothE a b = 0 then timesC a.con b.con else noneC) = C at *
  generalize bothE a b = E at *
  clear ha hb hN hN2
  unfold SV.v
  go_enter Tryz.func15, Tryz.ntmps15
  go_wp2_with (go_at_call 41; (with_reducible refine (hp.out _ h3.out.1.ok h3.out.2.1.ok).mono ?_); rintro e w1 ⟨r, rfl, ho, hC, hc, hn, hb1⟩; have HB := Lib.hid (below_go h3.out.2.2.2 hb1); obtain ⟨⟨r0, r1, r2, r3, r4, r5, _⟩, hvb, f0, f1, f2, f3, f4⟩ := h3.out.2.2.1.go hb1)
  exact bodyPost_ret (v := .tuple #[r.v, .int .i64 E]) (by simp [results, Tryz.results15, go_sem, r0, r1, r2, r3, r4]) rfl
    (SP.mk' r (ho.set5 hvb _ _ _ _ _ _ _) hC.out hc.out hn.out (below_5 HB.out (by omega) _ _ _ _ _))
theorem rone_at (s : Int) (w : World) (N : Nat) (hN : 2 ≤ N) (h : Hid (knownB s = true)) : Calls Tryz.prog 11 #[.int .i64 s] w fun e w' => SP w w' e (oneC s) 0 N := by
  have := rone_any s w N hN
  rwa [if_pos h.out, if_pos h.out] at this
theorem rzero_at (s : Int) (w : World) (N : Nat) (hN : 2 ≤ N) (h : Hid (knownB s = true)) : Calls Tryz.prog 9 #[.int .i64 s] w fun e w' => SP w w' e (zeroC s) 0 N := by
  have := rzero_any s w N hN
  rwa [if_pos h.out, if_pos h.out] at this
theorem rzero_not (s : Int) (w : World) (N : Nat) (hN : 2 ≤ N) (h : Hid (knownB s = false)) : Calls Tryz.prog 9 #[.int .i64 s] w fun e w' => SP w w' e noneC 9 N := by
  have := rzero_any s w N hN
  rwa [if_neg (by rw [h.out]; decide), if_neg (by rw [h.out]; decide)] at this
set_option maxRecDepth 100000 in
set_option maxHeartbeats 2000000 in
theorem rstar_no (a : SV) (w : World) (N : Nat) (ha : a.ok w) (k : Int) (hk : (k != 0) = true) (HM : Hid (a.may = k)) :
    Calls Tryz.prog 17 #[a.v] w fun e w' => SP w w' e noneC k N := by
  have h2 := Lib.hid (two ha _ rfl)
  clear ha
  unfold SV.v
  go_enter Tryz.func17, Tryz.ntmps17
  go_wp2_with (go_at_call 22; (with_reducible refine (rmay_is a _ h2.out.1.ok HM).mono ?_); rintro e w1 ⟨rfl, hb1⟩; have HB := Lib.hid (below_go h2.out.2.2 hb1); have HV1 := Lib.hid (h2.out.2.1.go hb1); obtain ⟨p0, p1, p2, p3, p4, p5, _⟩ := h2.out.1.go hb1; obtain ⟨⟨r0, r1, r2, r3, r4, r5, _⟩, hvb, f0, f1, f2, f3, f4⟩ := HV1.out)
  exact bodyPost_ret (v := .tuple #[(SV.lev 0 0).v, .int .i64 k]) (by simp [results, Tryz.results17, go_sem, SV.lev, r0, r1, r2, r3, r4]) rfl
    (SP.mk' (SV.lev 0 0) (lev_ok _ _ _) rfl (lev_canon _ _) (Nat.zero_le _) (below_5 HB.out (by omega) _ _ _ _ _))
set_option maxRecDepth 100000 in
set_option maxHeartbeats 2000000 in
theorem rstar_other (a : SV) (w : World) (N : Nat) (hN : 2 ≤ N) (ha : a.ok w) (t1 : (a.s == 1) = false) (HM : Hid (a.may = 0)) :
    Calls Tryz.prog 17 #[a.v] w fun e w' => SP w w' e (oneC a.s) 0 N := by
  have h2 := Lib.hid (two ha _ rfl)
  have HKn := Lib.hid (may_named HM.out)
  clear ha
  unfold SV.v
  go_enter Tryz.func17, Tryz.ntmps17
  go_wp2_with (first
    | (go_at_call 22; (with_reducible refine (rmay_is a _ h2.out.1.ok HM).mono ?_); rintro e w1 ⟨rfl, hb1⟩; have HB := Lib.hid (below_go h2.out.2.2 hb1); have HV1 := Lib.hid (h2.out.2.1.go hb1); obtain ⟨p0, p1, p2, p3, p4, p5, _⟩ := h2.out.1.go hb1; obtain ⟨⟨r0, r1, r2, r3, r4, r5, _⟩, hvb, f0, f1, f2, f3, f4⟩ := HV1.out)
    | (go_at_call 11; (with_reducible refine (rone_at a.s _ N hN HKn).mono ?_); rintro e w3 ⟨r, rfl, ho, hC3, hc3, hn3, hb3⟩; have HB := Lib.hid (below_go HB.out hb3); obtain ⟨⟨r0, r1, r2, r3, r4, r5, _⟩, hvb, f0, f1, f2, f3, f4⟩ := HV1.out.go hb3))
  exact bodyPost_ret (v := .tuple #[r.v, .int .i64 0]) (by simp [results, Tryz.results17, go_sem, r0, r1, r2, r3, r4]) rfl
    (SP.mk' r (ho.set5 hvb _ _ _ _ _ _ _) hC3.out hc3.out hn3.out (below_5 HB.out (by omega) _ _ _ _ _))
set_option maxRecDepth 100000 in
set_option maxHeartbeats 2000000 in
theorem rstar_zero (a : SV) (w : World) (N : Nat) (hN : 2 ≤ N) (ha : a.ok w) (t1 : (a.s == 1) = true) (hbb : Hid (a.b = false)) (hnn : Hid (a.n = 0)) (HM : Hid (a.may = 0)) :
    Calls Tryz.prog 17 #[a.v] w fun e w' => SP w w' e (oneC a.s) 0 N := by
  have h2 := Lib.hid (two ha _ rfl)
  have HKn := Lib.hid (may_named HM.out)
  clear ha
  unfold SV.v
  go_enter Tryz.func17, Tryz.ntmps17
  go_wp2_with (first
    | (go_at_call 22; (with_reducible refine (rmay_is a _ h2.out.1.ok HM).mono ?_); rintro e w1 ⟨rfl, hb1⟩; have HB := Lib.hid (below_go h2.out.2.2 hb1); have HV1 := Lib.hid (h2.out.2.1.go hb1); obtain ⟨p0, p1, p2, p3, p4, p5, _⟩ := h2.out.1.go hb1; obtain ⟨⟨r0, r1, r2, r3, r4, r5, _⟩, hvb, f0, f1, f2, f3, f4⟩ := HV1.out; rw [hbb.out] at p1; rw [hnn.out] at p2)
    | (go_at_call 11; (with_reducible refine (rone_at a.s _ N hN HKn).mono ?_); rintro e w3 ⟨r, rfl, ho, hC3, hc3, hn3, hb3⟩; have HB := Lib.hid (below_go HB.out hb3); obtain ⟨⟨r0, r1, r2, r3, r4, r5, _⟩, hvb, f0, f1, f2, f3, f4⟩ := HV1.out.go hb3))
  exact bodyPost_ret (v := .tuple #[r.v, .int .i64 0]) (by simp [results, Tryz.results17, go_sem, r0, r1, r2, r3, r4]) rfl
    (SP.mk' r (ho.set5 hvb _ _ _ _ _ _ _) hC3.out hc3.out hn3.out (below_5 HB.out (by omega) _ _ _ _ _))
set_option maxRecDepth 100000 in
set_option maxHeartbeats 2000000 in
theorem rstar_big (a : SV) (w : World) (N : Nat) (hN : 2 ≤ N) (ha : a.ok w) (t1 : (a.s == 1) = true) (hbb : Hid (a.b = false)) (hnn : 0 < a.n) (HM : Hid (a.may = 0)) :
    Calls Tryz.prog 17 #[a.v] w fun e w' => SP w w' e ⟨a.s, none, 0, 0⟩ 0 N := by
  have h2 := Lib.hid (two ha _ rfl)
  have HKn := Lib.hid (may_named HM.out)
  clear ha
  unfold SV.v
  go_enter Tryz.func17, Tryz.ntmps17
  go_wp2_with (first
    | (go_at_call 22; (with_reducible refine (rmay_is a _ h2.out.1.ok HM).mono ?_); rintro e w1 ⟨rfl, hb1⟩; have HB := Lib.hid (below_go h2.out.2.2 hb1); have HV1 := Lib.hid (h2.out.2.1.go hb1); obtain ⟨p0, p1, p2, p3, p4, p5, _⟩ := h2.out.1.go hb1; obtain ⟨⟨r0, r1, r2, r3, r4, r5, _⟩, hvb, f0, f1, f2, f3, f4⟩ := HV1.out; rw [hbb.out] at p1)
    | (go_at_call 11; (with_reducible refine (rone_at a.s _ N hN HKn).mono ?_); rintro e w3 ⟨r, rfl, ho, hC3, hc3, hn3, hb3⟩; have HB := Lib.hid (below_go HB.out hb3); obtain ⟨⟨r0, r1, r2, r3, r4, r5, _⟩, hvb, f0, f1, f2, f3, f4⟩ := HV1.out.go hb3))
  exact bodyPost_ret (v := .tuple #[(SV.nat a.s true none 0 0 []).v, .int .i64 0]) (by simp [results, Tryz.results17, go_sem, r0, r1, r2, r3, r4]) rfl
    (SP.mk' (SV.nat a.s true none 0 0 []) ((nat_ok (b := true) a.s (NV.nil w1)).set5 hvb _ _ _ _ _ _ _) rfl ⟨Norm.nil, fun _ => rfl⟩ (Nat.zero_le _) (below_5 HB.out (by omega) _ _ _ _ _))
set_option maxRecDepth 100000 in
set_option maxHeartbeats 2000000 in
theorem rstar_inf (a : SV) (w : World) (N : Nat) (hN : 2 ≤ N) (ha : a.ok w) (t1 : (a.s == 1) = true) (hbb : Hid (a.b = true)) (HM : Hid (a.may = 0)) :
    Calls Tryz.prog 17 #[a.v] w fun e w' => SP w w' e ⟨a.s, none, 0, 0⟩ 0 N := by
  have h2 := Lib.hid (two ha _ rfl)
  have HKn := Lib.hid (may_named HM.out)
  clear ha
  unfold SV.v
  go_enter Tryz.func17, Tryz.ntmps17
  go_wp2_with (first
    | (go_at_call 22; (with_reducible refine (rmay_is a _ h2.out.1.ok HM).mono ?_); rintro e w1 ⟨rfl, hb1⟩; have HB := Lib.hid (below_go h2.out.2.2 hb1); have HV1 := Lib.hid (h2.out.2.1.go hb1); obtain ⟨p0, p1, p2, p3, p4, p5, _⟩ := h2.out.1.go hb1; obtain ⟨⟨r0, r1, r2, r3, r4, r5, _⟩, hvb, f0, f1, f2, f3, f4⟩ := HV1.out; rw [hbb.out] at p1)
    | (go_at_call 11; (with_reducible refine (rone_at a.s _ N hN HKn).mono ?_); rintro e w3 ⟨r, rfl, ho, hC3, hc3, hn3, hb3⟩; have HB := Lib.hid (below_go HB.out hb3); obtain ⟨⟨r0, r1, r2, r3, r4, r5, _⟩, hvb, f0, f1, f2, f3, f4⟩ := HV1.out.go hb3))
  exact bodyPost_ret (v := .tuple #[(SV.nat a.s true none 0 0 []).v, .int .i64 0]) (by simp [results, Tryz.results17, go_sem, r0, r1, r2, r3, r4]) rfl
    (SP.mk' (SV.nat a.s true none 0 0 []) ((nat_ok (b := true) a.s (NV.nil w1)).set5 hvb _ _ _ _ _ _ _) rfl ⟨Norm.nil, fun _ => rfl⟩ (Nat.zero_le _) (below_5 HB.out (by omega) _ _ _ _ _))
theorem rstar_sv (a : SV) (w : World) (N : Nat) (hN : 2 ≤ N) (ha : a.ok w) :
    Calls Tryz.prog 17 #[a.v] w fun e w' => SP w w' e (if a.may = 0 then starC a.con else noneC) a.may N := by
  by_cases h : a.may = 0
  · rw [if_pos h, h]
    cases t1 : a.s == 1
    · rw [show starC a.con = oneC a.s by unfold starC; rw [show a.con.s = a.s from rfl, t1]; rfl]
      exact rstar_other a w N hN ha t1 (Lib.hid h)
    · have hs : a.s = 1 := by simpa using t1
      have hk := canon_of_may ha h (by rw [hs]; rfl)
      cases hb : a.b
      · by_cases hn : a.n = 0
        · have hx : a.xs = [] := List.eq_nil_of_length_eq_zero (by rw [ha.1.len, hn])
          rw [show starC a.con = oneC a.s by unfold starC; rw [show a.con.s = a.s from rfl, t1, show a.con.m = some 0 by show mean a.b a.xs = some 0; rw [hb, hx]; rfl]; rfl]
          exact rstar_zero a w N hN ha t1 (Lib.hid hb) (Lib.hid hn) (Lib.hid h)
        · have hx : decide (a.con.m = some 0) = false := by
            refine decide_eq_false ?_
            show ¬ mean a.b a.xs = some 0
            rw [hb]
            intro e
            injection e with e
            exact Na.val_nz ha.1.2.2.1 hk.1 (by rw [ha.1.len]; exact hn) e
          rw [show starC a.con = ⟨a.s, none, 0, 0⟩ by unfold starC; rw [show a.con.s = a.s from rfl, t1, hx]; rfl]
          exact rstar_big a w N hN ha t1 (Lib.hid hb) (by omega) (Lib.hid h)
      · rw [show starC a.con = ⟨a.s, none, 0, 0⟩ by unfold starC; rw [show a.con.s = a.s from rfl, t1, show decide (a.con.m = some 0) = false by refine decide_eq_false ?_; show ¬ mean a.b a.xs = some 0; rw [hb]; intro e; cases e]; rfl]
        exact rstar_inf a w N hN ha t1 (Lib.hid hb) (Lib.hid h)
  · rw [if_neg h]
    exact rstar_no a w N ha _ (by simpa using h) (Lib.hid rfl)
/-- Two values in their boxes. -/
theorem pair {w : World} {a b : SV} (ha : a.ok w) (hb : b.ok w) : ∀ W, W = (w.alloc (.cells #[.int .i64 a.s, .bool a.b, .slice a.A a.n a.c, .int .i64 a.lv, .float .f64 a.x] 27)).alloc (.cells #[.int .i64 b.s, .bool b.b, .slice b.A b.n b.c, .int .i64 b.lv, .float .f64 b.x] 27) → Five W w.heap.size a ∧ Five W (w.heap.size + 1) b ∧ Below w.heap.size w W := by
  intro W hW
  subst hW
  have B1 := five_new _ b (hb.al (.cells #[.int .i64 a.s, .bool a.b, .slice a.A a.n a.c, .int .i64 a.lv, .float .f64 a.x] 27))
  rw [show (w.alloc (.cells #[.int .i64 a.s, .bool a.b, .slice a.A a.n a.c, .int .i64 a.lv, .float .f64 a.x] 27)).heap.size = w.heap.size + 1 by simp] at B1
  exact ⟨(five_new w a ha).al _, B1, below_al (below_al (Below.refl _ _) _) _⟩
set_option maxRecDepth 100000 in
set_option maxHeartbeats 2000000 in
theorem ralike_bad1 (a b : SV) (w : World) (ha : a.ok w) (hb : b.ok w) (M : Int) (hM : (M != 0) = true) (Ma : Hid (a.may = M)) :
    Calls Tryz.prog 24 #[a.v, b.v] w fun e w' => e = .returned (.bool false) ∧ Below w.heap.size w w' := by
  have h2 := Lib.hid (pair ha hb _ rfl)
  have FA := Lib.hid h2.out.1
  have FB := Lib.hid h2.out.2.1
  have BB := Lib.hid h2.out.2.2
  clear ha hb h2
  unfold SV.v
  go_enter Tryz.func24, Tryz.ntmps24
  go_wp2_with (first
    | (go_at_call 22; (with_reducible refine (rmay_is a _ FA.out.ok Ma).mono ?_); rintro e w0 ⟨rfl, hbw0⟩; have BB := Lib.hid (below_go BB.out hbw0); have FA := Lib.hid (FA.out.go hbw0); have FB := Lib.hid (FB.out.go hbw0); obtain ⟨p0, p1, p2, p3, p4, p5, _⟩ := FA.out; obtain ⟨q0, q1, q2, q3, q4, q5, _⟩ := FB.out; have HX := Lib.hid FA.out.ok.1; have HY := Lib.hid FB.out.ok.1))
  go_ret
  exact ⟨rfl, BB.out⟩
set_option maxRecDepth 100000 in
set_option maxHeartbeats 2000000 in
theorem ralike_bad2 (a b : SV) (w : World) (ha : a.ok w) (hb : b.ok w) (M : Int) (hM : (M != 0) = true) (Ma : Hid (a.may = 0)) (Mb : Hid (b.may = M)) :
    Calls Tryz.prog 24 #[a.v, b.v] w fun e w' => e = .returned (.bool false) ∧ Below w.heap.size w w' := by
  have h2 := Lib.hid (pair ha hb _ rfl)
  have FA := Lib.hid h2.out.1
  have FB := Lib.hid h2.out.2.1
  have BB := Lib.hid h2.out.2.2
  clear ha hb h2
  unfold SV.v
  go_enter Tryz.func24, Tryz.ntmps24
  go_wp2_with (first
    | (go_at_call 22; (with_reducible refine (rmay_is a _ FA.out.ok Ma).mono ?_); rintro e w0 ⟨rfl, hbw0⟩; have BB := Lib.hid (below_go BB.out hbw0); have FA := Lib.hid (FA.out.go hbw0); have FB := Lib.hid (FB.out.go hbw0); obtain ⟨p0, p1, p2, p3, p4, p5, _⟩ := FA.out; obtain ⟨q0, q1, q2, q3, q4, q5, _⟩ := FB.out; have HX := Lib.hid FA.out.ok.1; have HY := Lib.hid FB.out.ok.1)
    | (go_at_call 22; (with_reducible refine (rmay_is b _ FB.out.ok Mb).mono ?_); rintro e w1 ⟨rfl, hbw1⟩; have BB := Lib.hid (below_go BB.out hbw1); have FA := Lib.hid (FA.out.go hbw1); have FB := Lib.hid (FB.out.go hbw1); obtain ⟨p0, p1, p2, p3, p4, p5, _⟩ := FA.out; obtain ⟨q0, q1, q2, q3, q4, q5, _⟩ := FB.out; have HX := Lib.hid FA.out.ok.1; have HY := Lib.hid FB.out.ok.1))
  go_ret
  exact ⟨rfl, BB.out⟩
set_option maxRecDepth 100000 in
set_option maxHeartbeats 2000000 in
theorem ralike_bad3 (a b : SV) (w : World) (ha : a.ok w) (hb : b.ok w) (Ma : Hid (a.may = 0)) (Mb : Hid (b.may = 0)) (tS : (a.s != b.s) = true) (tS2 : (a.s == b.s) = false) :
    Calls Tryz.prog 24 #[a.v, b.v] w fun e w' => e = .returned (.bool false) ∧ Below w.heap.size w w' := by
  have h2 := Lib.hid (pair ha hb _ rfl)
  have FA := Lib.hid h2.out.1
  have FB := Lib.hid h2.out.2.1
  have BB := Lib.hid h2.out.2.2
  have tS3 : ¬ a.s = b.s := by simpa using tS2
  clear ha hb h2
  unfold SV.v
  go_enter Tryz.func24, Tryz.ntmps24
  go_wp2_with (first
    | (go_at_call 22; (with_reducible refine (rmay_is a _ FA.out.ok Ma).mono ?_); rintro e w0 ⟨rfl, hbw0⟩; have BB := Lib.hid (below_go BB.out hbw0); have FA := Lib.hid (FA.out.go hbw0); have FB := Lib.hid (FB.out.go hbw0); obtain ⟨p0, p1, p2, p3, p4, p5, _⟩ := FA.out; obtain ⟨q0, q1, q2, q3, q4, q5, _⟩ := FB.out; have HX := Lib.hid FA.out.ok.1; have HY := Lib.hid FB.out.ok.1)
    | (go_at_call 22; (with_reducible refine (rmay_is b _ FB.out.ok Mb).mono ?_); rintro e w1 ⟨rfl, hbw1⟩; have BB := Lib.hid (below_go BB.out hbw1); have FA := Lib.hid (FA.out.go hbw1); have FB := Lib.hid (FB.out.go hbw1); obtain ⟨p0, p1, p2, p3, p4, p5, _⟩ := FA.out; obtain ⟨q0, q1, q2, q3, q4, q5, _⟩ := FB.out; have HX := Lib.hid FA.out.ok.1; have HY := Lib.hid FB.out.ok.1))
  go_ret
  exact ⟨rfl, BB.out⟩
set_option maxRecDepth 100000 in
set_option maxHeartbeats 2000000 in
theorem ralike_nat1 (a b : SV) (w : World) (ha : a.ok w) (hb : b.ok w) (Ma : Hid (a.may = 0)) (Mb : Hid (b.may = 0)) (hss : a.s = b.s) (hs : a.s = 1) (hna : a.n ≤ 1099511627776) (hnb : b.n ≤ 1099511627776) :
    Calls Tryz.prog 24 #[a.v, b.v] w fun e w' => e = .returned (.bool (decide (mean a.b a.xs = mean b.b b.xs))) ∧ Below w.heap.size w w' := by
  have h2 := Lib.hid (pair ha hb _ rfl)
  have FA := Lib.hid h2.out.1
  have FB := Lib.hid h2.out.2.1
  have BB := Lib.hid h2.out.2.2
  have tS : (a.s != b.s) = false := by rw [hss]; simp
  have tS2 : (a.s == b.s) = true := by rw [hss]; simp
  have t1 : (a.s == 1) = true := by rw [hs]; rfl
  obtain ⟨K, hK0⟩ : ∃ K, K = cmpM (mean a.b a.xs) (mean b.b b.xs) := ⟨_, rfl⟩
  have HK := Lib.hid hK0
  have HE := Lib.hid (show decide (mean a.b a.xs = mean b.b b.xs) = (K == 0) by rw [hK0, Bool.eq_iff_iff, decide_eq_true_iff, beq_iff_eq]; exact cmpM_eq0.symm)
  clear hK0 hs hss
  clear ha hb h2
  unfold SV.v
  go_enter Tryz.func24, Tryz.ntmps24
  go_wp2_with (first
    | (go_at_call 22; (with_reducible refine (rmay_is a _ FA.out.ok Ma).mono ?_); rintro e w0 ⟨rfl, hbw0⟩; have BB := Lib.hid (below_go BB.out hbw0); have FA := Lib.hid (FA.out.go hbw0); have FB := Lib.hid (FB.out.go hbw0); obtain ⟨p0, p1, p2, p3, p4, p5, _⟩ := FA.out; obtain ⟨q0, q1, q2, q3, q4, q5, _⟩ := FB.out; have HX := Lib.hid FA.out.ok.1; have HY := Lib.hid FB.out.ok.1)
    | (go_at_call 22; (with_reducible refine (rmay_is b _ FB.out.ok Mb).mono ?_); rintro e w1 ⟨rfl, hbw1⟩; have BB := Lib.hid (below_go BB.out hbw1); have FA := Lib.hid (FA.out.go hbw1); have FB := Lib.hid (FB.out.go hbw1); obtain ⟨p0, p1, p2, p3, p4, p5, _⟩ := FA.out; obtain ⟨q0, q1, q2, q3, q4, q5, _⟩ := FB.out; have HX := Lib.hid FA.out.ok.1; have HY := Lib.hid FB.out.ok.1)
    | (go_at_call 47; (with_reducible refine (Na.rcompare_any a.b b.b a.A b.A a.n b.n a.c b.c a.xs b.xs _ HX.out HY.out hna hnb).mono ?_); rw [← HK.out]; rintro e w2 ⟨rfl, hb2⟩; have BB := Lib.hid (below_go BB.out hb2)))
  go_ret
  exact ⟨by rw [HE.out]; rfl, BB.out⟩
set_option maxRecDepth 100000 in
set_option maxHeartbeats 2000000 in
theorem ralike_nat3 (a b : SV) (w : World) (ha : a.ok w) (hb : b.ok w) (Ma : Hid (a.may = 0)) (Mb : Hid (b.may = 0)) (hss : a.s = b.s) (hs : a.s = 3) (hna : a.n ≤ 1099511627776) (hnb : b.n ≤ 1099511627776) :
    Calls Tryz.prog 24 #[a.v, b.v] w fun e w' => e = .returned (.bool (decide (mean a.b a.xs = mean b.b b.xs))) ∧ Below w.heap.size w w' := by
  have h2 := Lib.hid (pair ha hb _ rfl)
  have FA := Lib.hid h2.out.1
  have FB := Lib.hid h2.out.2.1
  have BB := Lib.hid h2.out.2.2
  have tS : (a.s != b.s) = false := by rw [hss]; simp
  have tS2 : (a.s == b.s) = true := by rw [hss]; simp
  have t1 : (a.s == 1) = false := by rw [hs]; rfl
  have t3 : (a.s == 3) = true := by rw [hs]; rfl
  obtain ⟨K, hK0⟩ : ∃ K, K = cmpM (mean a.b a.xs) (mean b.b b.xs) := ⟨_, rfl⟩
  have HK := Lib.hid hK0
  have HE := Lib.hid (show decide (mean a.b a.xs = mean b.b b.xs) = (K == 0) by rw [hK0, Bool.eq_iff_iff, decide_eq_true_iff, beq_iff_eq]; exact cmpM_eq0.symm)
  clear hK0 hs hss
  clear ha hb h2
  unfold SV.v
  go_enter Tryz.func24, Tryz.ntmps24
  go_wp2_with (first
    | (go_at_call 22; (with_reducible refine (rmay_is a _ FA.out.ok Ma).mono ?_); rintro e w0 ⟨rfl, hbw0⟩; have BB := Lib.hid (below_go BB.out hbw0); have FA := Lib.hid (FA.out.go hbw0); have FB := Lib.hid (FB.out.go hbw0); obtain ⟨p0, p1, p2, p3, p4, p5, _⟩ := FA.out; obtain ⟨q0, q1, q2, q3, q4, q5, _⟩ := FB.out; have HX := Lib.hid FA.out.ok.1; have HY := Lib.hid FB.out.ok.1)
    | (go_at_call 22; (with_reducible refine (rmay_is b _ FB.out.ok Mb).mono ?_); rintro e w1 ⟨rfl, hbw1⟩; have BB := Lib.hid (below_go BB.out hbw1); have FA := Lib.hid (FA.out.go hbw1); have FB := Lib.hid (FB.out.go hbw1); obtain ⟨p0, p1, p2, p3, p4, p5, _⟩ := FA.out; obtain ⟨q0, q1, q2, q3, q4, q5, _⟩ := FB.out; have HX := Lib.hid FA.out.ok.1; have HY := Lib.hid FB.out.ok.1)
    | (go_at_call 47; (with_reducible refine (Na.rcompare_any a.b b.b a.A b.A a.n b.n a.c b.c a.xs b.xs _ HX.out HY.out hna hnb).mono ?_); rw [← HK.out]; rintro e w2 ⟨rfl, hb2⟩; have BB := Lib.hid (below_go BB.out hb2)))
  go_ret
  exact ⟨by rw [HE.out]; rfl, BB.out⟩
set_option maxRecDepth 100000 in
set_option maxHeartbeats 2000000 in
theorem ralike_lev2 (a b : SV) (w : World) (ha : a.ok w) (hb : b.ok w) (Ma : Hid (a.may = 0)) (Mb : Hid (b.may = 0)) (hss : a.s = b.s) (hs : a.s = 2) :
    Calls Tryz.prog 24 #[a.v, b.v] w fun e w' => e = .returned (.bool (a.lv == b.lv)) ∧ Below w.heap.size w w' := by
  have h2 := Lib.hid (pair ha hb _ rfl)
  have FA := Lib.hid h2.out.1
  have FB := Lib.hid h2.out.2.1
  have BB := Lib.hid h2.out.2.2
  have tS : (a.s != b.s) = false := by rw [hss]; simp
  have tS2 : (a.s == b.s) = true := by rw [hss]; simp
  have t1 : (a.s == 1) = false := by rw [hs]; rfl
  have t3 : (a.s == 3) = false := by rw [hs]; rfl
  have t2 : (a.s == 2) = true := by rw [hs]; rfl
  clear hs hss
  clear ha hb h2
  unfold SV.v
  go_enter Tryz.func24, Tryz.ntmps24
  go_wp2_with (first
    | (go_at_call 22; (with_reducible refine (rmay_is a _ FA.out.ok Ma).mono ?_); rintro e w0 ⟨rfl, hbw0⟩; have BB := Lib.hid (below_go BB.out hbw0); have FA := Lib.hid (FA.out.go hbw0); have FB := Lib.hid (FB.out.go hbw0); obtain ⟨p0, p1, p2, p3, p4, p5, _⟩ := FA.out; obtain ⟨q0, q1, q2, q3, q4, q5, _⟩ := FB.out; have HX := Lib.hid FA.out.ok.1; have HY := Lib.hid FB.out.ok.1)
    | (go_at_call 22; (with_reducible refine (rmay_is b _ FB.out.ok Mb).mono ?_); rintro e w1 ⟨rfl, hbw1⟩; have BB := Lib.hid (below_go BB.out hbw1); have FA := Lib.hid (FA.out.go hbw1); have FB := Lib.hid (FB.out.go hbw1); obtain ⟨p0, p1, p2, p3, p4, p5, _⟩ := FA.out; obtain ⟨q0, q1, q2, q3, q4, q5, _⟩ := FB.out; have HX := Lib.hid FA.out.ok.1; have HY := Lib.hid FB.out.ok.1))
  go_ret
  exact ⟨rfl, BB.out⟩
set_option maxRecDepth 100000 in
set_option maxHeartbeats 2000000 in
theorem ralike_lev4 (a b : SV) (w : World) (ha : a.ok w) (hb : b.ok w) (Ma : Hid (a.may = 0)) (Mb : Hid (b.may = 0)) (hss : a.s = b.s) (hs : a.s = 4) :
    Calls Tryz.prog 24 #[a.v, b.v] w fun e w' => e = .returned (.bool (a.lv == b.lv)) ∧ Below w.heap.size w w' := by
  have h2 := Lib.hid (pair ha hb _ rfl)
  have FA := Lib.hid h2.out.1
  have FB := Lib.hid h2.out.2.1
  have BB := Lib.hid h2.out.2.2
  have tS : (a.s != b.s) = false := by rw [hss]; simp
  have tS2 : (a.s == b.s) = true := by rw [hss]; simp
  have t1 : (a.s == 1) = false := by rw [hs]; rfl
  have t3 : (a.s == 3) = false := by rw [hs]; rfl
  have t2 : (a.s == 2) = false := by rw [hs]; rfl
  have t4 : (a.s == 4) = true := by rw [hs]; rfl
  clear hs hss
  clear ha hb h2
  unfold SV.v
  go_enter Tryz.func24, Tryz.ntmps24
  go_wp2_with (first
    | (go_at_call 22; (with_reducible refine (rmay_is a _ FA.out.ok Ma).mono ?_); rintro e w0 ⟨rfl, hbw0⟩; have BB := Lib.hid (below_go BB.out hbw0); have FA := Lib.hid (FA.out.go hbw0); have FB := Lib.hid (FB.out.go hbw0); obtain ⟨p0, p1, p2, p3, p4, p5, _⟩ := FA.out; obtain ⟨q0, q1, q2, q3, q4, q5, _⟩ := FB.out; have HX := Lib.hid FA.out.ok.1; have HY := Lib.hid FB.out.ok.1)
    | (go_at_call 22; (with_reducible refine (rmay_is b _ FB.out.ok Mb).mono ?_); rintro e w1 ⟨rfl, hbw1⟩; have BB := Lib.hid (below_go BB.out hbw1); have FA := Lib.hid (FA.out.go hbw1); have FB := Lib.hid (FB.out.go hbw1); obtain ⟨p0, p1, p2, p3, p4, p5, _⟩ := FA.out; obtain ⟨q0, q1, q2, q3, q4, q5, _⟩ := FB.out; have HX := Lib.hid FA.out.ok.1; have HY := Lib.hid FB.out.ok.1))
  go_ret
  exact ⟨rfl, BB.out⟩
set_option maxRecDepth 100000 in
set_option maxHeartbeats 2000000 in
theorem ralike_dbl5 (a b : SV) (w : World) (ha : a.ok w) (hb : b.ok w) (Ma : Hid (a.may = 0)) (Mb : Hid (b.may = 0)) (hss : a.s = b.s) (hs : a.s = 5) :
    Calls Tryz.prog 24 #[a.v, b.v] w fun e w' => e = .returned (.bool (same a.x b.x)) ∧ Below w.heap.size w w' := by
  have h2 := Lib.hid (pair ha hb _ rfl)
  have FA := Lib.hid h2.out.1
  have FB := Lib.hid h2.out.2.1
  have BB := Lib.hid h2.out.2.2
  have tS : (a.s != b.s) = false := by rw [hss]; simp
  have tS2 : (a.s == b.s) = true := by rw [hss]; simp
  have t1 : (a.s == 1) = false := by rw [hs]; rfl
  have t3 : (a.s == 3) = false := by rw [hs]; rfl
  have t2 : (a.s == 2) = false := by rw [hs]; rfl
  have t4 : (a.s == 4) = false := by rw [hs]; rfl
  have hS := Lib.hid (fun W => rsame_any a.x b.x W ha.2 hb.2)
  clear hs hss
  clear ha hb h2
  unfold SV.v
  go_enter Tryz.func24, Tryz.ntmps24
  go_wp2_with (first
    | (go_at_call 22; (with_reducible refine (rmay_is a _ FA.out.ok Ma).mono ?_); rintro e w0 ⟨rfl, hbw0⟩; have BB := Lib.hid (below_go BB.out hbw0); have FA := Lib.hid (FA.out.go hbw0); have FB := Lib.hid (FB.out.go hbw0); obtain ⟨p0, p1, p2, p3, p4, p5, _⟩ := FA.out; obtain ⟨q0, q1, q2, q3, q4, q5, _⟩ := FB.out; have HX := Lib.hid FA.out.ok.1; have HY := Lib.hid FB.out.ok.1)
    | (go_at_call 22; (with_reducible refine (rmay_is b _ FB.out.ok Mb).mono ?_); rintro e w1 ⟨rfl, hbw1⟩; have BB := Lib.hid (below_go BB.out hbw1); have FA := Lib.hid (FA.out.go hbw1); have FB := Lib.hid (FB.out.go hbw1); obtain ⟨p0, p1, p2, p3, p4, p5, _⟩ := FA.out; obtain ⟨q0, q1, q2, q3, q4, q5, _⟩ := FB.out; have HX := Lib.hid FA.out.ok.1; have HY := Lib.hid FB.out.ok.1)
    | (go_at_call 48; (with_reducible refine (hS.out _).mono ?_); rintro e w2 ⟨rfl, rfl⟩))
  go_ret
  exact ⟨rfl, BB.out⟩
set_option maxRecDepth 100000 in
set_option maxHeartbeats 2000000 in
theorem ralike_dbl6 (a b : SV) (w : World) (ha : a.ok w) (hb : b.ok w) (Ma : Hid (a.may = 0)) (Mb : Hid (b.may = 0)) (hss : a.s = b.s) (hs : a.s = 6) :
    Calls Tryz.prog 24 #[a.v, b.v] w fun e w' => e = .returned (.bool (same a.x b.x)) ∧ Below w.heap.size w w' := by
  have h2 := Lib.hid (pair ha hb _ rfl)
  have FA := Lib.hid h2.out.1
  have FB := Lib.hid h2.out.2.1
  have BB := Lib.hid h2.out.2.2
  have tS : (a.s != b.s) = false := by rw [hss]; simp
  have tS2 : (a.s == b.s) = true := by rw [hss]; simp
  have t1 : (a.s == 1) = false := by rw [hs]; rfl
  have t3 : (a.s == 3) = false := by rw [hs]; rfl
  have t2 : (a.s == 2) = false := by rw [hs]; rfl
  have t4 : (a.s == 4) = false := by rw [hs]; rfl
  have hS := Lib.hid (fun W => rsame_any a.x b.x W ha.2 hb.2)
  clear hs hss
  clear ha hb h2
  unfold SV.v
  go_enter Tryz.func24, Tryz.ntmps24
  go_wp2_with (first
    | (go_at_call 22; (with_reducible refine (rmay_is a _ FA.out.ok Ma).mono ?_); rintro e w0 ⟨rfl, hbw0⟩; have BB := Lib.hid (below_go BB.out hbw0); have FA := Lib.hid (FA.out.go hbw0); have FB := Lib.hid (FB.out.go hbw0); obtain ⟨p0, p1, p2, p3, p4, p5, _⟩ := FA.out; obtain ⟨q0, q1, q2, q3, q4, q5, _⟩ := FB.out; have HX := Lib.hid FA.out.ok.1; have HY := Lib.hid FB.out.ok.1)
    | (go_at_call 22; (with_reducible refine (rmay_is b _ FB.out.ok Mb).mono ?_); rintro e w1 ⟨rfl, hbw1⟩; have BB := Lib.hid (below_go BB.out hbw1); have FA := Lib.hid (FA.out.go hbw1); have FB := Lib.hid (FB.out.go hbw1); obtain ⟨p0, p1, p2, p3, p4, p5, _⟩ := FA.out; obtain ⟨q0, q1, q2, q3, q4, q5, _⟩ := FB.out; have HX := Lib.hid FA.out.ok.1; have HY := Lib.hid FB.out.ok.1)
    | (go_at_call 48; (with_reducible refine (hS.out _).mono ?_); rintro e w2 ⟨rfl, rfl⟩))
  go_ret
  exact ⟨rfl, BB.out⟩
theorem ralike_sv (a b : SV) (w : World) (ha : a.ok w) (hb : b.ok w) (hna : a.n ≤ 1099511627776) (hnb : b.n ≤ 1099511627776) :
    Calls Tryz.prog 24 #[a.v, b.v] w fun e w' => e = .returned (.bool (sameE a b)) ∧ Below w.heap.size w w' := by
  have hS : sameE a b = ((bothE a b == 0) && sameC a.con b.con) := rfl
  by_cases e1 : a.may = 0
  · by_cases e2 : b.may = 0
    · by_cases e3 : a.s = b.s
      · have h0 : bothE a b = 0 := bothE_zero.2 ⟨e1, e2, e3⟩
        rw [h0] at hS
        rw [hS]
        rcases known_cases (may_named e1) with s | s | s | s | s | s
        · rw [show ((0 : Int) == 0 && sameC a.con b.con) = decide (mean a.b a.xs = mean b.b b.xs) by unfold sameC; rw [show a.con.s = a.s from rfl, s]; rfl]
          exact ralike_nat1 a b w ha hb (Lib.hid e1) (Lib.hid e2) e3 s hna hnb
        · rw [show ((0 : Int) == 0 && sameC a.con b.con) = (a.lv == b.lv) by unfold sameC; rw [show a.con.s = a.s from rfl, s]; rfl]
          exact ralike_lev2 a b w ha hb (Lib.hid e1) (Lib.hid e2) e3 s
        · rw [show ((0 : Int) == 0 && sameC a.con b.con) = decide (mean a.b a.xs = mean b.b b.xs) by unfold sameC; rw [show a.con.s = a.s from rfl, s]; rfl]
          exact ralike_nat3 a b w ha hb (Lib.hid e1) (Lib.hid e2) e3 s hna hnb
        · rw [show ((0 : Int) == 0 && sameC a.con b.con) = (a.lv == b.lv) by unfold sameC; rw [show a.con.s = a.s from rfl, s]; rfl]
          exact ralike_lev4 a b w ha hb (Lib.hid e1) (Lib.hid e2) e3 s
        · rw [show ((0 : Int) == 0 && sameC a.con b.con) = same a.x b.x by unfold sameC; rw [show a.con.s = a.s from rfl, s]; rfl]
          exact ralike_dbl5 a b w ha hb (Lib.hid e1) (Lib.hid e2) e3 s
        · rw [show ((0 : Int) == 0 && sameC a.con b.con) = same a.x b.x by unfold sameC; rw [show a.con.s = a.s from rfl, s]; rfl]
          exact ralike_dbl6 a b w ha hb (Lib.hid e1) (Lib.hid e2) e3 s
      · rw [hS, show bothE a b = 9 by unfold bothE; rw [e1, e2]; simp [e3]]
        exact ralike_bad3 a b w ha hb (Lib.hid e1) (Lib.hid e2) (by simpa using e3) (by simpa using e3)
    · rw [hS, show (bothE a b == 0) = false by unfold bothE; rw [e1]; simp [e2]]
      exact ralike_bad2 a b w ha hb _ (by simpa using e2) (Lib.hid e1) (Lib.hid rfl)
  · rw [hS, show (bothE a b == 0) = false by unfold bothE; simp [e1]]
    exact ralike_bad1 a b w ha hb _ (by simpa using e1) (Lib.hid rfl)
end Go.Proofs.YtdkmmnehlmaebaaGreatDoor.Se
