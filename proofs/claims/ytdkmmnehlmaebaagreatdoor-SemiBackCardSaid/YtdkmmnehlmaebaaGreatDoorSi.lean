
/- Plus and Times of any two values; the walk of 'Star'. Conditions: the values can be read, of at most N digits. -/
import Derived.Test.YtdkmmnehlmaebaaGreatDoorSh
namespace Go.Proofs.YtdkmmnehlmaebaaGreatDoor.Se
open Go.RowKit Go.NT Go.FT Go.Lib Na

theorem plus_sv (a b : SV) (w : World) (N : Nat) (ha : a.ok w) (hb : b.ok w) (hN : max a.n b.n + 1 ≤ N) (hN2 : N ≤ 1099511627776) :
    Calls Tryz.prog 12 #[a.v, b.v] w fun e w' => SP w w' e (if bothE a b = 0 then plusC a.con b.con else noneC) (bothE a b) N := by
  by_cases h : bothE a b = 0
  · rw [if_pos h, h]
    have HM := Lib.hid h
    obtain ⟨m1, m2, m3⟩ := bothE_zero.1 h
    rcases known_cases (may_named m1) with s | s | s | s | s | s
    · exact plus_count a b w N ha hb s hN hN2 HM
    · exact plus_lev a b w N ha hb (.inl s) hN2 HM
    · exact plus_trop a b w N ha hb s (by omega) hN2 (canon_of_may ha m1 (by rw [s]; rfl)) (canon_of_may hb m2 (by rw [← m3, s]; rfl)) HM
    · exact plus_lev a b w N ha hb (.inr s) hN2 HM
    · have h1 := dbl_of_may m1 (by rw [s]; rfl) (by rw [s]; rfl)
      have h2 := dbl_of_may m2 (by rw [← m3, s]; rfl) (by rw [← m3, s]; rfl)
      rw [s] at h1
      rw [← m3, s] at h2
      exact plus_best a b w N ha hb s hN2 h1 h2 HM
    · have h1 := dbl_of_may m1 (by rw [s]; rfl) (by rw [s]; rfl)
      have h2 := dbl_of_may m2 (by rw [← m3, s]; rfl) (by rw [← m3, s]; rfl)
      rw [s] at h1
      rw [← m3, s] at h2
      exact plus_cost a b w N ha hb s hN2 h1 h2 HM
  · rw [if_neg h]
    exact plus_no a b w N ha hb _ (by simpa using h) (Lib.hid rfl)
theorem times_sv (a b : SV) (w : World) (N : Nat) (ha : a.ok w) (hb : b.ok w) (hN : a.n + b.n + 1 ≤ N) (hN2 : N ≤ 1099511627776) :
    Calls Tryz.prog 14 #[a.v, b.v] w fun e w' => SP w w' e (if bothE a b = 0 then timesC a.con b.con else noneC) (bothE a b) N := by
  by_cases h : bothE a b = 0
  · rw [if_pos h, h]
    have HM := Lib.hid h
    obtain ⟨m1, m2, m3⟩ := bothE_zero.1 h
    rcases known_cases (may_named m1) with s | s | s | s | s | s
    · exact times_count a b w N ha hb s (by omega) hN2 HM
    · exact times_lev a b w N ha hb (.inl s) hN2 HM
    · exact times_trop a b w N ha hb s (by omega) hN2 HM
    · exact times_lev a b w N ha hb (.inr s) hN2 HM
    · have h1 := dbl_of_may m1 (by rw [s]; rfl) (by rw [s]; rfl)
      have h2 := dbl_of_may m2 (by rw [← m3, s]; rfl) (by rw [← m3, s]; rfl)
      rw [s] at h1
      rw [← m3, s] at h2
      exact times_best a b w N ha hb s hN2 h1 h2 HM
    · have h1 := dbl_of_may m1 (by rw [s]; rfl) (by rw [s]; rfl)
      have h2 := dbl_of_may m2 (by rw [← m3, s]; rfl) (by rw [← m3, s]; rfl)
      rw [s] at h1
      rw [← m3, s] at h2
      exact times_cost a b w N ha hb s hN2 h1 h2 HM
  · rw [if_neg h]
    exact times_no a b w N ha hb _ (by simpa using h) (Lib.hid rfl)
def starC (c : Con) : Con := if c.s == 1 && !decide (c.m = some 0) then ⟨c.s, none, 0, 0⟩ else oneC c.s
theorem two {w : World} {a : SV} (ha : a.ok w) : ∀ W, W = (w.alloc (.cells #[.int .i64 a.s, .bool a.b, .slice a.A a.n a.c, .int .i64 a.lv, .float .f64 a.x] 27)).alloc (.cells #[.int .i64 0, .bool false, .slice none 0 0, .int .i64 0, .float .f64 0] 27) →
    Five W w.heap.size a ∧ Var W (w.heap.size + 1) (SV.lev 0 0) ∧ Below w.heap.size w W := by
  intro W hW
  subst hW
  have hA := five_new w a ha
  have hV := var_new (w.alloc (.cells #[.int .i64 a.s, .bool a.b, .slice a.A a.n a.c, .int .i64 a.lv, .float .f64 a.x] 27)) (SV.lev 0 0) (lev_ok _ _ _)
  have e1 : (w.alloc (.cells #[.int .i64 a.s, .bool a.b, .slice a.A a.n a.c, .int .i64 a.lv, .float .f64 a.x] 27)).heap.size = w.heap.size + 1 := by simp
  rw [e1] at hV
  exact ⟨hA.al _, hV, below_al (below_al (Below.refl _ _) _) _⟩
set_option maxRecDepth 100000 in
set_option maxHeartbeats 1000000 in
theorem star_no (a : SV) (w : World) (N : Nat) (ha : a.ok w) (k : Int) (hk : (k != 0) = true) (HM : Hid (a.may = k)) :
    Calls Tryz.prog 16 #[a.v] w fun e w' => SP w w' e noneC k N := by
  have h2 := Lib.hid (two ha _ rfl)
  clear ha
  unfold SV.v
  go_enter Tryz.func16, Tryz.ntmps16
  go_wp2_with (go_at_call 21; (with_reducible refine (may_sv a _ h2.out.1.ok).mono ?_); rw [HM.out]; rintro e w1 ⟨rfl, hb1⟩; have HB := Lib.hid (below_go h2.out.2.2 hb1); obtain ⟨⟨r0, r1, r2, r3, r4, r5, _⟩, hvb, f0, f1, f2, f3, f4⟩ := h2.out.2.1.go hb1)
  exact bodyPost_ret (v := .tuple #[(SV.lev 0 0).v, .int .i64 k]) (by simp [results, Tryz.results16, go_sem, SV.lev, r0, r1, r2, r3, r4]) rfl
    (SP.mk' (SV.lev 0 0) (lev_ok _ _ _) rfl (lev_canon _ _) (Nat.zero_le _) (below_5 HB.out (by omega) _ _ _ _ _))
set_option maxRecDepth 100000 in
set_option maxHeartbeats 1000000 in
theorem star_other (a : SV) (w : World) (N : Nat) (hN : 2 ≤ N) (ha : a.ok w) (t1 : (a.s == 1) = false) (HM : Hid (a.may = 0)) :
    Calls Tryz.prog 16 #[a.v] w fun e w' => SP w w' e (starC a.con) 0 N := by
  have h2 := Lib.hid (two ha _ rfl)
  have hC := Lib.hid (show starC a.con = oneC a.s by unfold starC; rw [show a.con.s = a.s from rfl, t1]; rfl)
  clear ha
  unfold SV.v
  go_enter Tryz.func16, Tryz.ntmps16
  go_wp2_with (first
    | (go_at_call 21; (with_reducible refine (may_sv a _ h2.out.1.ok).mono ?_); rw [HM.out]; rintro e w1 ⟨rfl, hb1⟩; have HB := Lib.hid (below_go h2.out.2.2 hb1); have HV1 := Lib.hid (h2.out.2.1.go hb1); obtain ⟨p0, p1, p2, p3, p4, p5, _⟩ := h2.out.1.go hb1)
    | (go_at_call 35; (with_reducible refine (whole_any a.s _ N hN).mono ?_); rintro e w3 ⟨r, rfl, ho, hC3, hc3, hn3, hb3⟩; obtain ⟨⟨r0, r1, r2, r3, r4, r5, _⟩, hvb, f0, f1, f2, f3, f4⟩ := HV1.out.go hb3))
  exact bodyPost_ret (v := .tuple #[r.v, .int .i64 0]) (by simp [results, Tryz.results16, go_sem, r0, r1, r2, r3, r4]) rfl
    (SP.mk' r (ho.set5 hvb _ _ _ _ _ _ _) (by rw [hC3.out, hC.out]) hc3.out hn3.out (below_5 (below_go HB.out hb3) (by omega) _ _ _ _ _))
theorem isZE_count {a : SV} (hs : a.s = 1) (h : a.may = 0) : isZE a = decide (a.con.m = some 0) := by
  unfold isZE sameC
  rw [h, show a.con.s = a.s from rfl, hs]
  rfl
set_option maxRecDepth 100000 in
set_option maxHeartbeats 1000000 in
theorem star_zero (a : SV) (w : World) (N : Nat) (hN : 2 ≤ N) (ha : a.ok w) (t1 : (a.s == 1) = true) (HZ : Hid (isZE a = true)) (hm : decide (a.con.m = some 0) = true) (HM : Hid (a.may = 0)) :
    Calls Tryz.prog 16 #[a.v] w fun e w' => SP w w' e (starC a.con) 0 N := by
  have h2 := Lib.hid (two ha _ rfl)
  have hC := Lib.hid (show starC a.con = oneC a.s by unfold starC; rw [show a.con.s = a.s from rfl, t1, hm]; rfl)
  clear ha hm
  unfold SV.v
  go_enter Tryz.func16, Tryz.ntmps16
  go_wp2_with (first
    | (go_at_call 21; (with_reducible refine (may_sv a _ h2.out.1.ok).mono ?_); rw [HM.out]; rintro e w1 ⟨rfl, hb1⟩; have HB := Lib.hid (below_go h2.out.2.2 hb1); have HV1 := Lib.hid (h2.out.2.1.go hb1); have HF1 := Lib.hid (h2.out.1.go hb1); obtain ⟨p0, p1, p2, p3, p4, p5, _⟩ := HF1.out)
    | (go_at_call 25; (with_reducible refine (isZero_any a _ HF1.out.ok).mono ?_); rw [HZ.out]; rintro e w2 ⟨rfl, hb2⟩; have HB := Lib.hid (below_go HB.out hb2); have HV1 := Lib.hid (HV1.out.go hb2); obtain ⟨p0, p1, p2, p3, p4, p5, _⟩ := HF1.out.go hb2)
    | (go_at_call 35; (with_reducible refine (whole_any a.s _ N hN).mono ?_); rintro e w3 ⟨r, rfl, ho, hC3, hc3, hn3, hb3⟩; obtain ⟨⟨r0, r1, r2, r3, r4, r5, _⟩, hvb, f0, f1, f2, f3, f4⟩ := HV1.out.go hb3))
  exact bodyPost_ret (v := .tuple #[r.v, .int .i64 0]) (by simp [results, Tryz.results16, go_sem, r0, r1, r2, r3, r4]) rfl
    (SP.mk' r (ho.set5 hvb _ _ _ _ _ _ _) (by rw [hC3.out, hC.out]) hc3.out hn3.out (below_5 (below_go HB.out hb3) (by omega) _ _ _ _ _))
set_option maxRecDepth 100000 in
set_option maxHeartbeats 1000000 in
theorem star_inf (a : SV) (w : World) (N : Nat) (ha : a.ok w) (t1 : (a.s == 1) = true) (HZ : Hid (isZE a = false)) (hm : decide (a.con.m = some 0) = false) (HM : Hid (a.may = 0)) :
    Calls Tryz.prog 16 #[a.v] w fun e w' => SP w w' e (starC a.con) 0 N := by
  have h2 := Lib.hid (two ha _ rfl)
  have hC := Lib.hid (show starC a.con = ⟨a.s, none, 0, 0⟩ by unfold starC; rw [show a.con.s = a.s from rfl, t1, hm]; rfl)
  clear ha hm
  unfold SV.v
  go_enter Tryz.func16, Tryz.ntmps16
  go_wp2_with (first
    | (go_at_call 21; (with_reducible refine (may_sv a _ h2.out.1.ok).mono ?_); rw [HM.out]; rintro e w1 ⟨rfl, hb1⟩; have HB := Lib.hid (below_go h2.out.2.2 hb1); have HV1 := Lib.hid (h2.out.2.1.go hb1); have HF1 := Lib.hid (h2.out.1.go hb1); obtain ⟨p0, p1, p2, p3, p4, p5, _⟩ := HF1.out)
    | (go_at_call 25; (with_reducible refine (isZero_any a _ HF1.out.ok).mono ?_); rw [HZ.out]; rintro e w2 ⟨rfl, hb2⟩; have HB := Lib.hid (below_go HB.out hb2); have HV1 := Lib.hid (HV1.out.go hb2); have HF2 := Lib.hid (HF1.out.go hb2); obtain ⟨p0, p1, p2, p3, p4, p5, _⟩ := HF2.out))
  have HG := Lib.hid (fun w3 (hb3 : Below w2.drew.heap.size w2.drew w3) => And.intro (HV1.out.drew.go hb3) (And.intro (HF2.out.drew.go hb3) (below_go (below_dr HB.out) hb3)))
  have HI := Lib.hid (Na.inf_any w2.drew)
  have hne := Nat.succ_ne_self w.heap.size
  go_region_held3 (fun w' => w'.cell? ⟨w.heap.size, 0, none⟩ = some (.int .i64 a.s)) (first | with_reducible exact p0 | with_reducible exact (far5 hne _ _ _ _ _ _).trans p0 | exact p0) ((go_at_call 45; (with_reducible refine HI.out.mono ?_); rintro e w3 ⟨rfl, hb3⟩; obtain ⟨⟨⟨r0, r1, r2, r3, r4, r5, _⟩, hvb, f0, f1, f2, f3, f4⟩, ⟨p0, p1, p2, p3, p4, p5, p6⟩, h1⟩ := HG.out w3 hb3))
  all_goals
    go_wp2_with fail
    exact bodyPost_ret (v := .tuple #[(SV.nat a.s true none 0 0 []).v, .int .i64 0]) (by simp [results, Tryz.results16, go_sem, r0, r1, r2, r3, r4]) rfl
      (SP.mk' (SV.nat a.s true none 0 0 []) ((nat_ok (b := true) a.s (NV.nil w3)).set5 hvb _ _ _ _ _ _ _) (by rw [hC.out]; rfl) ⟨Norm.nil, fun _ => rfl⟩ (Nat.zero_le _) (below_5 h1 (by omega) _ _ _ _ _))
theorem star_sv (a : SV) (w : World) (N : Nat) (hN : 2 ≤ N) (ha : a.ok w) :
    Calls Tryz.prog 16 #[a.v] w fun e w' => SP w w' e (if a.may = 0 then starC a.con else noneC) a.may N := by
  by_cases h : a.may = 0
  · rw [if_pos h, h]
    cases t1 : a.s == 1
    · exact star_other a w N hN ha t1 (Lib.hid h)
    · have hz := isZE_count (by simpa using t1) h
      cases hm : decide (a.con.m = some 0)
      · exact star_inf a w N ha t1 (Lib.hid (hz.trans hm)) hm (Lib.hid h)
      · exact star_zero a w N hN ha t1 (Lib.hid (hz.trans hm)) hm (Lib.hid h)
  · rw [if_neg h]
    exact star_no a w N ha _ (by simpa using h) (Lib.hid rfl)
end Go.Proofs.YtdkmmnehlmaebaaGreatDoor.Se
