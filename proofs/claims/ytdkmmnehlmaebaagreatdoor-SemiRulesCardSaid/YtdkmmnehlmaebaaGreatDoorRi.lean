/- The law SemiRules. Conditions: the table of powers is laid; the values can be read. -/
import Derived.Test.YtdkmmnehlmaebaaGreatDoorRh
namespace Go.Proofs.YtdkmmnehlmaebaaGreatDoor.Se
open Go.RowKit Go.NT Go.FT Go.FX Go.Lib Na

theorem zero_at (s : Int) (w : World) (h : Hid (knownB s = true)) : Calls Tryz.prog 8 #[.int .i64 s] w fun e w' => SP w w' e (zeroC s) 0 2 := by
  have := zero_any s w 2
  rwa [if_pos h.out, if_pos h.out] at this
theorem isz_is (a : SV) (w : World) (ha : a.ok w) {B : Bool} (h : Hid (isZE a = B)) : Calls Tryz.prog 25 #[a.v] w fun e w' => e = .returned (.bool B) ∧ Below w.heap.size w w' := by
  have := isZero_any a w ha
  rwa [h.out] at this
set_option maxRecDepth 100000 in
set_option maxHeartbeats 4000000 in
theorem rules_big (a b c : SV) (w : World) (ht : Tab w) (ha : a.ok w) (hb : b.ok w) (hc : c.ok w) (hs : (decide (a.n ≤ 60) && decide (b.n ≤ 60) && decide (c.n ≤ 60)) = false) :
    Calls Tryz.prog 4 #[a.v, b.v, c.v] w fun e w' => e = .returned (.bool true) ∧ Below w.heap.size w w' := by
  have hs' := Lib.hid hs
  have hna := ha.1.2.2.2
  have hnb := hb.1.2.2.2
  have hnc := hc.1.2.2.2
  have h2' := Lib.hid (boxed3 ha hb hc ht _ rfl)
  have Fa := Lib.hid h2'.out.1
  have Fb := Lib.hid h2'.out.2.1
  have Fc := Lib.hid h2'.out.2.2.1
  have BB := Lib.hid h2'.out.2.2.2.1
  have TT := Lib.hid h2'.out.2.2.2.2
  clear hs ha hb hc ht h2'
  unfold SV.v
  go_enter Tryz.func4, Tryz.ntmps4
  go_wp2_with (first
    | (go_at_call 6; (with_reducible refine (small3 _ a b c _ false hs' hna hnb hnc (by go_simp) (by go_simp) (by go_simp)).mono ?_); rintro e w1 ⟨rfl, rfl⟩)
    | (go_at_call 7; (with_reducible refine (awake_any _ TT.out).mono ?_); rintro e wz ⟨rfl, hbz⟩))
  go_ret
  exact ⟨rfl, below_go BB.out hbz⟩
set_option maxRecDepth 100000 in
set_option maxHeartbeats 4000000 in
theorem rules_bad1 (a b c : SV) (w : World) (ht : Tab w) (ha : a.ok w) (hb : b.ok w) (hc : c.ok w) (hs : (decide (a.n ≤ 60) && decide (b.n ≤ 60) && decide (c.n ≤ 60)) = true) (M : Int) (hM : (M != 0) = true) (hM2 : (M == 0) = false) (Ma : Hid (a.may = M)) :
    Calls Tryz.prog 4 #[a.v, b.v, c.v] w fun e w' => e = .returned (.bool true) ∧ Below w.heap.size w w' := by
  have hs' := Lib.hid hs
  have hna := ha.1.2.2.2
  have hnb := hb.1.2.2.2
  have hnc := hc.1.2.2.2
  have h2' := Lib.hid (boxed3 ha hb hc ht _ rfl)
  have Fa := Lib.hid h2'.out.1
  have Fb := Lib.hid h2'.out.2.1
  have Fc := Lib.hid h2'.out.2.2.1
  have BB := Lib.hid h2'.out.2.2.2.1
  have TT := Lib.hid h2'.out.2.2.2.2
  clear hs ha hb hc ht h2'
  obtain ⟨a0, a1, a2, a3, a4, a5, _⟩ := Fa.out
  obtain ⟨b0, b1, b2, b3, b4, b5, _⟩ := Fb.out
  obtain ⟨c0, c1, c2, c3, c4, c5, _⟩ := Fc.out
  unfold SV.v
  go_enter Tryz.func4, Tryz.ntmps4
  go_wp2_with (first
    | (go_at_call 6; (with_reducible refine (small3 _ a b c _ true hs' hna hnb hnc (by go_simp) (by go_simp) (by go_simp)).mono ?_); rintro e w1 ⟨rfl, rfl⟩)
    | (go_at_call 21; (with_reducible refine (may_is a _ Fa.out.ok Ma).mono ?_); rintro e wma ⟨rfl, hbwma⟩; clear a0 a1 a2 a3 a4 a5 b0 b1 b2 b3 b4 b5 c0 c1 c2 c3 c4 c5; have Fa := Lib.hid (Fa.out.go hbwma); have Fb := Lib.hid (Fb.out.go hbwma); have Fc := Lib.hid (Fc.out.go hbwma); have BB := Lib.hid (below_go BB.out hbwma); have TT := Lib.hid (TT.out.below hbwma); obtain ⟨a0, a1, a2, a3, a4, a5, _⟩ := Fa.out; obtain ⟨b0, b1, b2, b3, b4, b5, _⟩ := Fb.out; obtain ⟨c0, c1, c2, c3, c4, c5, _⟩ := Fc.out)
    | (go_at_call 7; (with_reducible refine (awake_any _ TT.out).mono ?_); rintro e wz ⟨rfl, hbz⟩))
  go_ret
  exact ⟨rfl, below_go BB.out hbz⟩
set_option maxRecDepth 100000 in
set_option maxHeartbeats 4000000 in
theorem rules_bad2 (a b c : SV) (w : World) (ht : Tab w) (ha : a.ok w) (hb : b.ok w) (hc : c.ok w) (hs : (decide (a.n ≤ 60) && decide (b.n ≤ 60) && decide (c.n ≤ 60)) = true) (M : Int) (hM : (M != 0) = true) (hM2 : (M == 0) = false) (Ma : Hid (a.may = 0)) (Mb : Hid (b.may = M)) :
    Calls Tryz.prog 4 #[a.v, b.v, c.v] w fun e w' => e = .returned (.bool true) ∧ Below w.heap.size w w' := by
  have hs' := Lib.hid hs
  have hna := ha.1.2.2.2
  have hnb := hb.1.2.2.2
  have hnc := hc.1.2.2.2
  have h2' := Lib.hid (boxed3 ha hb hc ht _ rfl)
  have Fa := Lib.hid h2'.out.1
  have Fb := Lib.hid h2'.out.2.1
  have Fc := Lib.hid h2'.out.2.2.1
  have BB := Lib.hid h2'.out.2.2.2.1
  have TT := Lib.hid h2'.out.2.2.2.2
  clear hs ha hb hc ht h2'
  obtain ⟨a0, a1, a2, a3, a4, a5, _⟩ := Fa.out
  obtain ⟨b0, b1, b2, b3, b4, b5, _⟩ := Fb.out
  obtain ⟨c0, c1, c2, c3, c4, c5, _⟩ := Fc.out
  unfold SV.v
  go_enter Tryz.func4, Tryz.ntmps4
  go_wp2_with (first
    | (go_at_call 6; (with_reducible refine (small3 _ a b c _ true hs' hna hnb hnc (by go_simp) (by go_simp) (by go_simp)).mono ?_); rintro e w1 ⟨rfl, rfl⟩)
    | (go_at_call 21; (with_reducible refine (may_is a _ Fa.out.ok Ma).mono ?_); rintro e wma ⟨rfl, hbwma⟩; clear a0 a1 a2 a3 a4 a5 b0 b1 b2 b3 b4 b5 c0 c1 c2 c3 c4 c5; have Fa := Lib.hid (Fa.out.go hbwma); have Fb := Lib.hid (Fb.out.go hbwma); have Fc := Lib.hid (Fc.out.go hbwma); have BB := Lib.hid (below_go BB.out hbwma); have TT := Lib.hid (TT.out.below hbwma); obtain ⟨a0, a1, a2, a3, a4, a5, _⟩ := Fa.out; obtain ⟨b0, b1, b2, b3, b4, b5, _⟩ := Fb.out; obtain ⟨c0, c1, c2, c3, c4, c5, _⟩ := Fc.out)
    | (go_at_call 21; (with_reducible refine (may_is b _ Fb.out.ok Mb).mono ?_); rintro e wmb ⟨rfl, hbwmb⟩; clear a0 a1 a2 a3 a4 a5 b0 b1 b2 b3 b4 b5 c0 c1 c2 c3 c4 c5; have Fa := Lib.hid (Fa.out.go hbwmb); have Fb := Lib.hid (Fb.out.go hbwmb); have Fc := Lib.hid (Fc.out.go hbwmb); have BB := Lib.hid (below_go BB.out hbwmb); have TT := Lib.hid (TT.out.below hbwmb); obtain ⟨a0, a1, a2, a3, a4, a5, _⟩ := Fa.out; obtain ⟨b0, b1, b2, b3, b4, b5, _⟩ := Fb.out; obtain ⟨c0, c1, c2, c3, c4, c5, _⟩ := Fc.out)
    | (go_at_call 7; (with_reducible refine (awake_any _ TT.out).mono ?_); rintro e wz ⟨rfl, hbz⟩))
  go_ret
  exact ⟨rfl, below_go BB.out hbz⟩
set_option maxRecDepth 100000 in
set_option maxHeartbeats 4000000 in
theorem rules_bad3 (a b c : SV) (w : World) (ht : Tab w) (ha : a.ok w) (hb : b.ok w) (hc : c.ok w) (hs : (decide (a.n ≤ 60) && decide (b.n ≤ 60) && decide (c.n ≤ 60)) = true) (M : Int) (hM : (M != 0) = true) (hM2 : (M == 0) = false) (Ma : Hid (a.may = 0)) (Mb : Hid (b.may = 0)) (Mc : Hid (c.may = M)) :
    Calls Tryz.prog 4 #[a.v, b.v, c.v] w fun e w' => e = .returned (.bool true) ∧ Below w.heap.size w w' := by
  have hs' := Lib.hid hs
  have hna := ha.1.2.2.2
  have hnb := hb.1.2.2.2
  have hnc := hc.1.2.2.2
  have h2' := Lib.hid (boxed3 ha hb hc ht _ rfl)
  have Fa := Lib.hid h2'.out.1
  have Fb := Lib.hid h2'.out.2.1
  have Fc := Lib.hid h2'.out.2.2.1
  have BB := Lib.hid h2'.out.2.2.2.1
  have TT := Lib.hid h2'.out.2.2.2.2
  clear hs ha hb hc ht h2'
  obtain ⟨a0, a1, a2, a3, a4, a5, _⟩ := Fa.out
  obtain ⟨b0, b1, b2, b3, b4, b5, _⟩ := Fb.out
  obtain ⟨c0, c1, c2, c3, c4, c5, _⟩ := Fc.out
  unfold SV.v
  go_enter Tryz.func4, Tryz.ntmps4
  go_wp2_with (first
    | (go_at_call 6; (with_reducible refine (small3 _ a b c _ true hs' hna hnb hnc (by go_simp) (by go_simp) (by go_simp)).mono ?_); rintro e w1 ⟨rfl, rfl⟩)
    | (go_at_call 21; (with_reducible refine (may_is a _ Fa.out.ok Ma).mono ?_); rintro e wma ⟨rfl, hbwma⟩; clear a0 a1 a2 a3 a4 a5 b0 b1 b2 b3 b4 b5 c0 c1 c2 c3 c4 c5; have Fa := Lib.hid (Fa.out.go hbwma); have Fb := Lib.hid (Fb.out.go hbwma); have Fc := Lib.hid (Fc.out.go hbwma); have BB := Lib.hid (below_go BB.out hbwma); have TT := Lib.hid (TT.out.below hbwma); obtain ⟨a0, a1, a2, a3, a4, a5, _⟩ := Fa.out; obtain ⟨b0, b1, b2, b3, b4, b5, _⟩ := Fb.out; obtain ⟨c0, c1, c2, c3, c4, c5, _⟩ := Fc.out)
    | (go_at_call 21; (with_reducible refine (may_is b _ Fb.out.ok Mb).mono ?_); rintro e wmb ⟨rfl, hbwmb⟩; clear a0 a1 a2 a3 a4 a5 b0 b1 b2 b3 b4 b5 c0 c1 c2 c3 c4 c5; have Fa := Lib.hid (Fa.out.go hbwmb); have Fb := Lib.hid (Fb.out.go hbwmb); have Fc := Lib.hid (Fc.out.go hbwmb); have BB := Lib.hid (below_go BB.out hbwmb); have TT := Lib.hid (TT.out.below hbwmb); obtain ⟨a0, a1, a2, a3, a4, a5, _⟩ := Fa.out; obtain ⟨b0, b1, b2, b3, b4, b5, _⟩ := Fb.out; obtain ⟨c0, c1, c2, c3, c4, c5, _⟩ := Fc.out)
    | (go_at_call 21; (with_reducible refine (may_is c _ Fc.out.ok Mc).mono ?_); rintro e wmc ⟨rfl, hbwmc⟩; clear a0 a1 a2 a3 a4 a5 b0 b1 b2 b3 b4 b5 c0 c1 c2 c3 c4 c5; have Fa := Lib.hid (Fa.out.go hbwmc); have Fb := Lib.hid (Fb.out.go hbwmc); have Fc := Lib.hid (Fc.out.go hbwmc); have BB := Lib.hid (below_go BB.out hbwmc); have TT := Lib.hid (TT.out.below hbwmc); obtain ⟨a0, a1, a2, a3, a4, a5, _⟩ := Fa.out; obtain ⟨b0, b1, b2, b3, b4, b5, _⟩ := Fb.out; obtain ⟨c0, c1, c2, c3, c4, c5, _⟩ := Fc.out)
    | (go_at_call 7; (with_reducible refine (awake_any _ TT.out).mono ?_); rintro e wz ⟨rfl, hbz⟩))
  go_ret
  exact ⟨rfl, below_go BB.out hbz⟩
set_option maxRecDepth 100000 in
set_option maxHeartbeats 4000000 in
theorem rules_bad4 (a b c : SV) (w : World) (ht : Tab w) (ha : a.ok w) (hb : b.ok w) (hc : c.ok w) (hs : (decide (a.n ≤ 60) && decide (b.n ≤ 60) && decide (c.n ≤ 60)) = true) (Ma : Hid (a.may = 0)) (Mb : Hid (b.may = 0)) (Mc : Hid (c.may = 0)) (t1 : ¬ a.s = b.s) :
    Calls Tryz.prog 4 #[a.v, b.v, c.v] w fun e w' => e = .returned (.bool true) ∧ Below w.heap.size w w' := by
  have hs' := Lib.hid hs
  have hna := ha.1.2.2.2
  have hnb := hb.1.2.2.2
  have hnc := hc.1.2.2.2
  have h2' := Lib.hid (boxed3 ha hb hc ht _ rfl)
  have Fa := Lib.hid h2'.out.1
  have Fb := Lib.hid h2'.out.2.1
  have Fc := Lib.hid h2'.out.2.2.1
  have BB := Lib.hid h2'.out.2.2.2.1
  have TT := Lib.hid h2'.out.2.2.2.2
  have t1b : (a.s != b.s) = true := by simpa using t1
  clear hs ha hb hc ht h2'
  obtain ⟨a0, a1, a2, a3, a4, a5, _⟩ := Fa.out
  obtain ⟨b0, b1, b2, b3, b4, b5, _⟩ := Fb.out
  obtain ⟨c0, c1, c2, c3, c4, c5, _⟩ := Fc.out
  unfold SV.v
  go_enter Tryz.func4, Tryz.ntmps4
  go_wp2_with (first
    | (go_at_call 6; (with_reducible refine (small3 _ a b c _ true hs' hna hnb hnc (by go_simp) (by go_simp) (by go_simp)).mono ?_); rintro e w1 ⟨rfl, rfl⟩)
    | (go_at_call 21; (with_reducible refine (may_is a _ Fa.out.ok Ma).mono ?_); rintro e wma ⟨rfl, hbwma⟩; clear a0 a1 a2 a3 a4 a5 b0 b1 b2 b3 b4 b5 c0 c1 c2 c3 c4 c5; have Fa := Lib.hid (Fa.out.go hbwma); have Fb := Lib.hid (Fb.out.go hbwma); have Fc := Lib.hid (Fc.out.go hbwma); have BB := Lib.hid (below_go BB.out hbwma); have TT := Lib.hid (TT.out.below hbwma); obtain ⟨a0, a1, a2, a3, a4, a5, _⟩ := Fa.out; obtain ⟨b0, b1, b2, b3, b4, b5, _⟩ := Fb.out; obtain ⟨c0, c1, c2, c3, c4, c5, _⟩ := Fc.out)
    | (go_at_call 21; (with_reducible refine (may_is b _ Fb.out.ok Mb).mono ?_); rintro e wmb ⟨rfl, hbwmb⟩; clear a0 a1 a2 a3 a4 a5 b0 b1 b2 b3 b4 b5 c0 c1 c2 c3 c4 c5; have Fa := Lib.hid (Fa.out.go hbwmb); have Fb := Lib.hid (Fb.out.go hbwmb); have Fc := Lib.hid (Fc.out.go hbwmb); have BB := Lib.hid (below_go BB.out hbwmb); have TT := Lib.hid (TT.out.below hbwmb); obtain ⟨a0, a1, a2, a3, a4, a5, _⟩ := Fa.out; obtain ⟨b0, b1, b2, b3, b4, b5, _⟩ := Fb.out; obtain ⟨c0, c1, c2, c3, c4, c5, _⟩ := Fc.out)
    | (go_at_call 21; (with_reducible refine (may_is c _ Fc.out.ok Mc).mono ?_); rintro e wmc ⟨rfl, hbwmc⟩; clear a0 a1 a2 a3 a4 a5 b0 b1 b2 b3 b4 b5 c0 c1 c2 c3 c4 c5; have Fa := Lib.hid (Fa.out.go hbwmc); have Fb := Lib.hid (Fb.out.go hbwmc); have Fc := Lib.hid (Fc.out.go hbwmc); have BB := Lib.hid (below_go BB.out hbwmc); have TT := Lib.hid (TT.out.below hbwmc); obtain ⟨a0, a1, a2, a3, a4, a5, _⟩ := Fa.out; obtain ⟨b0, b1, b2, b3, b4, b5, _⟩ := Fb.out; obtain ⟨c0, c1, c2, c3, c4, c5, _⟩ := Fc.out)
    | (go_at_call 7; (with_reducible refine (awake_any _ TT.out).mono ?_); rintro e wz ⟨rfl, hbz⟩))
  go_ret
  exact ⟨rfl, below_go BB.out hbz⟩
set_option maxRecDepth 100000 in
set_option maxHeartbeats 4000000 in
theorem rules_bad5 (a b c : SV) (w : World) (ht : Tab w) (ha : a.ok w) (hb : b.ok w) (hc : c.ok w) (hs : (decide (a.n ≤ 60) && decide (b.n ≤ 60) && decide (c.n ≤ 60)) = true) (Ma : Hid (a.may = 0)) (Mb : Hid (b.may = 0)) (Mc : Hid (c.may = 0)) (t1 : a.s = b.s) (t2 : ¬ a.s = c.s) :
    Calls Tryz.prog 4 #[a.v, b.v, c.v] w fun e w' => e = .returned (.bool true) ∧ Below w.heap.size w w' := by
  have hs' := Lib.hid hs
  have hna := ha.1.2.2.2
  have hnb := hb.1.2.2.2
  have hnc := hc.1.2.2.2
  have h2' := Lib.hid (boxed3 ha hb hc ht _ rfl)
  have Fa := Lib.hid h2'.out.1
  have Fb := Lib.hid h2'.out.2.1
  have Fc := Lib.hid h2'.out.2.2.1
  have BB := Lib.hid h2'.out.2.2.2.1
  have TT := Lib.hid h2'.out.2.2.2.2
  have t1b : (a.s != b.s) = false := by rw [t1]; simp
  have t2b : (a.s != c.s) = true := by simpa using t2
  have t1' := Lib.hid t1
  clear t1
  clear hs ha hb hc ht h2'
  obtain ⟨a0, a1, a2, a3, a4, a5, _⟩ := Fa.out
  obtain ⟨b0, b1, b2, b3, b4, b5, _⟩ := Fb.out
  obtain ⟨c0, c1, c2, c3, c4, c5, _⟩ := Fc.out
  unfold SV.v
  go_enter Tryz.func4, Tryz.ntmps4
  go_wp2_with (first
    | (go_at_call 6; (with_reducible refine (small3 _ a b c _ true hs' hna hnb hnc (by go_simp) (by go_simp) (by go_simp)).mono ?_); rintro e w1 ⟨rfl, rfl⟩)
    | (go_at_call 21; (with_reducible refine (may_is a _ Fa.out.ok Ma).mono ?_); rintro e wma ⟨rfl, hbwma⟩; clear a0 a1 a2 a3 a4 a5 b0 b1 b2 b3 b4 b5 c0 c1 c2 c3 c4 c5; have Fa := Lib.hid (Fa.out.go hbwma); have Fb := Lib.hid (Fb.out.go hbwma); have Fc := Lib.hid (Fc.out.go hbwma); have BB := Lib.hid (below_go BB.out hbwma); have TT := Lib.hid (TT.out.below hbwma); obtain ⟨a0, a1, a2, a3, a4, a5, _⟩ := Fa.out; obtain ⟨b0, b1, b2, b3, b4, b5, _⟩ := Fb.out; obtain ⟨c0, c1, c2, c3, c4, c5, _⟩ := Fc.out)
    | (go_at_call 21; (with_reducible refine (may_is b _ Fb.out.ok Mb).mono ?_); rintro e wmb ⟨rfl, hbwmb⟩; clear a0 a1 a2 a3 a4 a5 b0 b1 b2 b3 b4 b5 c0 c1 c2 c3 c4 c5; have Fa := Lib.hid (Fa.out.go hbwmb); have Fb := Lib.hid (Fb.out.go hbwmb); have Fc := Lib.hid (Fc.out.go hbwmb); have BB := Lib.hid (below_go BB.out hbwmb); have TT := Lib.hid (TT.out.below hbwmb); obtain ⟨a0, a1, a2, a3, a4, a5, _⟩ := Fa.out; obtain ⟨b0, b1, b2, b3, b4, b5, _⟩ := Fb.out; obtain ⟨c0, c1, c2, c3, c4, c5, _⟩ := Fc.out)
    | (go_at_call 21; (with_reducible refine (may_is c _ Fc.out.ok Mc).mono ?_); rintro e wmc ⟨rfl, hbwmc⟩; clear a0 a1 a2 a3 a4 a5 b0 b1 b2 b3 b4 b5 c0 c1 c2 c3 c4 c5; have Fa := Lib.hid (Fa.out.go hbwmc); have Fb := Lib.hid (Fb.out.go hbwmc); have Fc := Lib.hid (Fc.out.go hbwmc); have BB := Lib.hid (below_go BB.out hbwmc); have TT := Lib.hid (TT.out.below hbwmc); obtain ⟨a0, a1, a2, a3, a4, a5, _⟩ := Fa.out; obtain ⟨b0, b1, b2, b3, b4, b5, _⟩ := Fb.out; obtain ⟨c0, c1, c2, c3, c4, c5, _⟩ := Fc.out)
    | (go_at_call 7; (with_reducible refine (awake_any _ TT.out).mono ?_); rintro e wz ⟨rfl, hbz⟩))
  go_ret
  exact ⟨rfl, below_go BB.out hbz⟩
theorem exact_split (a b c : SV) (w : World) (Q : Ending → World → Prop) (ma : Hid (a.may = 0)) (mb : Hid (b.may = 0)) (mc : Hid (c.may = 0)) (h1 : Hid (b.s = a.s)) (h2 : Hid (c.s = a.s))
    (hn : ∀ w', Below w.heap.size w w' → Q (.returned (.bool false)) w') (hy : ∀ w', Below w.heap.size w w' → Hid (Ex a.con b.con c.con) → Q (.returned (.bool true)) w') :
    Calls Tryz.prog 27 #[a.v, b.v, c.v] w Q := by
  refine (exact_any a b c w ma mb mc h1 h2).mono ?_
  rintro e w' ⟨B, rfl, hx, hb⟩
  cases B
  · exact hn w' hb
  · exact hy w' hb (Lib.hid (hx.out rfl))
set_option linter.unusedSimpArgs false in
set_option maxRecDepth 100000 in
set_option maxHeartbeats 16000000 in
theorem rules_good (a b c : SV) (w : World) (ht : Tab w) (ha : a.ok w) (hb : b.ok w) (hc : c.ok w) (hs : (decide (a.n ≤ 60) && decide (b.n ≤ 60) && decide (c.n ≤ 60)) = true) (Ma : Hid (a.may = 0)) (Mb : Hid (b.may = 0)) (Mc : Hid (c.may = 0)) (hab : Hid (b.s = a.s)) (hac : Hid (c.s = a.s)) :
    Calls Tryz.prog 4 #[a.v, b.v, c.v] w fun e w' => e = .returned (.bool true) ∧ Below w.heap.size w w' := by
  have hs' := Lib.hid hs
  have hna := ha.1.2.2.2
  have hnb := hb.1.2.2.2
  have hnc := hc.1.2.2.2
  have h2' := Lib.hid (boxed3 ha hb hc ht _ rfl)
  have Fa := Lib.hid h2'.out.1
  have Fb := Lib.hid h2'.out.2.1
  have Fc := Lib.hid h2'.out.2.2.1
  have BB := Lib.hid h2'.out.2.2.2.1
  have TT := Lib.hid h2'.out.2.2.2.2
  have tb : (a.s != b.s) = false := by rw [hab.out]; simp
  have tc : (a.s != c.s) = false := by rw [hac.out]; simp
  have hN3 := hs
  rw [Bool.and_eq_true, Bool.and_eq_true, decide_eq_true_iff, decide_eq_true_iff, decide_eq_true_iff] at hN3
  have a_n := Lib.hid hN3.1.1
  have b_n := Lib.hid hN3.1.2
  have c_n := Lib.hid hN3.2
  have HKn := Lib.hid (may_named Ma.out)
  have Va := Lib.hid (val_of_may ha Ma.out)
  have Vb := Lib.hid (val_of_may hb Mb.out)
  have Vc := Lib.hid (val_of_may hc Mc.out)
  clear hN3
  clear hs ha hb hc ht h2'
  obtain ⟨a0, a1, a2, a3, a4, a5, _⟩ := Fa.out
  obtain ⟨b0, b1, b2, b3, b4, b5, _⟩ := Fb.out
  obtain ⟨c0, c1, c2, c3, c4, c5, _⟩ := Fc.out
  unfold SV.v
  go_enter Tryz.func4, Tryz.ntmps4
  go_wp2_with (first
    | (go_at_call 6; (with_reducible refine (small3 _ a b c _ true hs' hna hnb hnc (by go_simp) (by go_simp) (by go_simp)).mono ?_); rintro e w1 ⟨rfl, rfl⟩)
    | (go_at_call 21; (with_reducible refine (may_is a _ Fa.out.ok Ma).mono ?_); rintro e wma ⟨rfl, hbwma⟩; clear a0 a1 a2 a3 a4 a5 b0 b1 b2 b3 b4 b5 c0 c1 c2 c3 c4 c5; have Fa := Lib.hid (Fa.out.go hbwma); have Fb := Lib.hid (Fb.out.go hbwma); have Fc := Lib.hid (Fc.out.go hbwma); have BB := Lib.hid (below_go BB.out hbwma); have TT := Lib.hid (TT.out.below hbwma); obtain ⟨a0, a1, a2, a3, a4, a5, _⟩ := Fa.out; obtain ⟨b0, b1, b2, b3, b4, b5, _⟩ := Fb.out; obtain ⟨c0, c1, c2, c3, c4, c5, _⟩ := Fc.out)
    | (go_at_call 21; (with_reducible refine (may_is b _ Fb.out.ok Mb).mono ?_); rintro e wmb ⟨rfl, hbwmb⟩; clear a0 a1 a2 a3 a4 a5 b0 b1 b2 b3 b4 b5 c0 c1 c2 c3 c4 c5; have Fa := Lib.hid (Fa.out.go hbwmb); have Fb := Lib.hid (Fb.out.go hbwmb); have Fc := Lib.hid (Fc.out.go hbwmb); have BB := Lib.hid (below_go BB.out hbwmb); have TT := Lib.hid (TT.out.below hbwmb); obtain ⟨a0, a1, a2, a3, a4, a5, _⟩ := Fa.out; obtain ⟨b0, b1, b2, b3, b4, b5, _⟩ := Fb.out; obtain ⟨c0, c1, c2, c3, c4, c5, _⟩ := Fc.out)
    | (go_at_call 21; (with_reducible refine (may_is c _ Fc.out.ok Mc).mono ?_); rintro e wmc ⟨rfl, hbwmc⟩; clear a0 a1 a2 a3 a4 a5 b0 b1 b2 b3 b4 b5 c0 c1 c2 c3 c4 c5; have Fa := Lib.hid (Fa.out.go hbwmc); have Fb := Lib.hid (Fb.out.go hbwmc); have Fc := Lib.hid (Fc.out.go hbwmc); have BB := Lib.hid (below_go BB.out hbwmc); have TT := Lib.hid (TT.out.below hbwmc); obtain ⟨a0, a1, a2, a3, a4, a5, _⟩ := Fa.out; obtain ⟨b0, b1, b2, b3, b4, b5, _⟩ := Fb.out; obtain ⟨c0, c1, c2, c3, c4, c5, _⟩ := Fc.out)
    | (go_at_call 22; (with_reducible refine (rmay_is a _ Fa.out.ok Ma).mono ?_); rintro e wna ⟨rfl, hbwna⟩; clear a0 a1 a2 a3 a4 a5 b0 b1 b2 b3 b4 b5 c0 c1 c2 c3 c4 c5; have Fa := Lib.hid (Fa.out.go hbwna); have Fb := Lib.hid (Fb.out.go hbwna); have Fc := Lib.hid (Fc.out.go hbwna); have BB := Lib.hid (below_go BB.out hbwna); have TT := Lib.hid (TT.out.below hbwna); obtain ⟨a0, a1, a2, a3, a4, a5, _⟩ := Fa.out; obtain ⟨b0, b1, b2, b3, b4, b5, _⟩ := Fb.out; obtain ⟨c0, c1, c2, c3, c4, c5, _⟩ := Fc.out)
    | (go_at_call 22; (with_reducible refine (rmay_is b _ Fb.out.ok Mb).mono ?_); rintro e wnb ⟨rfl, hbwnb⟩; clear a0 a1 a2 a3 a4 a5 b0 b1 b2 b3 b4 b5 c0 c1 c2 c3 c4 c5; have Fa := Lib.hid (Fa.out.go hbwnb); have Fb := Lib.hid (Fb.out.go hbwnb); have Fc := Lib.hid (Fc.out.go hbwnb); have BB := Lib.hid (below_go BB.out hbwnb); have TT := Lib.hid (TT.out.below hbwnb); obtain ⟨a0, a1, a2, a3, a4, a5, _⟩ := Fa.out; obtain ⟨b0, b1, b2, b3, b4, b5, _⟩ := Fb.out; obtain ⟨c0, c1, c2, c3, c4, c5, _⟩ := Fc.out)
    | (go_at_call 22; (with_reducible refine (rmay_is c _ Fc.out.ok Mc).mono ?_); rintro e wnc ⟨rfl, hbwnc⟩; clear a0 a1 a2 a3 a4 a5 b0 b1 b2 b3 b4 b5 c0 c1 c2 c3 c4 c5; have Fa := Lib.hid (Fa.out.go hbwnc); have Fb := Lib.hid (Fb.out.go hbwnc); have Fc := Lib.hid (Fc.out.go hbwnc); have BB := Lib.hid (below_go BB.out hbwnc); have TT := Lib.hid (TT.out.below hbwnc); obtain ⟨a0, a1, a2, a3, a4, a5, _⟩ := Fa.out; obtain ⟨b0, b1, b2, b3, b4, b5, _⟩ := Fb.out; obtain ⟨c0, c1, c2, c3, c4, c5, _⟩ := Fc.out)
    | (go_at_call 27; (with_reducible refine exact_split a b c _ _ Ma Mb Mc hab hac ?_ ?_)))
  · intro we hbwe
    clear a0 a1 a2 a3 a4 a5 b0 b1 b2 b3 b4 b5 c0 c1 c2 c3 c4 c5
    have Fa := Lib.hid (Fa.out.go hbwe)
    have Fb := Lib.hid (Fb.out.go hbwe)
    have Fc := Lib.hid (Fc.out.go hbwe)
    have BB := Lib.hid (below_go BB.out hbwe)
    have TT := Lib.hid (TT.out.below hbwe)
    obtain ⟨a0, a1, a2, a3, a4, a5, _⟩ := Fa.out
    obtain ⟨b0, b1, b2, b3, b4, b5, _⟩ := Fb.out
    obtain ⟨c0, c1, c2, c3, c4, c5, _⟩ := Fc.out
    go_wp2_with (go_at_call 7; (with_reducible refine (awake_any _ TT.out).mono ?_); rintro e wz ⟨rfl, hbz⟩)
    go_ret
    exact ⟨rfl, below_go BB.out hbz⟩
  · intro we hbwe hEx
    clear a0 a1 a2 a3 a4 a5 b0 b1 b2 b3 b4 b5 c0 c1 c2 c3 c4 c5
    have Fa := Lib.hid (Fa.out.go hbwe)
    have Fb := Lib.hid (Fb.out.go hbwe)
    have Fc := Lib.hid (Fc.out.go hbwe)
    have BB := Lib.hid (below_go BB.out hbwe)
    have TT := Lib.hid (TT.out.below hbwe)
    obtain ⟨a0, a1, a2, a3, a4, a5, _⟩ := Fa.out
    obtain ⟨b0, b1, b2, b3, b4, b5, _⟩ := Fb.out
    obtain ⟨c0, c1, c2, c3, c4, c5, _⟩ := Fc.out
    go_wp2_with (first
      | (go_at_call 8; (with_reducible refine (zero_at a.s _ HKn).mono ?_); rintro e w_vz ⟨vz, rfl, vzok, vzC, vzc, vzn, hbw_vz⟩; have Hvzok := Lib.hid vzok; have vz_s := Lib.hid (con_s vzC.out); have vz_m := Lib.hid (may_at vzok vzc.out vzC.out (may_zeroC HKn.out)); have vz_n := Lib.hid vzn.out; have vz_C := Lib.hid vzC.out; clear a0 a1 a2 a3 a4 a5 b0 b1 b2 b3 b4 b5 c0 c1 c2 c3 c4 c5; have Fa := Lib.hid ((Fa.out.go hbw_vz).al (.cells #[.int .i64 vz.s, .bool vz.b, .slice vz.A vz.n vz.c, .int .i64 vz.lv, .float .f64 vz.x] 27)); have Fb := Lib.hid ((Fb.out.go hbw_vz).al (.cells #[.int .i64 vz.s, .bool vz.b, .slice vz.A vz.n vz.c, .int .i64 vz.lv, .float .f64 vz.x] 27)); have Fc := Lib.hid ((Fc.out.go hbw_vz).al (.cells #[.int .i64 vz.s, .bool vz.b, .slice vz.A vz.n vz.c, .int .i64 vz.lv, .float .f64 vz.x] 27)); have BB := Lib.hid (below_al (below_go BB.out hbw_vz) (.cells #[.int .i64 vz.s, .bool vz.b, .slice vz.A vz.n vz.c, .int .i64 vz.lv, .float .f64 vz.x] 27)); have TT := Lib.hid ((TT.out.below hbw_vz).below (below_al (Below.refl _ _) (.cells #[.int .i64 vz.s, .bool vz.b, .slice vz.A vz.n vz.c, .int .i64 vz.lv, .float .f64 vz.x] 27))); have Fvz := Lib.hid (five_new _ vz Hvzok.out); obtain ⟨a0, a1, a2, a3, a4, a5, _⟩ := Fa.out; obtain ⟨b0, b1, b2, b3, b4, b5, _⟩ := Fb.out; obtain ⟨c0, c1, c2, c3, c4, c5, _⟩ := Fc.out)
      | (go_at_call 10; (with_reducible refine (one_at a.s _ HKn).mono ?_); rintro e w_vo ⟨vo, rfl, vook, voC, voc, von, hbw_vo⟩; have Hvook := Lib.hid vook; have vo_s := Lib.hid (con_s voC.out); have vo_m := Lib.hid (may_at vook voc.out voC.out (may_oneC HKn.out)); have vo_n := Lib.hid von.out; have vo_C := Lib.hid voC.out; clear a0 a1 a2 a3 a4 a5 b0 b1 b2 b3 b4 b5 c0 c1 c2 c3 c4 c5; have Fa := Lib.hid ((Fa.out.go hbw_vo).al (.cells #[.int .i64 vo.s, .bool vo.b, .slice vo.A vo.n vo.c, .int .i64 vo.lv, .float .f64 vo.x] 27)); have Fb := Lib.hid ((Fb.out.go hbw_vo).al (.cells #[.int .i64 vo.s, .bool vo.b, .slice vo.A vo.n vo.c, .int .i64 vo.lv, .float .f64 vo.x] 27)); have Fc := Lib.hid ((Fc.out.go hbw_vo).al (.cells #[.int .i64 vo.s, .bool vo.b, .slice vo.A vo.n vo.c, .int .i64 vo.lv, .float .f64 vo.x] 27)); have Fvz := Lib.hid ((Fvz.out.go hbw_vo).al (.cells #[.int .i64 vo.s, .bool vo.b, .slice vo.A vo.n vo.c, .int .i64 vo.lv, .float .f64 vo.x] 27)); have BB := Lib.hid (below_al (below_go BB.out hbw_vo) (.cells #[.int .i64 vo.s, .bool vo.b, .slice vo.A vo.n vo.c, .int .i64 vo.lv, .float .f64 vo.x] 27)); have TT := Lib.hid ((TT.out.below hbw_vo).below (below_al (Below.refl _ _) (.cells #[.int .i64 vo.s, .bool vo.b, .slice vo.A vo.n vo.c, .int .i64 vo.lv, .float .f64 vo.x] 27))); have Fvo := Lib.hid (five_new _ vo Hvook.out); obtain ⟨a0, a1, a2, a3, a4, a5, _⟩ := Fa.out; obtain ⟨b0, b1, b2, b3, b4, b5, _⟩ := Fb.out; obtain ⟨c0, c1, c2, c3, c4, c5, _⟩ := Fc.out))
    clear a0 a1 a2 a3 a4 a5 b0 b1 b2 b3 b4 b5 c0 c1 c2 c3 c4 c5
    have BB := Lib.hid (below_dr BB.out)
    have TT := Lib.hid (TT.out.below (below_dr (Below.refl _ _)))
    have Fa := Lib.hid Fa.out.drew
    have Fb := Lib.hid Fb.out.drew
    have Fc := Lib.hid Fc.out.drew
    have Fvz := Lib.hid Fvz.out.drew
    have Fvo := Lib.hid Fvo.out.drew
    refine wp_region_held_drew (S := fun w' => Five w' (w.heap.size) a ∧ Five w' (w.heap.size + 1) b ∧ Five w' (w.heap.size + 2) c ∧ Five w' (w_vz.heap.size) vz ∧ Five w' (w_vo.heap.size) vo) (by kernel_rfl) ⟨Fa.out, Fb.out, Fc.out, Fvz.out, Fvo.out⟩ (fun hHeld => ?_)
    refine wpAnyH_take (i := 0) (v := (.func (.func 23) #[] #[])) rfl (by kernel_rfl) (by kernel_rfl) (by kernel_rfl) (fun _ _ _ h => h) (Or.inl ⟨by kernel_rfl, by intro w hSw; clear hSw; go_simp⟩) (by assumption) ?_
    try simp (config := { maxSteps := 10000000 }) only [Act.put, List.getElem_toArray, List.getElem_cons_zero, List.getElem_cons_succ, List.setIfInBounds_toArray, List.set_cons_zero, List.set_cons_succ]
    refine wpAnyH_take (i := 1) (v := (.func (.func 28) #[] #[])) rfl (by kernel_rfl) (by kernel_rfl) (by kernel_rfl) (fun _ _ _ h => h) (Or.inl ⟨by kernel_rfl, by intro w hSw; clear hSw; go_simp⟩) (by assumption) ?_
    try simp (config := { maxSteps := 10000000 }) only [Act.put, List.getElem_toArray, List.getElem_cons_zero, List.getElem_cons_succ, List.setIfInBounds_toArray, List.set_cons_zero, List.set_cons_succ]
    refine wpAnyH_take (i := 2) (v := (.agg #[.int .i64 a.s, .bool a.b, .slice a.A a.n a.c, .int .i64 a.lv, .float .f64 a.x])) rfl (by kernel_rfl) (by kernel_rfl) (by kernel_rfl) (fun _ _ _ h => h) (Or.inl ⟨by kernel_rfl, by intro w hSw; (try dsimp only at hSw); obtain ⟨hl0, hl1, hl2, hl3, hl4⟩ := hSw; obtain ⟨k0, k1, k2, k3, k4, _⟩ := hl0; clear hl1 hl2 hl3 hl4; go_simp⟩) (by assumption) ?_
    try simp (config := { maxSteps := 10000000 }) only [Act.put, List.getElem_toArray, List.getElem_cons_zero, List.getElem_cons_succ, List.setIfInBounds_toArray, List.set_cons_zero, List.set_cons_succ]
    refine wpAnyH_take (i := 3) (v := (.agg #[.int .i64 b.s, .bool b.b, .slice b.A b.n b.c, .int .i64 b.lv, .float .f64 b.x])) rfl (by kernel_rfl) (by kernel_rfl) (by kernel_rfl) (fun _ _ _ h => h) (Or.inl ⟨by kernel_rfl, by intro w hSw; (try dsimp only at hSw); obtain ⟨hl0, hl1, hl2, hl3, hl4⟩ := hSw; obtain ⟨k0, k1, k2, k3, k4, _⟩ := hl1; clear hl0 hl2 hl3 hl4; go_simp⟩) (by assumption) ?_
    try simp (config := { maxSteps := 10000000 }) only [Act.put, List.getElem_toArray, List.getElem_cons_zero, List.getElem_cons_succ, List.setIfInBounds_toArray, List.set_cons_zero, List.set_cons_succ]
    refine wpAnyH_take (i := 5) (v := (.func (.func 28) #[] #[])) rfl (by kernel_rfl) (by kernel_rfl) (by kernel_rfl) (fun _ _ _ h => h) (Or.inl ⟨by kernel_rfl, by intro w hSw; clear hSw; go_simp⟩) (by assumption) ?_
    try simp (config := { maxSteps := 10000000 }) only [Act.put, List.getElem_toArray, List.getElem_cons_zero, List.getElem_cons_succ, List.setIfInBounds_toArray, List.set_cons_zero, List.set_cons_succ]
    refine wpAnyH_take (i := 6) (v := (.agg #[.int .i64 b.s, .bool b.b, .slice b.A b.n b.c, .int .i64 b.lv, .float .f64 b.x])) rfl (by kernel_rfl) (by kernel_rfl) (by kernel_rfl) (fun _ _ _ h => h) (Or.inl ⟨by kernel_rfl, by intro w hSw; (try dsimp only at hSw); obtain ⟨hl0, hl1, hl2, hl3, hl4⟩ := hSw; obtain ⟨k0, k1, k2, k3, k4, _⟩ := hl1; clear hl0 hl2 hl3 hl4; go_simp⟩) (by assumption) ?_
    try simp (config := { maxSteps := 10000000 }) only [Act.put, List.getElem_toArray, List.getElem_cons_zero, List.getElem_cons_succ, List.setIfInBounds_toArray, List.set_cons_zero, List.set_cons_succ]
    refine wpAnyH_take (i := 7) (v := (.agg #[.int .i64 a.s, .bool a.b, .slice a.A a.n a.c, .int .i64 a.lv, .float .f64 a.x])) rfl (by kernel_rfl) (by kernel_rfl) (by kernel_rfl) (fun _ _ _ h => h) (Or.inl ⟨by kernel_rfl, by intro w hSw; (try dsimp only at hSw); obtain ⟨hl0, hl1, hl2, hl3, hl4⟩ := hSw; obtain ⟨k0, k1, k2, k3, k4, _⟩ := hl0; clear hl1 hl2 hl3 hl4; go_simp⟩) (by assumption) ?_
    try simp (config := { maxSteps := 10000000 }) only [Act.put, List.getElem_toArray, List.getElem_cons_zero, List.getElem_cons_succ, List.setIfInBounds_toArray, List.set_cons_zero, List.set_cons_succ]
    refine wpAnyH_ready (rs := [4]) (by kernel_rfl) (by simp) ?_
    refine AllReadyH.cons rfl (fun K hK => ?_) AllReadyH.nil
    go_simp
    go_at_call 28
    have hP := Lib.hid (bothE_zero.2 ⟨Ma.out, Mb.out, hab.out.symm⟩ : bothE a b = 0)
    have hN1 : max a.n b.n + 1 ≤ 61 := (by have h1 := a_n.out; have h2 := b_n.out; omega)
    have hN2 : 61 ≤ 1099511627776 := (by decide)
    with_reducible refine (plusK a b _ 61 Fa.out.ok Fb.out.ok hN1 hN2 hP).mono ?_
    rintro e wk0 ⟨r1, rfl, rok, rC, rc, rn, hbwk0⟩
    have BB := Lib.hid (below_go BB.out hbwk0)
    have TT := Lib.hid (TT.out.below hbwk0)
    have Fa := Lib.hid (Fa.out.go hbwk0)
    have Fb := Lib.hid (Fb.out.go hbwk0)
    have Fc := Lib.hid (Fc.out.go hbwk0)
    have Fvz := Lib.hid (Fvz.out.go hbwk0)
    have Fvo := Lib.hid (Fvo.out.go hbwk0)
    have Kr1 := Lib.hid rok
    have r1_n := rn
    have r1_C : Hid (r1.con = (plusC a.con b.con)) := Lib.hid (rC.out.trans (by rfl))
    have r1_s := Lib.hid (show r1.s = a.s from (con_s rC.out).trans ((plusC_s _ _).trans rfl))
    have r1_m := Lib.hid (may_at rok rc.out rC.out (may_plusC hP.out))
    clear hP hN1 hN2 rok rC rc rn hbwk0
    go_wp2_with fail
    refine hK.out _ _ ⟨Fa.out, Fb.out, Fc.out, Fvz.out, Fvo.out⟩ (fun hHeld => ?_)
    clear hK K
    try simp (config := { maxSteps := 10000000 }) only [Act.put, List.getElem_toArray, List.getElem_cons_zero, List.getElem_cons_succ, List.setIfInBounds_toArray, List.set_cons_zero, List.set_cons_succ]
    refine wpAnyH_ready (rs := [8]) (by kernel_rfl) (by simp) ?_
    refine AllReadyH.cons rfl (fun K hK => ?_) AllReadyH.nil
    go_simp
    go_at_call 28
    have hP := Lib.hid (bothE_zero.2 ⟨Mb.out, Ma.out, hab.out⟩ : bothE b a = 0)
    have hN1 : max b.n a.n + 1 ≤ 61 := (by have h1 := b_n.out; have h2 := a_n.out; omega)
    have hN2 : 61 ≤ 1099511627776 := (by decide)
    with_reducible refine (plusK b a _ 61 Fb.out.ok Fa.out.ok hN1 hN2 hP).mono ?_
    rintro e wk1 ⟨r2, rfl, rok, rC, rc, rn, hbwk1⟩
    have BB := Lib.hid (below_go BB.out hbwk1)
    have TT := Lib.hid (TT.out.below hbwk1)
    have Fa := Lib.hid (Fa.out.go hbwk1)
    have Fb := Lib.hid (Fb.out.go hbwk1)
    have Fc := Lib.hid (Fc.out.go hbwk1)
    have Fvz := Lib.hid (Fvz.out.go hbwk1)
    have Fvo := Lib.hid (Fvo.out.go hbwk1)
    have Kr1 := Lib.hid (Kr1.out.below hbwk1)
    have Kr2 := Lib.hid rok
    have r2_n := rn
    have r2_C : Hid (r2.con = (plusC b.con a.con)) := Lib.hid (rC.out.trans (by rfl))
    have r2_s := Lib.hid (show r2.s = a.s from (con_s rC.out).trans ((plusC_s _ _).trans hab.out))
    have r2_m := Lib.hid (may_at rok rc.out rC.out (may_plusC hP.out))
    clear hP hN1 hN2 rok rC rc rn hbwk1
    go_wp2_with fail
    refine hK.out _ _ ⟨Fa.out, Fb.out, Fc.out, Fvz.out, Fvo.out⟩ (fun hHeld => ?_)
    clear hK K
    try simp (config := { maxSteps := 10000000 }) only [Act.put, List.getElem_toArray, List.getElem_cons_zero, List.getElem_cons_succ, List.setIfInBounds_toArray, List.set_cons_zero, List.set_cons_succ]
    refine wpAnyH_ready (rs := [9]) (by kernel_rfl) (by simp) ?_
    refine AllReadyH.cons rfl (fun K hK => ?_) AllReadyH.nil
    go_simp
    go_at_call 23
    have hQ := Lib.hid (same_at r1_m.out r2_m.out (r1_s.out.trans r2_s.out.symm) (by rw [r1_C.out, r2_C.out]; rw [plus_comm (a := a.con) (b := b.con) HKn.out hab.out]; exact sameC_refl _))
    with_reducible refine (same_yes r1 r2 _ Kr1.out Kr2.out hQ).mono ?_
    rintro e wk2 ⟨rfl, hbwk2⟩
    have BB := Lib.hid (below_go BB.out hbwk2)
    have TT := Lib.hid (TT.out.below hbwk2)
    have Fa := Lib.hid (Fa.out.go hbwk2)
    have Fb := Lib.hid (Fb.out.go hbwk2)
    have Fc := Lib.hid (Fc.out.go hbwk2)
    have Fvz := Lib.hid (Fvz.out.go hbwk2)
    have Fvo := Lib.hid (Fvo.out.go hbwk2)
    have Kr1 := Lib.hid (Kr1.out.below hbwk2)
    have Kr2 := Lib.hid (Kr2.out.below hbwk2)
    clear hQ hbwk2
    go_wp2_with fail
    refine hK.out _ _ ⟨Fa.out, Fb.out, Fc.out, Fvz.out, Fvo.out⟩ (fun hHeld => ?_)
    clear hK K
    try simp (config := { maxSteps := 10000000 }) only [Act.put, List.getElem_toArray, List.getElem_cons_zero, List.getElem_cons_succ, List.setIfInBounds_toArray, List.set_cons_zero, List.set_cons_succ]
    refine wpAnyH_take (i := 10) (v := (.bool true)) rfl (by kernel_rfl) (by kernel_rfl) (by kernel_rfl) (fun _ _ _ h => h) (Or.inl ⟨by kernel_rfl, by intro w hSw; clear hSw; go_simp⟩) (by assumption) ?_
    try simp (config := { maxSteps := 10000000 }) only [Act.put, List.getElem_toArray, List.getElem_cons_zero, List.getElem_cons_succ, List.setIfInBounds_toArray, List.set_cons_zero, List.set_cons_succ]
    refine wpAnyH_take (i := 11) (v := (.func (.func 23) #[] #[])) rfl (by kernel_rfl) (by kernel_rfl) (by kernel_rfl) (fun _ _ _ h => h) (Or.inl ⟨by kernel_rfl, by intro w hSw; clear hSw; go_simp⟩) (by assumption) ?_
    try simp (config := { maxSteps := 10000000 }) only [Act.put, List.getElem_toArray, List.getElem_cons_zero, List.getElem_cons_succ, List.setIfInBounds_toArray, List.set_cons_zero, List.set_cons_succ]
    refine wpAnyH_take (i := 12) (v := (.func (.func 29) #[] #[])) rfl (by kernel_rfl) (by kernel_rfl) (by kernel_rfl) (fun _ _ _ h => h) (Or.inl ⟨by kernel_rfl, by intro w hSw; clear hSw; go_simp⟩) (by assumption) ?_
    try simp (config := { maxSteps := 10000000 }) only [Act.put, List.getElem_toArray, List.getElem_cons_zero, List.getElem_cons_succ, List.setIfInBounds_toArray, List.set_cons_zero, List.set_cons_succ]
    refine wpAnyH_take (i := 13) (v := (.agg #[.int .i64 a.s, .bool a.b, .slice a.A a.n a.c, .int .i64 a.lv, .float .f64 a.x])) rfl (by kernel_rfl) (by kernel_rfl) (by kernel_rfl) (fun _ _ _ h => h) (Or.inl ⟨by kernel_rfl, by intro w hSw; (try dsimp only at hSw); obtain ⟨hl0, hl1, hl2, hl3, hl4⟩ := hSw; obtain ⟨k0, k1, k2, k3, k4, _⟩ := hl0; clear hl1 hl2 hl3 hl4; go_simp⟩) (by assumption) ?_
    try simp (config := { maxSteps := 10000000 }) only [Act.put, List.getElem_toArray, List.getElem_cons_zero, List.getElem_cons_succ, List.setIfInBounds_toArray, List.set_cons_zero, List.set_cons_succ]
    refine wpAnyH_take (i := 14) (v := (.agg #[.int .i64 b.s, .bool b.b, .slice b.A b.n b.c, .int .i64 b.lv, .float .f64 b.x])) rfl (by kernel_rfl) (by kernel_rfl) (by kernel_rfl) (fun _ _ _ h => h) (Or.inl ⟨by kernel_rfl, by intro w hSw; (try dsimp only at hSw); obtain ⟨hl0, hl1, hl2, hl3, hl4⟩ := hSw; obtain ⟨k0, k1, k2, k3, k4, _⟩ := hl1; clear hl0 hl2 hl3 hl4; go_simp⟩) (by assumption) ?_
    try simp (config := { maxSteps := 10000000 }) only [Act.put, List.getElem_toArray, List.getElem_cons_zero, List.getElem_cons_succ, List.setIfInBounds_toArray, List.set_cons_zero, List.set_cons_succ]
    refine wpAnyH_take (i := 16) (v := (.func (.func 29) #[] #[])) rfl (by kernel_rfl) (by kernel_rfl) (by kernel_rfl) (fun _ _ _ h => h) (Or.inl ⟨by kernel_rfl, by intro w hSw; clear hSw; go_simp⟩) (by assumption) ?_
    try simp (config := { maxSteps := 10000000 }) only [Act.put, List.getElem_toArray, List.getElem_cons_zero, List.getElem_cons_succ, List.setIfInBounds_toArray, List.set_cons_zero, List.set_cons_succ]
    refine wpAnyH_take (i := 17) (v := (.agg #[.int .i64 b.s, .bool b.b, .slice b.A b.n b.c, .int .i64 b.lv, .float .f64 b.x])) rfl (by kernel_rfl) (by kernel_rfl) (by kernel_rfl) (fun _ _ _ h => h) (Or.inl ⟨by kernel_rfl, by intro w hSw; (try dsimp only at hSw); obtain ⟨hl0, hl1, hl2, hl3, hl4⟩ := hSw; obtain ⟨k0, k1, k2, k3, k4, _⟩ := hl1; clear hl0 hl2 hl3 hl4; go_simp⟩) (by assumption) ?_
    try simp (config := { maxSteps := 10000000 }) only [Act.put, List.getElem_toArray, List.getElem_cons_zero, List.getElem_cons_succ, List.setIfInBounds_toArray, List.set_cons_zero, List.set_cons_succ]
    refine wpAnyH_take (i := 18) (v := (.agg #[.int .i64 a.s, .bool a.b, .slice a.A a.n a.c, .int .i64 a.lv, .float .f64 a.x])) rfl (by kernel_rfl) (by kernel_rfl) (by kernel_rfl) (fun _ _ _ h => h) (Or.inl ⟨by kernel_rfl, by intro w hSw; (try dsimp only at hSw); obtain ⟨hl0, hl1, hl2, hl3, hl4⟩ := hSw; obtain ⟨k0, k1, k2, k3, k4, _⟩ := hl0; clear hl1 hl2 hl3 hl4; go_simp⟩) (by assumption) ?_
    try simp (config := { maxSteps := 10000000 }) only [Act.put, List.getElem_toArray, List.getElem_cons_zero, List.getElem_cons_succ, List.setIfInBounds_toArray, List.set_cons_zero, List.set_cons_succ]
    refine wpAnyH_ready (rs := [15]) (by kernel_rfl) (by simp) ?_
    refine AllReadyH.cons rfl (fun K hK => ?_) AllReadyH.nil
    go_simp
    go_at_call 29
    have hP := Lib.hid (bothE_zero.2 ⟨Ma.out, Mb.out, hab.out.symm⟩ : bothE a b = 0)
    have hN1 : a.n + b.n + 1 ≤ 121 := (by have h1 := a_n.out; have h2 := b_n.out; omega)
    have hN2 : 121 ≤ 1099511627776 := (by decide)
    with_reducible refine (timesK a b _ 121 Fa.out.ok Fb.out.ok hN1 hN2 hP).mono ?_
    rintro e wk3 ⟨r4, rfl, rok, rC, rc, rn, hbwk3⟩
    have BB := Lib.hid (below_go BB.out hbwk3)
    have TT := Lib.hid (TT.out.below hbwk3)
    have Fa := Lib.hid (Fa.out.go hbwk3)
    have Fb := Lib.hid (Fb.out.go hbwk3)
    have Fc := Lib.hid (Fc.out.go hbwk3)
    have Fvz := Lib.hid (Fvz.out.go hbwk3)
    have Fvo := Lib.hid (Fvo.out.go hbwk3)
    have Kr1 := Lib.hid (Kr1.out.below hbwk3)
    have Kr2 := Lib.hid (Kr2.out.below hbwk3)
    have Kr4 := Lib.hid rok
    have r4_n := rn
    have r4_C : Hid (r4.con = (timesC a.con b.con)) := Lib.hid (rC.out.trans (by rfl))
    have r4_s := Lib.hid (show r4.s = a.s from (con_s rC.out).trans ((timesC_s _ _).trans rfl))
    have r4_m := Lib.hid (may_at rok rc.out rC.out (may_timesC hP.out))
    clear hP hN1 hN2 rok rC rc rn hbwk3
    go_wp2_with fail
    refine hK.out _ _ ⟨Fa.out, Fb.out, Fc.out, Fvz.out, Fvo.out⟩ (fun hHeld => ?_)
    clear hK K
    try simp (config := { maxSteps := 10000000 }) only [Act.put, List.getElem_toArray, List.getElem_cons_zero, List.getElem_cons_succ, List.setIfInBounds_toArray, List.set_cons_zero, List.set_cons_succ]
    refine wpAnyH_ready (rs := [19]) (by kernel_rfl) (by simp) ?_
    refine AllReadyH.cons rfl (fun K hK => ?_) AllReadyH.nil
    go_simp
    go_at_call 29
    have hP := Lib.hid (bothE_zero.2 ⟨Mb.out, Ma.out, hab.out⟩ : bothE b a = 0)
    have hN1 : b.n + a.n + 1 ≤ 121 := (by have h1 := b_n.out; have h2 := a_n.out; omega)
    have hN2 : 121 ≤ 1099511627776 := (by decide)
    with_reducible refine (timesK b a _ 121 Fb.out.ok Fa.out.ok hN1 hN2 hP).mono ?_
    rintro e wk4 ⟨r5, rfl, rok, rC, rc, rn, hbwk4⟩
    have BB := Lib.hid (below_go BB.out hbwk4)
    have TT := Lib.hid (TT.out.below hbwk4)
    have Fa := Lib.hid (Fa.out.go hbwk4)
    have Fb := Lib.hid (Fb.out.go hbwk4)
    have Fc := Lib.hid (Fc.out.go hbwk4)
    have Fvz := Lib.hid (Fvz.out.go hbwk4)
    have Fvo := Lib.hid (Fvo.out.go hbwk4)
    have Kr1 := Lib.hid (Kr1.out.below hbwk4)
    have Kr2 := Lib.hid (Kr2.out.below hbwk4)
    have Kr4 := Lib.hid (Kr4.out.below hbwk4)
    have Kr5 := Lib.hid rok
    have r5_n := rn
    have r5_C : Hid (r5.con = (timesC b.con a.con)) := Lib.hid (rC.out.trans (by rfl))
    have r5_s := Lib.hid (show r5.s = a.s from (con_s rC.out).trans ((timesC_s _ _).trans hab.out))
    have r5_m := Lib.hid (may_at rok rc.out rC.out (may_timesC hP.out))
    clear hP hN1 hN2 rok rC rc rn hbwk4
    go_wp2_with fail
    refine hK.out _ _ ⟨Fa.out, Fb.out, Fc.out, Fvz.out, Fvo.out⟩ (fun hHeld => ?_)
    clear hK K
    try simp (config := { maxSteps := 10000000 }) only [Act.put, List.getElem_toArray, List.getElem_cons_zero, List.getElem_cons_succ, List.setIfInBounds_toArray, List.set_cons_zero, List.set_cons_succ]
    refine wpAnyH_ready (rs := [20]) (by kernel_rfl) (by simp) ?_
    refine AllReadyH.cons rfl (fun K hK => ?_) AllReadyH.nil
    go_simp
    go_at_call 23
    have hQ := Lib.hid (same_at r4_m.out r5_m.out (r4_s.out.trans r5_s.out.symm) (by rw [r4_C.out, r5_C.out]; rw [times_comm (a := a.con) (b := b.con) HKn.out hab.out]; exact sameC_refl _))
    with_reducible refine (same_yes r4 r5 _ Kr4.out Kr5.out hQ).mono ?_
    rintro e wk5 ⟨rfl, hbwk5⟩
    have BB := Lib.hid (below_go BB.out hbwk5)
    have TT := Lib.hid (TT.out.below hbwk5)
    have Fa := Lib.hid (Fa.out.go hbwk5)
    have Fb := Lib.hid (Fb.out.go hbwk5)
    have Fc := Lib.hid (Fc.out.go hbwk5)
    have Fvz := Lib.hid (Fvz.out.go hbwk5)
    have Fvo := Lib.hid (Fvo.out.go hbwk5)
    have Kr1 := Lib.hid (Kr1.out.below hbwk5)
    have Kr2 := Lib.hid (Kr2.out.below hbwk5)
    have Kr4 := Lib.hid (Kr4.out.below hbwk5)
    have Kr5 := Lib.hid (Kr5.out.below hbwk5)
    clear hQ hbwk5
    go_wp2_with fail
    refine hK.out _ _ ⟨Fa.out, Fb.out, Fc.out, Fvz.out, Fvo.out⟩ (fun hHeld => ?_)
    clear hK K
    try simp (config := { maxSteps := 10000000 }) only [Act.put, List.getElem_toArray, List.getElem_cons_zero, List.getElem_cons_succ, List.setIfInBounds_toArray, List.set_cons_zero, List.set_cons_succ]
    refine wpAnyH_take (i := 21) (v := (.bool true)) rfl (by kernel_rfl) (by kernel_rfl) (by kernel_rfl) (fun _ _ _ h => h) (Or.inl ⟨by kernel_rfl, by intro w hSw; clear hSw; go_simp⟩) (by assumption) ?_
    try simp (config := { maxSteps := 10000000 }) only [Act.put, List.getElem_toArray, List.getElem_cons_zero, List.getElem_cons_succ, List.setIfInBounds_toArray, List.set_cons_zero, List.set_cons_succ]
    refine wpAnyH_take (i := 22) (v := (.bool true)) rfl (by kernel_rfl) (by kernel_rfl) (by kernel_rfl) (fun _ _ _ h => h) (Or.inl ⟨by kernel_rfl, by intro w hSw; clear hSw; go_simp⟩) (by assumption) ?_
    try simp (config := { maxSteps := 10000000 }) only [Act.put, List.getElem_toArray, List.getElem_cons_zero, List.getElem_cons_succ, List.setIfInBounds_toArray, List.set_cons_zero, List.set_cons_succ]
    refine wpAnyH_take (i := 23) (v := (.func (.func 23) #[] #[])) rfl (by kernel_rfl) (by kernel_rfl) (by kernel_rfl) (fun _ _ _ h => h) (Or.inl ⟨by kernel_rfl, by intro w hSw; clear hSw; go_simp⟩) (by assumption) ?_
    try simp (config := { maxSteps := 10000000 }) only [Act.put, List.getElem_toArray, List.getElem_cons_zero, List.getElem_cons_succ, List.setIfInBounds_toArray, List.set_cons_zero, List.set_cons_succ]
    refine wpAnyH_take (i := 24) (v := (.func (.func 28) #[] #[])) rfl (by kernel_rfl) (by kernel_rfl) (by kernel_rfl) (fun _ _ _ h => h) (Or.inl ⟨by kernel_rfl, by intro w hSw; clear hSw; go_simp⟩) (by assumption) ?_
    try simp (config := { maxSteps := 10000000 }) only [Act.put, List.getElem_toArray, List.getElem_cons_zero, List.getElem_cons_succ, List.setIfInBounds_toArray, List.set_cons_zero, List.set_cons_succ]
    refine wpAnyH_take (i := 25) (v := (.agg #[.int .i64 a.s, .bool a.b, .slice a.A a.n a.c, .int .i64 a.lv, .float .f64 a.x])) rfl (by kernel_rfl) (by kernel_rfl) (by kernel_rfl) (fun _ _ _ h => h) (Or.inl ⟨by kernel_rfl, by intro w hSw; (try dsimp only at hSw); obtain ⟨hl0, hl1, hl2, hl3, hl4⟩ := hSw; obtain ⟨k0, k1, k2, k3, k4, _⟩ := hl0; clear hl1 hl2 hl3 hl4; go_simp⟩) (by assumption) ?_
    try simp (config := { maxSteps := 10000000 }) only [Act.put, List.getElem_toArray, List.getElem_cons_zero, List.getElem_cons_succ, List.setIfInBounds_toArray, List.set_cons_zero, List.set_cons_succ]
    refine wpAnyH_take (i := 26) (v := (.func (.func 28) #[] #[])) rfl (by kernel_rfl) (by kernel_rfl) (by kernel_rfl) (fun _ _ _ h => h) (Or.inl ⟨by kernel_rfl, by intro w hSw; clear hSw; go_simp⟩) (by assumption) ?_
    try simp (config := { maxSteps := 10000000 }) only [Act.put, List.getElem_toArray, List.getElem_cons_zero, List.getElem_cons_succ, List.setIfInBounds_toArray, List.set_cons_zero, List.set_cons_succ]
    refine wpAnyH_take (i := 27) (v := (.agg #[.int .i64 b.s, .bool b.b, .slice b.A b.n b.c, .int .i64 b.lv, .float .f64 b.x])) rfl (by kernel_rfl) (by kernel_rfl) (by kernel_rfl) (fun _ _ _ h => h) (Or.inl ⟨by kernel_rfl, by intro w hSw; (try dsimp only at hSw); obtain ⟨hl0, hl1, hl2, hl3, hl4⟩ := hSw; obtain ⟨k0, k1, k2, k3, k4, _⟩ := hl1; clear hl0 hl2 hl3 hl4; go_simp⟩) (by assumption) ?_
    try simp (config := { maxSteps := 10000000 }) only [Act.put, List.getElem_toArray, List.getElem_cons_zero, List.getElem_cons_succ, List.setIfInBounds_toArray, List.set_cons_zero, List.set_cons_succ]
    refine wpAnyH_take (i := 28) (v := (.agg #[.int .i64 c.s, .bool c.b, .slice c.A c.n c.c, .int .i64 c.lv, .float .f64 c.x])) rfl (by kernel_rfl) (by kernel_rfl) (by kernel_rfl) (fun _ _ _ h => h) (Or.inl ⟨by kernel_rfl, by intro w hSw; (try dsimp only at hSw); obtain ⟨hl0, hl1, hl2, hl3, hl4⟩ := hSw; obtain ⟨k0, k1, k2, k3, k4, _⟩ := hl2; clear hl0 hl1 hl3 hl4; go_simp⟩) (by assumption) ?_
    try simp (config := { maxSteps := 10000000 }) only [Act.put, List.getElem_toArray, List.getElem_cons_zero, List.getElem_cons_succ, List.setIfInBounds_toArray, List.set_cons_zero, List.set_cons_succ]
    refine wpAnyH_take (i := 31) (v := (.func (.func 28) #[] #[])) rfl (by kernel_rfl) (by kernel_rfl) (by kernel_rfl) (fun _ _ _ h => h) (Or.inl ⟨by kernel_rfl, by intro w hSw; clear hSw; go_simp⟩) (by assumption) ?_
    try simp (config := { maxSteps := 10000000 }) only [Act.put, List.getElem_toArray, List.getElem_cons_zero, List.getElem_cons_succ, List.setIfInBounds_toArray, List.set_cons_zero, List.set_cons_succ]
    refine wpAnyH_take (i := 32) (v := (.func (.func 28) #[] #[])) rfl (by kernel_rfl) (by kernel_rfl) (by kernel_rfl) (fun _ _ _ h => h) (Or.inl ⟨by kernel_rfl, by intro w hSw; clear hSw; go_simp⟩) (by assumption) ?_
    try simp (config := { maxSteps := 10000000 }) only [Act.put, List.getElem_toArray, List.getElem_cons_zero, List.getElem_cons_succ, List.setIfInBounds_toArray, List.set_cons_zero, List.set_cons_succ]
    refine wpAnyH_take (i := 33) (v := (.agg #[.int .i64 a.s, .bool a.b, .slice a.A a.n a.c, .int .i64 a.lv, .float .f64 a.x])) rfl (by kernel_rfl) (by kernel_rfl) (by kernel_rfl) (fun _ _ _ h => h) (Or.inl ⟨by kernel_rfl, by intro w hSw; (try dsimp only at hSw); obtain ⟨hl0, hl1, hl2, hl3, hl4⟩ := hSw; obtain ⟨k0, k1, k2, k3, k4, _⟩ := hl0; clear hl1 hl2 hl3 hl4; go_simp⟩) (by assumption) ?_
    try simp (config := { maxSteps := 10000000 }) only [Act.put, List.getElem_toArray, List.getElem_cons_zero, List.getElem_cons_succ, List.setIfInBounds_toArray, List.set_cons_zero, List.set_cons_succ]
    refine wpAnyH_take (i := 34) (v := (.agg #[.int .i64 b.s, .bool b.b, .slice b.A b.n b.c, .int .i64 b.lv, .float .f64 b.x])) rfl (by kernel_rfl) (by kernel_rfl) (by kernel_rfl) (fun _ _ _ h => h) (Or.inl ⟨by kernel_rfl, by intro w hSw; (try dsimp only at hSw); obtain ⟨hl0, hl1, hl2, hl3, hl4⟩ := hSw; obtain ⟨k0, k1, k2, k3, k4, _⟩ := hl1; clear hl0 hl2 hl3 hl4; go_simp⟩) (by assumption) ?_
    try simp (config := { maxSteps := 10000000 }) only [Act.put, List.getElem_toArray, List.getElem_cons_zero, List.getElem_cons_succ, List.setIfInBounds_toArray, List.set_cons_zero, List.set_cons_succ]
    refine wpAnyH_take (i := 36) (v := (.agg #[.int .i64 c.s, .bool c.b, .slice c.A c.n c.c, .int .i64 c.lv, .float .f64 c.x])) rfl (by kernel_rfl) (by kernel_rfl) (by kernel_rfl) (fun _ _ _ h => h) (Or.inl ⟨by kernel_rfl, by intro w hSw; (try dsimp only at hSw); obtain ⟨hl0, hl1, hl2, hl3, hl4⟩ := hSw; obtain ⟨k0, k1, k2, k3, k4, _⟩ := hl2; clear hl0 hl1 hl3 hl4; go_simp⟩) (by assumption) ?_
    try simp (config := { maxSteps := 10000000 }) only [Act.put, List.getElem_toArray, List.getElem_cons_zero, List.getElem_cons_succ, List.setIfInBounds_toArray, List.set_cons_zero, List.set_cons_succ]
    refine wpAnyH_ready (rs := [29]) (by kernel_rfl) (by simp) ?_
    refine AllReadyH.cons rfl (fun K hK => ?_) AllReadyH.nil
    go_simp
    go_at_call 28
    have hP := Lib.hid (bothE_zero.2 ⟨Mb.out, Mc.out, (hab.out.trans hac.out.symm)⟩ : bothE b c = 0)
    have hN1 : max b.n c.n + 1 ≤ 61 := (by have h1 := b_n.out; have h2 := c_n.out; omega)
    have hN2 : 61 ≤ 1099511627776 := (by decide)
    with_reducible refine (plusK b c _ 61 Fb.out.ok Fc.out.ok hN1 hN2 hP).mono ?_
    rintro e wk6 ⟨r7, rfl, rok, rC, rc, rn, hbwk6⟩
    have BB := Lib.hid (below_go BB.out hbwk6)
    have TT := Lib.hid (TT.out.below hbwk6)
    have Fa := Lib.hid (Fa.out.go hbwk6)
    have Fb := Lib.hid (Fb.out.go hbwk6)
    have Fc := Lib.hid (Fc.out.go hbwk6)
    have Fvz := Lib.hid (Fvz.out.go hbwk6)
    have Fvo := Lib.hid (Fvo.out.go hbwk6)
    have Kr1 := Lib.hid (Kr1.out.below hbwk6)
    have Kr2 := Lib.hid (Kr2.out.below hbwk6)
    have Kr4 := Lib.hid (Kr4.out.below hbwk6)
    have Kr5 := Lib.hid (Kr5.out.below hbwk6)
    have Kr7 := Lib.hid rok
    have r7_n := rn
    have r7_C : Hid (r7.con = (plusC b.con c.con)) := Lib.hid (rC.out.trans (by rfl))
    have r7_s := Lib.hid (show r7.s = a.s from (con_s rC.out).trans ((plusC_s _ _).trans hab.out))
    have r7_m := Lib.hid (may_at rok rc.out rC.out (may_plusC hP.out))
    clear hP hN1 hN2 rok rC rc rn hbwk6
    go_wp2_with fail
    refine hK.out _ _ ⟨Fa.out, Fb.out, Fc.out, Fvz.out, Fvo.out⟩ (fun hHeld => ?_)
    clear hK K
    try simp (config := { maxSteps := 10000000 }) only [Act.put, List.getElem_toArray, List.getElem_cons_zero, List.getElem_cons_succ, List.setIfInBounds_toArray, List.set_cons_zero, List.set_cons_succ]
    refine wpAnyH_ready (rs := [30]) (by kernel_rfl) (by simp) ?_
    refine AllReadyH.cons rfl (fun K hK => ?_) AllReadyH.nil
    go_simp
    go_at_call 28
    have hP := Lib.hid (bothE_zero.2 ⟨Ma.out, r7_m.out, r7_s.out.symm⟩ : bothE a r7 = 0)
    have hN1 : max a.n r7.n + 1 ≤ 62 := (by have h1 := a_n.out; have h2 := r7_n.out; omega)
    have hN2 : 62 ≤ 1099511627776 := (by decide)
    with_reducible refine (plusK a r7 _ 62 Fa.out.ok Kr7.out hN1 hN2 hP).mono ?_
    rintro e wk7 ⟨r8, rfl, rok, rC, rc, rn, hbwk7⟩
    have BB := Lib.hid (below_go BB.out hbwk7)
    have TT := Lib.hid (TT.out.below hbwk7)
    have Fa := Lib.hid (Fa.out.go hbwk7)
    have Fb := Lib.hid (Fb.out.go hbwk7)
    have Fc := Lib.hid (Fc.out.go hbwk7)
    have Fvz := Lib.hid (Fvz.out.go hbwk7)
    have Fvo := Lib.hid (Fvo.out.go hbwk7)
    have Kr1 := Lib.hid (Kr1.out.below hbwk7)
    have Kr2 := Lib.hid (Kr2.out.below hbwk7)
    have Kr4 := Lib.hid (Kr4.out.below hbwk7)
    have Kr5 := Lib.hid (Kr5.out.below hbwk7)
    have Kr7 := Lib.hid (Kr7.out.below hbwk7)
    have Kr8 := Lib.hid rok
    have r8_n := rn
    have r8_C : Hid (r8.con = (plusC a.con (plusC b.con c.con))) := Lib.hid (rC.out.trans (by rw [r7_C.out]))
    have r8_s := Lib.hid (show r8.s = a.s from (con_s rC.out).trans ((plusC_s _ _).trans rfl))
    have r8_m := Lib.hid (may_at rok rc.out rC.out (may_plusC hP.out))
    clear hP hN1 hN2 rok rC rc rn hbwk7
    go_wp2_with fail
    refine hK.out _ _ ⟨Fa.out, Fb.out, Fc.out, Fvz.out, Fvo.out⟩ (fun hHeld => ?_)
    clear hK K
    try simp (config := { maxSteps := 10000000 }) only [Act.put, List.getElem_toArray, List.getElem_cons_zero, List.getElem_cons_succ, List.setIfInBounds_toArray, List.set_cons_zero, List.set_cons_succ]
    refine wpAnyH_ready (rs := [35]) (by kernel_rfl) (by simp) ?_
    refine AllReadyH.cons rfl (fun K hK => ?_) AllReadyH.nil
    go_simp
    go_at_call 28
    have hP := Lib.hid (bothE_zero.2 ⟨Ma.out, Mb.out, hab.out.symm⟩ : bothE a b = 0)
    have hN1 : max a.n b.n + 1 ≤ 61 := (by have h1 := a_n.out; have h2 := b_n.out; omega)
    have hN2 : 61 ≤ 1099511627776 := (by decide)
    with_reducible refine (plusK a b _ 61 Fa.out.ok Fb.out.ok hN1 hN2 hP).mono ?_
    rintro e wk8 ⟨r9, rfl, rok, rC, rc, rn, hbwk8⟩
    have BB := Lib.hid (below_go BB.out hbwk8)
    have TT := Lib.hid (TT.out.below hbwk8)
    have Fa := Lib.hid (Fa.out.go hbwk8)
    have Fb := Lib.hid (Fb.out.go hbwk8)
    have Fc := Lib.hid (Fc.out.go hbwk8)
    have Fvz := Lib.hid (Fvz.out.go hbwk8)
    have Fvo := Lib.hid (Fvo.out.go hbwk8)
    have Kr1 := Lib.hid (Kr1.out.below hbwk8)
    have Kr2 := Lib.hid (Kr2.out.below hbwk8)
    have Kr4 := Lib.hid (Kr4.out.below hbwk8)
    have Kr5 := Lib.hid (Kr5.out.below hbwk8)
    have Kr7 := Lib.hid (Kr7.out.below hbwk8)
    have Kr8 := Lib.hid (Kr8.out.below hbwk8)
    have Kr9 := Lib.hid rok
    have r9_n := rn
    have r9_C : Hid (r9.con = (plusC a.con b.con)) := Lib.hid (rC.out.trans (by rfl))
    have r9_s := Lib.hid (show r9.s = a.s from (con_s rC.out).trans ((plusC_s _ _).trans rfl))
    have r9_m := Lib.hid (may_at rok rc.out rC.out (may_plusC hP.out))
    clear hP hN1 hN2 rok rC rc rn hbwk8
    go_wp2_with fail
    refine hK.out _ _ ⟨Fa.out, Fb.out, Fc.out, Fvz.out, Fvo.out⟩ (fun hHeld => ?_)
    clear hK K
    try simp (config := { maxSteps := 10000000 }) only [Act.put, List.getElem_toArray, List.getElem_cons_zero, List.getElem_cons_succ, List.setIfInBounds_toArray, List.set_cons_zero, List.set_cons_succ]
    refine wpAnyH_ready (rs := [37]) (by kernel_rfl) (by simp) ?_
    refine AllReadyH.cons rfl (fun K hK => ?_) AllReadyH.nil
    go_simp
    go_at_call 28
    have hP := Lib.hid (bothE_zero.2 ⟨r9_m.out, Mc.out, (r9_s.out.trans hac.out.symm)⟩ : bothE r9 c = 0)
    have hN1 : max r9.n c.n + 1 ≤ 62 := (by have h1 := r9_n.out; have h2 := c_n.out; omega)
    have hN2 : 62 ≤ 1099511627776 := (by decide)
    with_reducible refine (plusK r9 c _ 62 Kr9.out Fc.out.ok hN1 hN2 hP).mono ?_
    rintro e wk9 ⟨r10, rfl, rok, rC, rc, rn, hbwk9⟩
    have BB := Lib.hid (below_go BB.out hbwk9)
    have TT := Lib.hid (TT.out.below hbwk9)
    have Fa := Lib.hid (Fa.out.go hbwk9)
    have Fb := Lib.hid (Fb.out.go hbwk9)
    have Fc := Lib.hid (Fc.out.go hbwk9)
    have Fvz := Lib.hid (Fvz.out.go hbwk9)
    have Fvo := Lib.hid (Fvo.out.go hbwk9)
    have Kr1 := Lib.hid (Kr1.out.below hbwk9)
    have Kr2 := Lib.hid (Kr2.out.below hbwk9)
    have Kr4 := Lib.hid (Kr4.out.below hbwk9)
    have Kr5 := Lib.hid (Kr5.out.below hbwk9)
    have Kr7 := Lib.hid (Kr7.out.below hbwk9)
    have Kr8 := Lib.hid (Kr8.out.below hbwk9)
    have Kr9 := Lib.hid (Kr9.out.below hbwk9)
    have Kr10 := Lib.hid rok
    have r10_n := rn
    have r10_C : Hid (r10.con = (plusC (plusC a.con b.con) c.con)) := Lib.hid (rC.out.trans (by rw [r9_C.out]))
    have r10_s := Lib.hid (show r10.s = a.s from (con_s rC.out).trans ((plusC_s _ _).trans r9_s.out))
    have r10_m := Lib.hid (may_at rok rc.out rC.out (may_plusC hP.out))
    clear hP hN1 hN2 rok rC rc rn hbwk9
    go_wp2_with fail
    refine hK.out _ _ ⟨Fa.out, Fb.out, Fc.out, Fvz.out, Fvo.out⟩ (fun hHeld => ?_)
    clear hK K
    try simp (config := { maxSteps := 10000000 }) only [Act.put, List.getElem_toArray, List.getElem_cons_zero, List.getElem_cons_succ, List.setIfInBounds_toArray, List.set_cons_zero, List.set_cons_succ]
    refine wpAnyH_ready (rs := [38]) (by kernel_rfl) (by simp) ?_
    refine AllReadyH.cons rfl (fun K hK => ?_) AllReadyH.nil
    go_simp
    go_at_call 23
    have hQ := Lib.hid (same_at r8_m.out r10_m.out (r8_s.out.trans r10_s.out.symm) (by rw [r8_C.out, r10_C.out]; rw [plus_assoc (a := a.con) (b := b.con) (c := c.con) HKn.out hab.out hac.out]; exact sameC_refl _))
    with_reducible refine (same_yes r8 r10 _ Kr8.out Kr10.out hQ).mono ?_
    rintro e wk10 ⟨rfl, hbwk10⟩
    have BB := Lib.hid (below_go BB.out hbwk10)
    have TT := Lib.hid (TT.out.below hbwk10)
    have Fa := Lib.hid (Fa.out.go hbwk10)
    have Fb := Lib.hid (Fb.out.go hbwk10)
    have Fc := Lib.hid (Fc.out.go hbwk10)
    have Fvz := Lib.hid (Fvz.out.go hbwk10)
    have Fvo := Lib.hid (Fvo.out.go hbwk10)
    have Kr1 := Lib.hid (Kr1.out.below hbwk10)
    have Kr2 := Lib.hid (Kr2.out.below hbwk10)
    have Kr4 := Lib.hid (Kr4.out.below hbwk10)
    have Kr5 := Lib.hid (Kr5.out.below hbwk10)
    have Kr7 := Lib.hid (Kr7.out.below hbwk10)
    have Kr8 := Lib.hid (Kr8.out.below hbwk10)
    have Kr9 := Lib.hid (Kr9.out.below hbwk10)
    have Kr10 := Lib.hid (Kr10.out.below hbwk10)
    clear hQ hbwk10
    go_wp2_with fail
    refine hK.out _ _ ⟨Fa.out, Fb.out, Fc.out, Fvz.out, Fvo.out⟩ (fun hHeld => ?_)
    clear hK K
    try simp (config := { maxSteps := 10000000 }) only [Act.put, List.getElem_toArray, List.getElem_cons_zero, List.getElem_cons_succ, List.setIfInBounds_toArray, List.set_cons_zero, List.set_cons_succ]
    refine wpAnyH_take (i := 39) (v := (.bool true)) rfl (by kernel_rfl) (by kernel_rfl) (by kernel_rfl) (fun _ _ _ h => h) (Or.inl ⟨by kernel_rfl, by intro w hSw; clear hSw; go_simp⟩) (by assumption) ?_
    try simp (config := { maxSteps := 10000000 }) only [Act.put, List.getElem_toArray, List.getElem_cons_zero, List.getElem_cons_succ, List.setIfInBounds_toArray, List.set_cons_zero, List.set_cons_succ]
    refine wpAnyH_take (i := 40) (v := (.bool true)) rfl (by kernel_rfl) (by kernel_rfl) (by kernel_rfl) (fun _ _ _ h => h) (Or.inl ⟨by kernel_rfl, by intro w hSw; clear hSw; go_simp⟩) (by assumption) ?_
    try simp (config := { maxSteps := 10000000 }) only [Act.put, List.getElem_toArray, List.getElem_cons_zero, List.getElem_cons_succ, List.setIfInBounds_toArray, List.set_cons_zero, List.set_cons_succ]
    refine wpAnyH_take (i := 41) (v := (.func (.func 23) #[] #[])) rfl (by kernel_rfl) (by kernel_rfl) (by kernel_rfl) (fun _ _ _ h => h) (Or.inl ⟨by kernel_rfl, by intro w hSw; clear hSw; go_simp⟩) (by assumption) ?_
    try simp (config := { maxSteps := 10000000 }) only [Act.put, List.getElem_toArray, List.getElem_cons_zero, List.getElem_cons_succ, List.setIfInBounds_toArray, List.set_cons_zero, List.set_cons_succ]
    refine wpAnyH_take (i := 42) (v := (.func (.func 29) #[] #[])) rfl (by kernel_rfl) (by kernel_rfl) (by kernel_rfl) (fun _ _ _ h => h) (Or.inl ⟨by kernel_rfl, by intro w hSw; clear hSw; go_simp⟩) (by assumption) ?_
    try simp (config := { maxSteps := 10000000 }) only [Act.put, List.getElem_toArray, List.getElem_cons_zero, List.getElem_cons_succ, List.setIfInBounds_toArray, List.set_cons_zero, List.set_cons_succ]
    refine wpAnyH_take (i := 43) (v := (.agg #[.int .i64 a.s, .bool a.b, .slice a.A a.n a.c, .int .i64 a.lv, .float .f64 a.x])) rfl (by kernel_rfl) (by kernel_rfl) (by kernel_rfl) (fun _ _ _ h => h) (Or.inl ⟨by kernel_rfl, by intro w hSw; (try dsimp only at hSw); obtain ⟨hl0, hl1, hl2, hl3, hl4⟩ := hSw; obtain ⟨k0, k1, k2, k3, k4, _⟩ := hl0; clear hl1 hl2 hl3 hl4; go_simp⟩) (by assumption) ?_
    try simp (config := { maxSteps := 10000000 }) only [Act.put, List.getElem_toArray, List.getElem_cons_zero, List.getElem_cons_succ, List.setIfInBounds_toArray, List.set_cons_zero, List.set_cons_succ]
    refine wpAnyH_take (i := 44) (v := (.func (.func 29) #[] #[])) rfl (by kernel_rfl) (by kernel_rfl) (by kernel_rfl) (fun _ _ _ h => h) (Or.inl ⟨by kernel_rfl, by intro w hSw; clear hSw; go_simp⟩) (by assumption) ?_
    try simp (config := { maxSteps := 10000000 }) only [Act.put, List.getElem_toArray, List.getElem_cons_zero, List.getElem_cons_succ, List.setIfInBounds_toArray, List.set_cons_zero, List.set_cons_succ]
    refine wpAnyH_take (i := 45) (v := (.agg #[.int .i64 b.s, .bool b.b, .slice b.A b.n b.c, .int .i64 b.lv, .float .f64 b.x])) rfl (by kernel_rfl) (by kernel_rfl) (by kernel_rfl) (fun _ _ _ h => h) (Or.inl ⟨by kernel_rfl, by intro w hSw; (try dsimp only at hSw); obtain ⟨hl0, hl1, hl2, hl3, hl4⟩ := hSw; obtain ⟨k0, k1, k2, k3, k4, _⟩ := hl1; clear hl0 hl2 hl3 hl4; go_simp⟩) (by assumption) ?_
    try simp (config := { maxSteps := 10000000 }) only [Act.put, List.getElem_toArray, List.getElem_cons_zero, List.getElem_cons_succ, List.setIfInBounds_toArray, List.set_cons_zero, List.set_cons_succ]
    refine wpAnyH_take (i := 46) (v := (.agg #[.int .i64 c.s, .bool c.b, .slice c.A c.n c.c, .int .i64 c.lv, .float .f64 c.x])) rfl (by kernel_rfl) (by kernel_rfl) (by kernel_rfl) (fun _ _ _ h => h) (Or.inl ⟨by kernel_rfl, by intro w hSw; (try dsimp only at hSw); obtain ⟨hl0, hl1, hl2, hl3, hl4⟩ := hSw; obtain ⟨k0, k1, k2, k3, k4, _⟩ := hl2; clear hl0 hl1 hl3 hl4; go_simp⟩) (by assumption) ?_
    try simp (config := { maxSteps := 10000000 }) only [Act.put, List.getElem_toArray, List.getElem_cons_zero, List.getElem_cons_succ, List.setIfInBounds_toArray, List.set_cons_zero, List.set_cons_succ]
    refine wpAnyH_take (i := 49) (v := (.func (.func 29) #[] #[])) rfl (by kernel_rfl) (by kernel_rfl) (by kernel_rfl) (fun _ _ _ h => h) (Or.inl ⟨by kernel_rfl, by intro w hSw; clear hSw; go_simp⟩) (by assumption) ?_
    try simp (config := { maxSteps := 10000000 }) only [Act.put, List.getElem_toArray, List.getElem_cons_zero, List.getElem_cons_succ, List.setIfInBounds_toArray, List.set_cons_zero, List.set_cons_succ]
    refine wpAnyH_take (i := 50) (v := (.func (.func 29) #[] #[])) rfl (by kernel_rfl) (by kernel_rfl) (by kernel_rfl) (fun _ _ _ h => h) (Or.inl ⟨by kernel_rfl, by intro w hSw; clear hSw; go_simp⟩) (by assumption) ?_
    try simp (config := { maxSteps := 10000000 }) only [Act.put, List.getElem_toArray, List.getElem_cons_zero, List.getElem_cons_succ, List.setIfInBounds_toArray, List.set_cons_zero, List.set_cons_succ]
    refine wpAnyH_take (i := 51) (v := (.agg #[.int .i64 a.s, .bool a.b, .slice a.A a.n a.c, .int .i64 a.lv, .float .f64 a.x])) rfl (by kernel_rfl) (by kernel_rfl) (by kernel_rfl) (fun _ _ _ h => h) (Or.inl ⟨by kernel_rfl, by intro w hSw; (try dsimp only at hSw); obtain ⟨hl0, hl1, hl2, hl3, hl4⟩ := hSw; obtain ⟨k0, k1, k2, k3, k4, _⟩ := hl0; clear hl1 hl2 hl3 hl4; go_simp⟩) (by assumption) ?_
    try simp (config := { maxSteps := 10000000 }) only [Act.put, List.getElem_toArray, List.getElem_cons_zero, List.getElem_cons_succ, List.setIfInBounds_toArray, List.set_cons_zero, List.set_cons_succ]
    refine wpAnyH_take (i := 52) (v := (.agg #[.int .i64 b.s, .bool b.b, .slice b.A b.n b.c, .int .i64 b.lv, .float .f64 b.x])) rfl (by kernel_rfl) (by kernel_rfl) (by kernel_rfl) (fun _ _ _ h => h) (Or.inl ⟨by kernel_rfl, by intro w hSw; (try dsimp only at hSw); obtain ⟨hl0, hl1, hl2, hl3, hl4⟩ := hSw; obtain ⟨k0, k1, k2, k3, k4, _⟩ := hl1; clear hl0 hl2 hl3 hl4; go_simp⟩) (by assumption) ?_
    try simp (config := { maxSteps := 10000000 }) only [Act.put, List.getElem_toArray, List.getElem_cons_zero, List.getElem_cons_succ, List.setIfInBounds_toArray, List.set_cons_zero, List.set_cons_succ]
    refine wpAnyH_take (i := 54) (v := (.agg #[.int .i64 c.s, .bool c.b, .slice c.A c.n c.c, .int .i64 c.lv, .float .f64 c.x])) rfl (by kernel_rfl) (by kernel_rfl) (by kernel_rfl) (fun _ _ _ h => h) (Or.inl ⟨by kernel_rfl, by intro w hSw; (try dsimp only at hSw); obtain ⟨hl0, hl1, hl2, hl3, hl4⟩ := hSw; obtain ⟨k0, k1, k2, k3, k4, _⟩ := hl2; clear hl0 hl1 hl3 hl4; go_simp⟩) (by assumption) ?_
    try simp (config := { maxSteps := 10000000 }) only [Act.put, List.getElem_toArray, List.getElem_cons_zero, List.getElem_cons_succ, List.setIfInBounds_toArray, List.set_cons_zero, List.set_cons_succ]
    refine wpAnyH_ready (rs := [47]) (by kernel_rfl) (by simp) ?_
    refine AllReadyH.cons rfl (fun K hK => ?_) AllReadyH.nil
    go_simp
    go_at_call 29
    have hP := Lib.hid (bothE_zero.2 ⟨Mb.out, Mc.out, (hab.out.trans hac.out.symm)⟩ : bothE b c = 0)
    have hN1 : b.n + c.n + 1 ≤ 121 := (by have h1 := b_n.out; have h2 := c_n.out; omega)
    have hN2 : 121 ≤ 1099511627776 := (by decide)
    with_reducible refine (timesK b c _ 121 Fb.out.ok Fc.out.ok hN1 hN2 hP).mono ?_
    rintro e wk11 ⟨r12, rfl, rok, rC, rc, rn, hbwk11⟩
    have BB := Lib.hid (below_go BB.out hbwk11)
    have TT := Lib.hid (TT.out.below hbwk11)
    have Fa := Lib.hid (Fa.out.go hbwk11)
    have Fb := Lib.hid (Fb.out.go hbwk11)
    have Fc := Lib.hid (Fc.out.go hbwk11)
    have Fvz := Lib.hid (Fvz.out.go hbwk11)
    have Fvo := Lib.hid (Fvo.out.go hbwk11)
    have Kr1 := Lib.hid (Kr1.out.below hbwk11)
    have Kr2 := Lib.hid (Kr2.out.below hbwk11)
    have Kr4 := Lib.hid (Kr4.out.below hbwk11)
    have Kr5 := Lib.hid (Kr5.out.below hbwk11)
    have Kr7 := Lib.hid (Kr7.out.below hbwk11)
    have Kr8 := Lib.hid (Kr8.out.below hbwk11)
    have Kr9 := Lib.hid (Kr9.out.below hbwk11)
    have Kr10 := Lib.hid (Kr10.out.below hbwk11)
    have Kr12 := Lib.hid rok
    have r12_n := rn
    have r12_C : Hid (r12.con = (timesC b.con c.con)) := Lib.hid (rC.out.trans (by rfl))
    have r12_s := Lib.hid (show r12.s = a.s from (con_s rC.out).trans ((timesC_s _ _).trans hab.out))
    have r12_m := Lib.hid (may_at rok rc.out rC.out (may_timesC hP.out))
    clear hP hN1 hN2 rok rC rc rn hbwk11
    go_wp2_with fail
    refine hK.out _ _ ⟨Fa.out, Fb.out, Fc.out, Fvz.out, Fvo.out⟩ (fun hHeld => ?_)
    clear hK K
    try simp (config := { maxSteps := 10000000 }) only [Act.put, List.getElem_toArray, List.getElem_cons_zero, List.getElem_cons_succ, List.setIfInBounds_toArray, List.set_cons_zero, List.set_cons_succ]
    refine wpAnyH_ready (rs := [48]) (by kernel_rfl) (by simp) ?_
    refine AllReadyH.cons rfl (fun K hK => ?_) AllReadyH.nil
    go_simp
    go_at_call 29
    have hP := Lib.hid (bothE_zero.2 ⟨Ma.out, r12_m.out, r12_s.out.symm⟩ : bothE a r12 = 0)
    have hN1 : a.n + r12.n + 1 ≤ 182 := (by have h1 := a_n.out; have h2 := r12_n.out; omega)
    have hN2 : 182 ≤ 1099511627776 := (by decide)
    with_reducible refine (timesK a r12 _ 182 Fa.out.ok Kr12.out hN1 hN2 hP).mono ?_
    rintro e wk12 ⟨r13, rfl, rok, rC, rc, rn, hbwk12⟩
    have BB := Lib.hid (below_go BB.out hbwk12)
    have TT := Lib.hid (TT.out.below hbwk12)
    have Fa := Lib.hid (Fa.out.go hbwk12)
    have Fb := Lib.hid (Fb.out.go hbwk12)
    have Fc := Lib.hid (Fc.out.go hbwk12)
    have Fvz := Lib.hid (Fvz.out.go hbwk12)
    have Fvo := Lib.hid (Fvo.out.go hbwk12)
    have Kr1 := Lib.hid (Kr1.out.below hbwk12)
    have Kr2 := Lib.hid (Kr2.out.below hbwk12)
    have Kr4 := Lib.hid (Kr4.out.below hbwk12)
    have Kr5 := Lib.hid (Kr5.out.below hbwk12)
    have Kr7 := Lib.hid (Kr7.out.below hbwk12)
    have Kr8 := Lib.hid (Kr8.out.below hbwk12)
    have Kr9 := Lib.hid (Kr9.out.below hbwk12)
    have Kr10 := Lib.hid (Kr10.out.below hbwk12)
    have Kr12 := Lib.hid (Kr12.out.below hbwk12)
    have Kr13 := Lib.hid rok
    have r13_n := rn
    have r13_C : Hid (r13.con = (timesC a.con (timesC b.con c.con))) := Lib.hid (rC.out.trans (by rw [r12_C.out]))
    have r13_s := Lib.hid (show r13.s = a.s from (con_s rC.out).trans ((timesC_s _ _).trans rfl))
    have r13_m := Lib.hid (may_at rok rc.out rC.out (may_timesC hP.out))
    clear hP hN1 hN2 rok rC rc rn hbwk12
    go_wp2_with fail
    refine hK.out _ _ ⟨Fa.out, Fb.out, Fc.out, Fvz.out, Fvo.out⟩ (fun hHeld => ?_)
    clear hK K
    try simp (config := { maxSteps := 10000000 }) only [Act.put, List.getElem_toArray, List.getElem_cons_zero, List.getElem_cons_succ, List.setIfInBounds_toArray, List.set_cons_zero, List.set_cons_succ]
    refine wpAnyH_ready (rs := [53]) (by kernel_rfl) (by simp) ?_
    refine AllReadyH.cons rfl (fun K hK => ?_) AllReadyH.nil
    go_simp
    go_at_call 29
    have hP := Lib.hid (bothE_zero.2 ⟨Ma.out, Mb.out, hab.out.symm⟩ : bothE a b = 0)
    have hN1 : a.n + b.n + 1 ≤ 121 := (by have h1 := a_n.out; have h2 := b_n.out; omega)
    have hN2 : 121 ≤ 1099511627776 := (by decide)
    with_reducible refine (timesK a b _ 121 Fa.out.ok Fb.out.ok hN1 hN2 hP).mono ?_
    rintro e wk13 ⟨r14, rfl, rok, rC, rc, rn, hbwk13⟩
    have BB := Lib.hid (below_go BB.out hbwk13)
    have TT := Lib.hid (TT.out.below hbwk13)
    have Fa := Lib.hid (Fa.out.go hbwk13)
    have Fb := Lib.hid (Fb.out.go hbwk13)
    have Fc := Lib.hid (Fc.out.go hbwk13)
    have Fvz := Lib.hid (Fvz.out.go hbwk13)
    have Fvo := Lib.hid (Fvo.out.go hbwk13)
    have Kr1 := Lib.hid (Kr1.out.below hbwk13)
    have Kr2 := Lib.hid (Kr2.out.below hbwk13)
    have Kr4 := Lib.hid (Kr4.out.below hbwk13)
    have Kr5 := Lib.hid (Kr5.out.below hbwk13)
    have Kr7 := Lib.hid (Kr7.out.below hbwk13)
    have Kr8 := Lib.hid (Kr8.out.below hbwk13)
    have Kr9 := Lib.hid (Kr9.out.below hbwk13)
    have Kr10 := Lib.hid (Kr10.out.below hbwk13)
    have Kr12 := Lib.hid (Kr12.out.below hbwk13)
    have Kr13 := Lib.hid (Kr13.out.below hbwk13)
    have Kr14 := Lib.hid rok
    have r14_n := rn
    have r14_C : Hid (r14.con = (timesC a.con b.con)) := Lib.hid (rC.out.trans (by rfl))
    have r14_s := Lib.hid (show r14.s = a.s from (con_s rC.out).trans ((timesC_s _ _).trans rfl))
    have r14_m := Lib.hid (may_at rok rc.out rC.out (may_timesC hP.out))
    clear hP hN1 hN2 rok rC rc rn hbwk13
    go_wp2_with fail
    refine hK.out _ _ ⟨Fa.out, Fb.out, Fc.out, Fvz.out, Fvo.out⟩ (fun hHeld => ?_)
    clear hK K
    try simp (config := { maxSteps := 10000000 }) only [Act.put, List.getElem_toArray, List.getElem_cons_zero, List.getElem_cons_succ, List.setIfInBounds_toArray, List.set_cons_zero, List.set_cons_succ]
    refine wpAnyH_ready (rs := [55]) (by kernel_rfl) (by simp) ?_
    refine AllReadyH.cons rfl (fun K hK => ?_) AllReadyH.nil
    go_simp
    go_at_call 29
    have hP := Lib.hid (bothE_zero.2 ⟨r14_m.out, Mc.out, (r14_s.out.trans hac.out.symm)⟩ : bothE r14 c = 0)
    have hN1 : r14.n + c.n + 1 ≤ 182 := (by have h1 := r14_n.out; have h2 := c_n.out; omega)
    have hN2 : 182 ≤ 1099511627776 := (by decide)
    with_reducible refine (timesK r14 c _ 182 Kr14.out Fc.out.ok hN1 hN2 hP).mono ?_
    rintro e wk14 ⟨r15, rfl, rok, rC, rc, rn, hbwk14⟩
    have BB := Lib.hid (below_go BB.out hbwk14)
    have TT := Lib.hid (TT.out.below hbwk14)
    have Fa := Lib.hid (Fa.out.go hbwk14)
    have Fb := Lib.hid (Fb.out.go hbwk14)
    have Fc := Lib.hid (Fc.out.go hbwk14)
    have Fvz := Lib.hid (Fvz.out.go hbwk14)
    have Fvo := Lib.hid (Fvo.out.go hbwk14)
    have Kr1 := Lib.hid (Kr1.out.below hbwk14)
    have Kr2 := Lib.hid (Kr2.out.below hbwk14)
    have Kr4 := Lib.hid (Kr4.out.below hbwk14)
    have Kr5 := Lib.hid (Kr5.out.below hbwk14)
    have Kr7 := Lib.hid (Kr7.out.below hbwk14)
    have Kr8 := Lib.hid (Kr8.out.below hbwk14)
    have Kr9 := Lib.hid (Kr9.out.below hbwk14)
    have Kr10 := Lib.hid (Kr10.out.below hbwk14)
    have Kr12 := Lib.hid (Kr12.out.below hbwk14)
    have Kr13 := Lib.hid (Kr13.out.below hbwk14)
    have Kr14 := Lib.hid (Kr14.out.below hbwk14)
    have Kr15 := Lib.hid rok
    have r15_n := rn
    have r15_C : Hid (r15.con = (timesC (timesC a.con b.con) c.con)) := Lib.hid (rC.out.trans (by rw [r14_C.out]))
    have r15_s := Lib.hid (show r15.s = a.s from (con_s rC.out).trans ((timesC_s _ _).trans r14_s.out))
    have r15_m := Lib.hid (may_at rok rc.out rC.out (may_timesC hP.out))
    clear hP hN1 hN2 rok rC rc rn hbwk14
    go_wp2_with fail
    refine hK.out _ _ ⟨Fa.out, Fb.out, Fc.out, Fvz.out, Fvo.out⟩ (fun hHeld => ?_)
    clear hK K
    try simp (config := { maxSteps := 10000000 }) only [Act.put, List.getElem_toArray, List.getElem_cons_zero, List.getElem_cons_succ, List.setIfInBounds_toArray, List.set_cons_zero, List.set_cons_succ]
    refine wpAnyH_ready (rs := [56]) (by kernel_rfl) (by simp) ?_
    refine AllReadyH.cons rfl (fun K hK => ?_) AllReadyH.nil
    go_simp
    go_at_call 23
    have hQ := Lib.hid (same_at r13_m.out r15_m.out (r13_s.out.trans r15_s.out.symm) (by rw [r13_C.out, r15_C.out]; rw [times_assoc (a := a.con) (b := b.con) (c := c.con) HKn.out hab.out hac.out hEx.out]; exact sameC_refl _))
    with_reducible refine (same_yes r13 r15 _ Kr13.out Kr15.out hQ).mono ?_
    rintro e wk15 ⟨rfl, hbwk15⟩
    have BB := Lib.hid (below_go BB.out hbwk15)
    have TT := Lib.hid (TT.out.below hbwk15)
    have Fa := Lib.hid (Fa.out.go hbwk15)
    have Fb := Lib.hid (Fb.out.go hbwk15)
    have Fc := Lib.hid (Fc.out.go hbwk15)
    have Fvz := Lib.hid (Fvz.out.go hbwk15)
    have Fvo := Lib.hid (Fvo.out.go hbwk15)
    have Kr1 := Lib.hid (Kr1.out.below hbwk15)
    have Kr2 := Lib.hid (Kr2.out.below hbwk15)
    have Kr4 := Lib.hid (Kr4.out.below hbwk15)
    have Kr5 := Lib.hid (Kr5.out.below hbwk15)
    have Kr7 := Lib.hid (Kr7.out.below hbwk15)
    have Kr8 := Lib.hid (Kr8.out.below hbwk15)
    have Kr9 := Lib.hid (Kr9.out.below hbwk15)
    have Kr10 := Lib.hid (Kr10.out.below hbwk15)
    have Kr12 := Lib.hid (Kr12.out.below hbwk15)
    have Kr13 := Lib.hid (Kr13.out.below hbwk15)
    have Kr14 := Lib.hid (Kr14.out.below hbwk15)
    have Kr15 := Lib.hid (Kr15.out.below hbwk15)
    clear hQ hbwk15
    go_wp2_with fail
    refine hK.out _ _ ⟨Fa.out, Fb.out, Fc.out, Fvz.out, Fvo.out⟩ (fun hHeld => ?_)
    clear hK K
    try simp (config := { maxSteps := 10000000 }) only [Act.put, List.getElem_toArray, List.getElem_cons_zero, List.getElem_cons_succ, List.setIfInBounds_toArray, List.set_cons_zero, List.set_cons_succ]
    refine wpAnyH_take (i := 57) (v := (.bool true)) rfl (by kernel_rfl) (by kernel_rfl) (by kernel_rfl) (fun _ _ _ h => h) (Or.inl ⟨by kernel_rfl, by intro w hSw; clear hSw; go_simp⟩) (by assumption) ?_
    try simp (config := { maxSteps := 10000000 }) only [Act.put, List.getElem_toArray, List.getElem_cons_zero, List.getElem_cons_succ, List.setIfInBounds_toArray, List.set_cons_zero, List.set_cons_succ]
    refine wpAnyH_take (i := 58) (v := (.bool true)) rfl (by kernel_rfl) (by kernel_rfl) (by kernel_rfl) (fun _ _ _ h => h) (Or.inl ⟨by kernel_rfl, by intro w hSw; clear hSw; go_simp⟩) (by assumption) ?_
    try simp (config := { maxSteps := 10000000 }) only [Act.put, List.getElem_toArray, List.getElem_cons_zero, List.getElem_cons_succ, List.setIfInBounds_toArray, List.set_cons_zero, List.set_cons_succ]
    refine wpAnyH_done (by kernel_rfl) ?_ _
    go_wp2_with fail
    have BB := Lib.hid (below_dr BB.out)
    have TT := Lib.hid (TT.out.below (below_dr (Below.refl _ _)))
    have Fa := Lib.hid Fa.out.drew
    have Fb := Lib.hid Fb.out.drew
    have Fc := Lib.hid Fc.out.drew
    have Fvz := Lib.hid Fvz.out.drew
    have Fvo := Lib.hid Fvo.out.drew
    refine wp_region_held_drew (S := fun w' => Five w' (w.heap.size) a ∧ Five w' (w.heap.size + 1) b ∧ Five w' (w.heap.size + 2) c ∧ Five w' (w_vz.heap.size) vz ∧ Five w' (w_vo.heap.size) vo) (by kernel_rfl) ⟨Fa.out, Fb.out, Fc.out, Fvz.out, Fvo.out⟩ (fun hHeld => ?_)
    refine wpAnyH_take (i := 0) (v := (.bool true)) rfl (by kernel_rfl) (by kernel_rfl) (by kernel_rfl) (fun _ _ _ h => h) (Or.inl ⟨by kernel_rfl, by intro w hSw; clear hSw; go_simp⟩) (by assumption) ?_
    try simp (config := { maxSteps := 10000000 }) only [Act.put, List.getElem_toArray, List.getElem_cons_zero, List.getElem_cons_succ, List.setIfInBounds_toArray, List.set_cons_zero, List.set_cons_succ]
    refine wpAnyH_take (i := 1) (v := (.bool true)) rfl (by kernel_rfl) (by kernel_rfl) (by kernel_rfl) (fun _ _ _ h => h) (Or.inl ⟨by kernel_rfl, by intro w hSw; clear hSw; go_simp⟩) (by assumption) ?_
    try simp (config := { maxSteps := 10000000 }) only [Act.put, List.getElem_toArray, List.getElem_cons_zero, List.getElem_cons_succ, List.setIfInBounds_toArray, List.set_cons_zero, List.set_cons_succ]
    refine wpAnyH_take (i := 2) (v := (.func (.func 23) #[] #[])) rfl (by kernel_rfl) (by kernel_rfl) (by kernel_rfl) (fun _ _ _ h => h) (Or.inl ⟨by kernel_rfl, by intro w hSw; clear hSw; go_simp⟩) (by assumption) ?_
    try simp (config := { maxSteps := 10000000 }) only [Act.put, List.getElem_toArray, List.getElem_cons_zero, List.getElem_cons_succ, List.setIfInBounds_toArray, List.set_cons_zero, List.set_cons_succ]
    refine wpAnyH_take (i := 3) (v := (.func (.func 29) #[] #[])) rfl (by kernel_rfl) (by kernel_rfl) (by kernel_rfl) (fun _ _ _ h => h) (Or.inl ⟨by kernel_rfl, by intro w hSw; clear hSw; go_simp⟩) (by assumption) ?_
    try simp (config := { maxSteps := 10000000 }) only [Act.put, List.getElem_toArray, List.getElem_cons_zero, List.getElem_cons_succ, List.setIfInBounds_toArray, List.set_cons_zero, List.set_cons_succ]
    refine wpAnyH_take (i := 4) (v := (.agg #[.int .i64 a.s, .bool a.b, .slice a.A a.n a.c, .int .i64 a.lv, .float .f64 a.x])) rfl (by kernel_rfl) (by kernel_rfl) (by kernel_rfl) (fun _ _ _ h => h) (Or.inl ⟨by kernel_rfl, by intro w hSw; (try dsimp only at hSw); obtain ⟨hl0, hl1, hl2, hl3, hl4⟩ := hSw; obtain ⟨k0, k1, k2, k3, k4, _⟩ := hl0; clear hl1 hl2 hl3 hl4; go_simp⟩) (by assumption) ?_
    try simp (config := { maxSteps := 10000000 }) only [Act.put, List.getElem_toArray, List.getElem_cons_zero, List.getElem_cons_succ, List.setIfInBounds_toArray, List.set_cons_zero, List.set_cons_succ]
    refine wpAnyH_take (i := 5) (v := (.func (.func 28) #[] #[])) rfl (by kernel_rfl) (by kernel_rfl) (by kernel_rfl) (fun _ _ _ h => h) (Or.inl ⟨by kernel_rfl, by intro w hSw; clear hSw; go_simp⟩) (by assumption) ?_
    try simp (config := { maxSteps := 10000000 }) only [Act.put, List.getElem_toArray, List.getElem_cons_zero, List.getElem_cons_succ, List.setIfInBounds_toArray, List.set_cons_zero, List.set_cons_succ]
    refine wpAnyH_take (i := 6) (v := (.agg #[.int .i64 b.s, .bool b.b, .slice b.A b.n b.c, .int .i64 b.lv, .float .f64 b.x])) rfl (by kernel_rfl) (by kernel_rfl) (by kernel_rfl) (fun _ _ _ h => h) (Or.inl ⟨by kernel_rfl, by intro w hSw; (try dsimp only at hSw); obtain ⟨hl0, hl1, hl2, hl3, hl4⟩ := hSw; obtain ⟨k0, k1, k2, k3, k4, _⟩ := hl1; clear hl0 hl2 hl3 hl4; go_simp⟩) (by assumption) ?_
    try simp (config := { maxSteps := 10000000 }) only [Act.put, List.getElem_toArray, List.getElem_cons_zero, List.getElem_cons_succ, List.setIfInBounds_toArray, List.set_cons_zero, List.set_cons_succ]
    refine wpAnyH_take (i := 7) (v := (.agg #[.int .i64 c.s, .bool c.b, .slice c.A c.n c.c, .int .i64 c.lv, .float .f64 c.x])) rfl (by kernel_rfl) (by kernel_rfl) (by kernel_rfl) (fun _ _ _ h => h) (Or.inl ⟨by kernel_rfl, by intro w hSw; (try dsimp only at hSw); obtain ⟨hl0, hl1, hl2, hl3, hl4⟩ := hSw; obtain ⟨k0, k1, k2, k3, k4, _⟩ := hl2; clear hl0 hl1 hl3 hl4; go_simp⟩) (by assumption) ?_
    try simp (config := { maxSteps := 10000000 }) only [Act.put, List.getElem_toArray, List.getElem_cons_zero, List.getElem_cons_succ, List.setIfInBounds_toArray, List.set_cons_zero, List.set_cons_succ]
    refine wpAnyH_take (i := 10) (v := (.func (.func 28) #[] #[])) rfl (by kernel_rfl) (by kernel_rfl) (by kernel_rfl) (fun _ _ _ h => h) (Or.inl ⟨by kernel_rfl, by intro w hSw; clear hSw; go_simp⟩) (by assumption) ?_
    try simp (config := { maxSteps := 10000000 }) only [Act.put, List.getElem_toArray, List.getElem_cons_zero, List.getElem_cons_succ, List.setIfInBounds_toArray, List.set_cons_zero, List.set_cons_succ]
    refine wpAnyH_take (i := 11) (v := (.func (.func 29) #[] #[])) rfl (by kernel_rfl) (by kernel_rfl) (by kernel_rfl) (fun _ _ _ h => h) (Or.inl ⟨by kernel_rfl, by intro w hSw; clear hSw; go_simp⟩) (by assumption) ?_
    try simp (config := { maxSteps := 10000000 }) only [Act.put, List.getElem_toArray, List.getElem_cons_zero, List.getElem_cons_succ, List.setIfInBounds_toArray, List.set_cons_zero, List.set_cons_succ]
    refine wpAnyH_take (i := 12) (v := (.agg #[.int .i64 a.s, .bool a.b, .slice a.A a.n a.c, .int .i64 a.lv, .float .f64 a.x])) rfl (by kernel_rfl) (by kernel_rfl) (by kernel_rfl) (fun _ _ _ h => h) (Or.inl ⟨by kernel_rfl, by intro w hSw; (try dsimp only at hSw); obtain ⟨hl0, hl1, hl2, hl3, hl4⟩ := hSw; obtain ⟨k0, k1, k2, k3, k4, _⟩ := hl0; clear hl1 hl2 hl3 hl4; go_simp⟩) (by assumption) ?_
    try simp (config := { maxSteps := 10000000 }) only [Act.put, List.getElem_toArray, List.getElem_cons_zero, List.getElem_cons_succ, List.setIfInBounds_toArray, List.set_cons_zero, List.set_cons_succ]
    refine wpAnyH_take (i := 13) (v := (.agg #[.int .i64 b.s, .bool b.b, .slice b.A b.n b.c, .int .i64 b.lv, .float .f64 b.x])) rfl (by kernel_rfl) (by kernel_rfl) (by kernel_rfl) (fun _ _ _ h => h) (Or.inl ⟨by kernel_rfl, by intro w hSw; (try dsimp only at hSw); obtain ⟨hl0, hl1, hl2, hl3, hl4⟩ := hSw; obtain ⟨k0, k1, k2, k3, k4, _⟩ := hl1; clear hl0 hl2 hl3 hl4; go_simp⟩) (by assumption) ?_
    try simp (config := { maxSteps := 10000000 }) only [Act.put, List.getElem_toArray, List.getElem_cons_zero, List.getElem_cons_succ, List.setIfInBounds_toArray, List.set_cons_zero, List.set_cons_succ]
    refine wpAnyH_take (i := 15) (v := (.func (.func 29) #[] #[])) rfl (by kernel_rfl) (by kernel_rfl) (by kernel_rfl) (fun _ _ _ h => h) (Or.inl ⟨by kernel_rfl, by intro w hSw; clear hSw; go_simp⟩) (by assumption) ?_
    try simp (config := { maxSteps := 10000000 }) only [Act.put, List.getElem_toArray, List.getElem_cons_zero, List.getElem_cons_succ, List.setIfInBounds_toArray, List.set_cons_zero, List.set_cons_succ]
    refine wpAnyH_take (i := 16) (v := (.agg #[.int .i64 a.s, .bool a.b, .slice a.A a.n a.c, .int .i64 a.lv, .float .f64 a.x])) rfl (by kernel_rfl) (by kernel_rfl) (by kernel_rfl) (fun _ _ _ h => h) (Or.inl ⟨by kernel_rfl, by intro w hSw; (try dsimp only at hSw); obtain ⟨hl0, hl1, hl2, hl3, hl4⟩ := hSw; obtain ⟨k0, k1, k2, k3, k4, _⟩ := hl0; clear hl1 hl2 hl3 hl4; go_simp⟩) (by assumption) ?_
    try simp (config := { maxSteps := 10000000 }) only [Act.put, List.getElem_toArray, List.getElem_cons_zero, List.getElem_cons_succ, List.setIfInBounds_toArray, List.set_cons_zero, List.set_cons_succ]
    refine wpAnyH_take (i := 17) (v := (.agg #[.int .i64 c.s, .bool c.b, .slice c.A c.n c.c, .int .i64 c.lv, .float .f64 c.x])) rfl (by kernel_rfl) (by kernel_rfl) (by kernel_rfl) (fun _ _ _ h => h) (Or.inl ⟨by kernel_rfl, by intro w hSw; (try dsimp only at hSw); obtain ⟨hl0, hl1, hl2, hl3, hl4⟩ := hSw; obtain ⟨k0, k1, k2, k3, k4, _⟩ := hl2; clear hl0 hl1 hl3 hl4; go_simp⟩) (by assumption) ?_
    try simp (config := { maxSteps := 10000000 }) only [Act.put, List.getElem_toArray, List.getElem_cons_zero, List.getElem_cons_succ, List.setIfInBounds_toArray, List.set_cons_zero, List.set_cons_succ]
    refine wpAnyH_ready (rs := [8]) (by kernel_rfl) (by simp) ?_
    refine AllReadyH.cons rfl (fun K hK => ?_) AllReadyH.nil
    go_simp
    go_at_call 28
    have hP := Lib.hid (bothE_zero.2 ⟨Mb.out, Mc.out, (hab.out.trans hac.out.symm)⟩ : bothE b c = 0)
    have hN1 : max b.n c.n + 1 ≤ 61 := (by have h1 := b_n.out; have h2 := c_n.out; omega)
    have hN2 : 61 ≤ 1099511627776 := (by decide)
    with_reducible refine (plusK b c _ 61 Fb.out.ok Fc.out.ok hN1 hN2 hP).mono ?_
    rintro e wk16 ⟨r17, rfl, rok, rC, rc, rn, hbwk16⟩
    have BB := Lib.hid (below_go BB.out hbwk16)
    have TT := Lib.hid (TT.out.below hbwk16)
    have Fa := Lib.hid (Fa.out.go hbwk16)
    have Fb := Lib.hid (Fb.out.go hbwk16)
    have Fc := Lib.hid (Fc.out.go hbwk16)
    have Fvz := Lib.hid (Fvz.out.go hbwk16)
    have Fvo := Lib.hid (Fvo.out.go hbwk16)
    have Kr17 := Lib.hid rok
    have r17_n := rn
    have r17_C : Hid (r17.con = (plusC b.con c.con)) := Lib.hid (rC.out.trans (by rfl))
    have r17_s := Lib.hid (show r17.s = a.s from (con_s rC.out).trans ((plusC_s _ _).trans hab.out))
    have r17_m := Lib.hid (may_at rok rc.out rC.out (may_plusC hP.out))
    clear hP hN1 hN2 rok rC rc rn hbwk16
    go_wp2_with fail
    refine hK.out _ _ ⟨Fa.out, Fb.out, Fc.out, Fvz.out, Fvo.out⟩ (fun hHeld => ?_)
    clear hK K
    try simp (config := { maxSteps := 10000000 }) only [Act.put, List.getElem_toArray, List.getElem_cons_zero, List.getElem_cons_succ, List.setIfInBounds_toArray, List.set_cons_zero, List.set_cons_succ]
    refine wpAnyH_ready (rs := [9]) (by kernel_rfl) (by simp) ?_
    refine AllReadyH.cons rfl (fun K hK => ?_) AllReadyH.nil
    go_simp
    go_at_call 29
    have hP := Lib.hid (bothE_zero.2 ⟨Ma.out, r17_m.out, r17_s.out.symm⟩ : bothE a r17 = 0)
    have hN1 : a.n + r17.n + 1 ≤ 122 := (by have h1 := a_n.out; have h2 := r17_n.out; omega)
    have hN2 : 122 ≤ 1099511627776 := (by decide)
    with_reducible refine (timesK a r17 _ 122 Fa.out.ok Kr17.out hN1 hN2 hP).mono ?_
    rintro e wk17 ⟨r18, rfl, rok, rC, rc, rn, hbwk17⟩
    have BB := Lib.hid (below_go BB.out hbwk17)
    have TT := Lib.hid (TT.out.below hbwk17)
    have Fa := Lib.hid (Fa.out.go hbwk17)
    have Fb := Lib.hid (Fb.out.go hbwk17)
    have Fc := Lib.hid (Fc.out.go hbwk17)
    have Fvz := Lib.hid (Fvz.out.go hbwk17)
    have Fvo := Lib.hid (Fvo.out.go hbwk17)
    have Kr17 := Lib.hid (Kr17.out.below hbwk17)
    have Kr18 := Lib.hid rok
    have r18_n := rn
    have r18_C : Hid (r18.con = (timesC a.con (plusC b.con c.con))) := Lib.hid (rC.out.trans (by rw [r17_C.out]))
    have r18_s := Lib.hid (show r18.s = a.s from (con_s rC.out).trans ((timesC_s _ _).trans rfl))
    have r18_m := Lib.hid (may_at rok rc.out rC.out (may_timesC hP.out))
    clear hP hN1 hN2 rok rC rc rn hbwk17
    go_wp2_with fail
    refine hK.out _ _ ⟨Fa.out, Fb.out, Fc.out, Fvz.out, Fvo.out⟩ (fun hHeld => ?_)
    clear hK K
    try simp (config := { maxSteps := 10000000 }) only [Act.put, List.getElem_toArray, List.getElem_cons_zero, List.getElem_cons_succ, List.setIfInBounds_toArray, List.set_cons_zero, List.set_cons_succ]
    refine wpAnyH_ready (rs := [14]) (by kernel_rfl) (by simp) ?_
    refine AllReadyH.cons rfl (fun K hK => ?_) AllReadyH.nil
    go_simp
    go_at_call 29
    have hP := Lib.hid (bothE_zero.2 ⟨Ma.out, Mb.out, hab.out.symm⟩ : bothE a b = 0)
    have hN1 : a.n + b.n + 1 ≤ 121 := (by have h1 := a_n.out; have h2 := b_n.out; omega)
    have hN2 : 121 ≤ 1099511627776 := (by decide)
    with_reducible refine (timesK a b _ 121 Fa.out.ok Fb.out.ok hN1 hN2 hP).mono ?_
    rintro e wk18 ⟨r19, rfl, rok, rC, rc, rn, hbwk18⟩
    have BB := Lib.hid (below_go BB.out hbwk18)
    have TT := Lib.hid (TT.out.below hbwk18)
    have Fa := Lib.hid (Fa.out.go hbwk18)
    have Fb := Lib.hid (Fb.out.go hbwk18)
    have Fc := Lib.hid (Fc.out.go hbwk18)
    have Fvz := Lib.hid (Fvz.out.go hbwk18)
    have Fvo := Lib.hid (Fvo.out.go hbwk18)
    have Kr17 := Lib.hid (Kr17.out.below hbwk18)
    have Kr18 := Lib.hid (Kr18.out.below hbwk18)
    have Kr19 := Lib.hid rok
    have r19_n := rn
    have r19_C : Hid (r19.con = (timesC a.con b.con)) := Lib.hid (rC.out.trans (by rfl))
    have r19_s := Lib.hid (show r19.s = a.s from (con_s rC.out).trans ((timesC_s _ _).trans rfl))
    have r19_m := Lib.hid (may_at rok rc.out rC.out (may_timesC hP.out))
    clear hP hN1 hN2 rok rC rc rn hbwk18
    go_wp2_with fail
    refine hK.out _ _ ⟨Fa.out, Fb.out, Fc.out, Fvz.out, Fvo.out⟩ (fun hHeld => ?_)
    clear hK K
    try simp (config := { maxSteps := 10000000 }) only [Act.put, List.getElem_toArray, List.getElem_cons_zero, List.getElem_cons_succ, List.setIfInBounds_toArray, List.set_cons_zero, List.set_cons_succ]
    refine wpAnyH_ready (rs := [18]) (by kernel_rfl) (by simp) ?_
    refine AllReadyH.cons rfl (fun K hK => ?_) AllReadyH.nil
    go_simp
    go_at_call 29
    have hP := Lib.hid (bothE_zero.2 ⟨Ma.out, Mc.out, hac.out.symm⟩ : bothE a c = 0)
    have hN1 : a.n + c.n + 1 ≤ 121 := (by have h1 := a_n.out; have h2 := c_n.out; omega)
    have hN2 : 121 ≤ 1099511627776 := (by decide)
    with_reducible refine (timesK a c _ 121 Fa.out.ok Fc.out.ok hN1 hN2 hP).mono ?_
    rintro e wk19 ⟨r20, rfl, rok, rC, rc, rn, hbwk19⟩
    have BB := Lib.hid (below_go BB.out hbwk19)
    have TT := Lib.hid (TT.out.below hbwk19)
    have Fa := Lib.hid (Fa.out.go hbwk19)
    have Fb := Lib.hid (Fb.out.go hbwk19)
    have Fc := Lib.hid (Fc.out.go hbwk19)
    have Fvz := Lib.hid (Fvz.out.go hbwk19)
    have Fvo := Lib.hid (Fvo.out.go hbwk19)
    have Kr17 := Lib.hid (Kr17.out.below hbwk19)
    have Kr18 := Lib.hid (Kr18.out.below hbwk19)
    have Kr19 := Lib.hid (Kr19.out.below hbwk19)
    have Kr20 := Lib.hid rok
    have r20_n := rn
    have r20_C : Hid (r20.con = (timesC a.con c.con)) := Lib.hid (rC.out.trans (by rfl))
    have r20_s := Lib.hid (show r20.s = a.s from (con_s rC.out).trans ((timesC_s _ _).trans rfl))
    have r20_m := Lib.hid (may_at rok rc.out rC.out (may_timesC hP.out))
    clear hP hN1 hN2 rok rC rc rn hbwk19
    go_wp2_with fail
    refine hK.out _ _ ⟨Fa.out, Fb.out, Fc.out, Fvz.out, Fvo.out⟩ (fun hHeld => ?_)
    clear hK K
    try simp (config := { maxSteps := 10000000 }) only [Act.put, List.getElem_toArray, List.getElem_cons_zero, List.getElem_cons_succ, List.setIfInBounds_toArray, List.set_cons_zero, List.set_cons_succ]
    refine wpAnyH_ready (rs := [19]) (by kernel_rfl) (by simp) ?_
    refine AllReadyH.cons rfl (fun K hK => ?_) AllReadyH.nil
    go_simp
    go_at_call 28
    have hP := Lib.hid (bothE_zero.2 ⟨r19_m.out, r20_m.out, (r19_s.out.trans r20_s.out.symm)⟩ : bothE r19 r20 = 0)
    have hN1 : max r19.n r20.n + 1 ≤ 122 := (by have h1 := r19_n.out; have h2 := r20_n.out; omega)
    have hN2 : 122 ≤ 1099511627776 := (by decide)
    with_reducible refine (plusK r19 r20 _ 122 Kr19.out Kr20.out hN1 hN2 hP).mono ?_
    rintro e wk20 ⟨r21, rfl, rok, rC, rc, rn, hbwk20⟩
    have BB := Lib.hid (below_go BB.out hbwk20)
    have TT := Lib.hid (TT.out.below hbwk20)
    have Fa := Lib.hid (Fa.out.go hbwk20)
    have Fb := Lib.hid (Fb.out.go hbwk20)
    have Fc := Lib.hid (Fc.out.go hbwk20)
    have Fvz := Lib.hid (Fvz.out.go hbwk20)
    have Fvo := Lib.hid (Fvo.out.go hbwk20)
    have Kr17 := Lib.hid (Kr17.out.below hbwk20)
    have Kr18 := Lib.hid (Kr18.out.below hbwk20)
    have Kr19 := Lib.hid (Kr19.out.below hbwk20)
    have Kr20 := Lib.hid (Kr20.out.below hbwk20)
    have Kr21 := Lib.hid rok
    have r21_n := rn
    have r21_C : Hid (r21.con = (plusC (timesC a.con b.con) (timesC a.con c.con))) := Lib.hid (rC.out.trans (by rw [r19_C.out, r20_C.out]))
    have r21_s := Lib.hid (show r21.s = a.s from (con_s rC.out).trans ((plusC_s _ _).trans r19_s.out))
    have r21_m := Lib.hid (may_at rok rc.out rC.out (may_plusC hP.out))
    clear hP hN1 hN2 rok rC rc rn hbwk20
    go_wp2_with fail
    refine hK.out _ _ ⟨Fa.out, Fb.out, Fc.out, Fvz.out, Fvo.out⟩ (fun hHeld => ?_)
    clear hK K
    try simp (config := { maxSteps := 10000000 }) only [Act.put, List.getElem_toArray, List.getElem_cons_zero, List.getElem_cons_succ, List.setIfInBounds_toArray, List.set_cons_zero, List.set_cons_succ]
    refine wpAnyH_ready (rs := [20]) (by kernel_rfl) (by simp) ?_
    refine AllReadyH.cons rfl (fun K hK => ?_) AllReadyH.nil
    go_simp
    go_at_call 23
    have hQ := Lib.hid (same_at r18_m.out r21_m.out (r18_s.out.trans r21_s.out.symm) (by rw [r18_C.out, r21_C.out]; rw [times_plus (a := a.con) (b := b.con) (c := c.con) Va.out Vb.out Vc.out hab.out hac.out]; exact sameC_refl _))
    with_reducible refine (same_yes r18 r21 _ Kr18.out Kr21.out hQ).mono ?_
    rintro e wk21 ⟨rfl, hbwk21⟩
    have BB := Lib.hid (below_go BB.out hbwk21)
    have TT := Lib.hid (TT.out.below hbwk21)
    have Fa := Lib.hid (Fa.out.go hbwk21)
    have Fb := Lib.hid (Fb.out.go hbwk21)
    have Fc := Lib.hid (Fc.out.go hbwk21)
    have Fvz := Lib.hid (Fvz.out.go hbwk21)
    have Fvo := Lib.hid (Fvo.out.go hbwk21)
    have Kr17 := Lib.hid (Kr17.out.below hbwk21)
    have Kr18 := Lib.hid (Kr18.out.below hbwk21)
    have Kr19 := Lib.hid (Kr19.out.below hbwk21)
    have Kr20 := Lib.hid (Kr20.out.below hbwk21)
    have Kr21 := Lib.hid (Kr21.out.below hbwk21)
    clear hQ hbwk21
    go_wp2_with fail
    refine hK.out _ _ ⟨Fa.out, Fb.out, Fc.out, Fvz.out, Fvo.out⟩ (fun hHeld => ?_)
    clear hK K
    try simp (config := { maxSteps := 10000000 }) only [Act.put, List.getElem_toArray, List.getElem_cons_zero, List.getElem_cons_succ, List.setIfInBounds_toArray, List.set_cons_zero, List.set_cons_succ]
    refine wpAnyH_take (i := 21) (v := (.bool true)) rfl (by kernel_rfl) (by kernel_rfl) (by kernel_rfl) (fun _ _ _ h => h) (Or.inl ⟨by kernel_rfl, by intro w hSw; clear hSw; go_simp⟩) (by assumption) ?_
    try simp (config := { maxSteps := 10000000 }) only [Act.put, List.getElem_toArray, List.getElem_cons_zero, List.getElem_cons_succ, List.setIfInBounds_toArray, List.set_cons_zero, List.set_cons_succ]
    refine wpAnyH_take (i := 22) (v := (.bool true)) rfl (by kernel_rfl) (by kernel_rfl) (by kernel_rfl) (fun _ _ _ h => h) (Or.inl ⟨by kernel_rfl, by intro w hSw; clear hSw; go_simp⟩) (by assumption) ?_
    try simp (config := { maxSteps := 10000000 }) only [Act.put, List.getElem_toArray, List.getElem_cons_zero, List.getElem_cons_succ, List.setIfInBounds_toArray, List.set_cons_zero, List.set_cons_succ]
    refine wpAnyH_take (i := 23) (v := (.func (.func 23) #[] #[])) rfl (by kernel_rfl) (by kernel_rfl) (by kernel_rfl) (fun _ _ _ h => h) (Or.inl ⟨by kernel_rfl, by intro w hSw; clear hSw; go_simp⟩) (by assumption) ?_
    try simp (config := { maxSteps := 10000000 }) only [Act.put, List.getElem_toArray, List.getElem_cons_zero, List.getElem_cons_succ, List.setIfInBounds_toArray, List.set_cons_zero, List.set_cons_succ]
    refine wpAnyH_take (i := 24) (v := (.func (.func 28) #[] #[])) rfl (by kernel_rfl) (by kernel_rfl) (by kernel_rfl) (fun _ _ _ h => h) (Or.inl ⟨by kernel_rfl, by intro w hSw; clear hSw; go_simp⟩) (by assumption) ?_
    try simp (config := { maxSteps := 10000000 }) only [Act.put, List.getElem_toArray, List.getElem_cons_zero, List.getElem_cons_succ, List.setIfInBounds_toArray, List.set_cons_zero, List.set_cons_succ]
    refine wpAnyH_take (i := 25) (v := (.agg #[.int .i64 a.s, .bool a.b, .slice a.A a.n a.c, .int .i64 a.lv, .float .f64 a.x])) rfl (by kernel_rfl) (by kernel_rfl) (by kernel_rfl) (fun _ _ _ h => h) (Or.inl ⟨by kernel_rfl, by intro w hSw; (try dsimp only at hSw); obtain ⟨hl0, hl1, hl2, hl3, hl4⟩ := hSw; obtain ⟨k0, k1, k2, k3, k4, _⟩ := hl0; clear hl1 hl2 hl3 hl4; go_simp⟩) (by assumption) ?_
    try simp (config := { maxSteps := 10000000 }) only [Act.put, List.getElem_toArray, List.getElem_cons_zero, List.getElem_cons_succ, List.setIfInBounds_toArray, List.set_cons_zero, List.set_cons_succ]
    refine wpAnyH_take (i := 26) (v := (.agg #[.int .i64 vz.s, .bool vz.b, .slice vz.A vz.n vz.c, .int .i64 vz.lv, .float .f64 vz.x])) rfl (by kernel_rfl) (by kernel_rfl) (by kernel_rfl) (fun _ _ _ h => h) (Or.inl ⟨by kernel_rfl, by intro w hSw; (try dsimp only at hSw); obtain ⟨hl0, hl1, hl2, hl3, hl4⟩ := hSw; obtain ⟨k0, k1, k2, k3, k4, _⟩ := hl3; clear hl0 hl1 hl2 hl4; go_simp⟩) (by assumption) ?_
    try simp (config := { maxSteps := 10000000 }) only [Act.put, List.getElem_toArray, List.getElem_cons_zero, List.getElem_cons_succ, List.setIfInBounds_toArray, List.set_cons_zero, List.set_cons_succ]
    refine wpAnyH_take (i := 28) (v := (.agg #[.int .i64 a.s, .bool a.b, .slice a.A a.n a.c, .int .i64 a.lv, .float .f64 a.x])) rfl (by kernel_rfl) (by kernel_rfl) (by kernel_rfl) (fun _ _ _ h => h) (Or.inl ⟨by kernel_rfl, by intro w hSw; (try dsimp only at hSw); obtain ⟨hl0, hl1, hl2, hl3, hl4⟩ := hSw; obtain ⟨k0, k1, k2, k3, k4, _⟩ := hl0; clear hl1 hl2 hl3 hl4; go_simp⟩) (by assumption) ?_
    try simp (config := { maxSteps := 10000000 }) only [Act.put, List.getElem_toArray, List.getElem_cons_zero, List.getElem_cons_succ, List.setIfInBounds_toArray, List.set_cons_zero, List.set_cons_succ]
    refine wpAnyH_ready (rs := [27]) (by kernel_rfl) (by simp) ?_
    refine AllReadyH.cons rfl (fun K hK => ?_) AllReadyH.nil
    go_simp
    go_at_call 28
    have hP := Lib.hid (bothE_zero.2 ⟨Ma.out, vz_m.out, vz_s.out.symm⟩ : bothE a vz = 0)
    have hN1 : max a.n vz.n + 1 ≤ 61 := (by have h1 := a_n.out; have h2 := vz_n.out; omega)
    have hN2 : 61 ≤ 1099511627776 := (by decide)
    with_reducible refine (plusK a vz _ 61 Fa.out.ok Fvz.out.ok hN1 hN2 hP).mono ?_
    rintro e wk22 ⟨r23, rfl, rok, rC, rc, rn, hbwk22⟩
    have BB := Lib.hid (below_go BB.out hbwk22)
    have TT := Lib.hid (TT.out.below hbwk22)
    have Fa := Lib.hid (Fa.out.go hbwk22)
    have Fb := Lib.hid (Fb.out.go hbwk22)
    have Fc := Lib.hid (Fc.out.go hbwk22)
    have Fvz := Lib.hid (Fvz.out.go hbwk22)
    have Fvo := Lib.hid (Fvo.out.go hbwk22)
    have Kr17 := Lib.hid (Kr17.out.below hbwk22)
    have Kr18 := Lib.hid (Kr18.out.below hbwk22)
    have Kr19 := Lib.hid (Kr19.out.below hbwk22)
    have Kr20 := Lib.hid (Kr20.out.below hbwk22)
    have Kr21 := Lib.hid (Kr21.out.below hbwk22)
    have Kr23 := Lib.hid rok
    have r23_n := rn
    have r23_C : Hid (r23.con = (plusC a.con (zeroC a.s))) := Lib.hid (rC.out.trans (by rw [vz_C.out]))
    have r23_s := Lib.hid (show r23.s = a.s from (con_s rC.out).trans ((plusC_s _ _).trans rfl))
    have r23_m := Lib.hid (may_at rok rc.out rC.out (may_plusC hP.out))
    clear hP hN1 hN2 rok rC rc rn hbwk22
    go_wp2_with fail
    refine hK.out _ _ ⟨Fa.out, Fb.out, Fc.out, Fvz.out, Fvo.out⟩ (fun hHeld => ?_)
    clear hK K
    try simp (config := { maxSteps := 10000000 }) only [Act.put, List.getElem_toArray, List.getElem_cons_zero, List.getElem_cons_succ, List.setIfInBounds_toArray, List.set_cons_zero, List.set_cons_succ]
    refine wpAnyH_ready (rs := [29]) (by kernel_rfl) (by simp) ?_
    refine AllReadyH.cons rfl (fun K hK => ?_) AllReadyH.nil
    go_simp
    go_at_call 23
    have hQ := Lib.hid (same_at r23_m.out Ma.out r23_s.out (by rw [r23_C.out]; exact plus_zero Va.out))
    with_reducible refine (same_yes r23 a _ Kr23.out Fa.out.ok hQ).mono ?_
    rintro e wk23 ⟨rfl, hbwk23⟩
    have BB := Lib.hid (below_go BB.out hbwk23)
    have TT := Lib.hid (TT.out.below hbwk23)
    have Fa := Lib.hid (Fa.out.go hbwk23)
    have Fb := Lib.hid (Fb.out.go hbwk23)
    have Fc := Lib.hid (Fc.out.go hbwk23)
    have Fvz := Lib.hid (Fvz.out.go hbwk23)
    have Fvo := Lib.hid (Fvo.out.go hbwk23)
    have Kr17 := Lib.hid (Kr17.out.below hbwk23)
    have Kr18 := Lib.hid (Kr18.out.below hbwk23)
    have Kr19 := Lib.hid (Kr19.out.below hbwk23)
    have Kr20 := Lib.hid (Kr20.out.below hbwk23)
    have Kr21 := Lib.hid (Kr21.out.below hbwk23)
    have Kr23 := Lib.hid (Kr23.out.below hbwk23)
    clear hQ hbwk23
    go_wp2_with fail
    refine hK.out _ _ ⟨Fa.out, Fb.out, Fc.out, Fvz.out, Fvo.out⟩ (fun hHeld => ?_)
    clear hK K
    try simp (config := { maxSteps := 10000000 }) only [Act.put, List.getElem_toArray, List.getElem_cons_zero, List.getElem_cons_succ, List.setIfInBounds_toArray, List.set_cons_zero, List.set_cons_succ]
    refine wpAnyH_take (i := 30) (v := (.bool true)) rfl (by kernel_rfl) (by kernel_rfl) (by kernel_rfl) (fun _ _ _ h => h) (Or.inl ⟨by kernel_rfl, by intro w hSw; clear hSw; go_simp⟩) (by assumption) ?_
    try simp (config := { maxSteps := 10000000 }) only [Act.put, List.getElem_toArray, List.getElem_cons_zero, List.getElem_cons_succ, List.setIfInBounds_toArray, List.set_cons_zero, List.set_cons_succ]
    refine wpAnyH_take (i := 31) (v := (.bool true)) rfl (by kernel_rfl) (by kernel_rfl) (by kernel_rfl) (fun _ _ _ h => h) (Or.inl ⟨by kernel_rfl, by intro w hSw; clear hSw; go_simp⟩) (by assumption) ?_
    try simp (config := { maxSteps := 10000000 }) only [Act.put, List.getElem_toArray, List.getElem_cons_zero, List.getElem_cons_succ, List.setIfInBounds_toArray, List.set_cons_zero, List.set_cons_succ]
    refine wpAnyH_take (i := 32) (v := (.func (.func 23) #[] #[])) rfl (by kernel_rfl) (by kernel_rfl) (by kernel_rfl) (fun _ _ _ h => h) (Or.inl ⟨by kernel_rfl, by intro w hSw; clear hSw; go_simp⟩) (by assumption) ?_
    try simp (config := { maxSteps := 10000000 }) only [Act.put, List.getElem_toArray, List.getElem_cons_zero, List.getElem_cons_succ, List.setIfInBounds_toArray, List.set_cons_zero, List.set_cons_succ]
    refine wpAnyH_take (i := 33) (v := (.func (.func 29) #[] #[])) rfl (by kernel_rfl) (by kernel_rfl) (by kernel_rfl) (fun _ _ _ h => h) (Or.inl ⟨by kernel_rfl, by intro w hSw; clear hSw; go_simp⟩) (by assumption) ?_
    try simp (config := { maxSteps := 10000000 }) only [Act.put, List.getElem_toArray, List.getElem_cons_zero, List.getElem_cons_succ, List.setIfInBounds_toArray, List.set_cons_zero, List.set_cons_succ]
    refine wpAnyH_take (i := 34) (v := (.agg #[.int .i64 a.s, .bool a.b, .slice a.A a.n a.c, .int .i64 a.lv, .float .f64 a.x])) rfl (by kernel_rfl) (by kernel_rfl) (by kernel_rfl) (fun _ _ _ h => h) (Or.inl ⟨by kernel_rfl, by intro w hSw; (try dsimp only at hSw); obtain ⟨hl0, hl1, hl2, hl3, hl4⟩ := hSw; obtain ⟨k0, k1, k2, k3, k4, _⟩ := hl0; clear hl1 hl2 hl3 hl4; go_simp⟩) (by assumption) ?_
    try simp (config := { maxSteps := 10000000 }) only [Act.put, List.getElem_toArray, List.getElem_cons_zero, List.getElem_cons_succ, List.setIfInBounds_toArray, List.set_cons_zero, List.set_cons_succ]
    refine wpAnyH_take (i := 35) (v := (.agg #[.int .i64 vo.s, .bool vo.b, .slice vo.A vo.n vo.c, .int .i64 vo.lv, .float .f64 vo.x])) rfl (by kernel_rfl) (by kernel_rfl) (by kernel_rfl) (fun _ _ _ h => h) (Or.inl ⟨by kernel_rfl, by intro w hSw; (try dsimp only at hSw); obtain ⟨hl0, hl1, hl2, hl3, hl4⟩ := hSw; obtain ⟨k0, k1, k2, k3, k4, _⟩ := hl4; clear hl0 hl1 hl2 hl3; go_simp⟩) (by assumption) ?_
    try simp (config := { maxSteps := 10000000 }) only [Act.put, List.getElem_toArray, List.getElem_cons_zero, List.getElem_cons_succ, List.setIfInBounds_toArray, List.set_cons_zero, List.set_cons_succ]
    refine wpAnyH_take (i := 37) (v := (.agg #[.int .i64 a.s, .bool a.b, .slice a.A a.n a.c, .int .i64 a.lv, .float .f64 a.x])) rfl (by kernel_rfl) (by kernel_rfl) (by kernel_rfl) (fun _ _ _ h => h) (Or.inl ⟨by kernel_rfl, by intro w hSw; (try dsimp only at hSw); obtain ⟨hl0, hl1, hl2, hl3, hl4⟩ := hSw; obtain ⟨k0, k1, k2, k3, k4, _⟩ := hl0; clear hl1 hl2 hl3 hl4; go_simp⟩) (by assumption) ?_
    try simp (config := { maxSteps := 10000000 }) only [Act.put, List.getElem_toArray, List.getElem_cons_zero, List.getElem_cons_succ, List.setIfInBounds_toArray, List.set_cons_zero, List.set_cons_succ]
    refine wpAnyH_ready (rs := [36]) (by kernel_rfl) (by simp) ?_
    refine AllReadyH.cons rfl (fun K hK => ?_) AllReadyH.nil
    go_simp
    go_at_call 29
    have hP := Lib.hid (bothE_zero.2 ⟨Ma.out, vo_m.out, vo_s.out.symm⟩ : bothE a vo = 0)
    have hN1 : a.n + vo.n + 1 ≤ 63 := (by have h1 := a_n.out; have h2 := vo_n.out; omega)
    have hN2 : 63 ≤ 1099511627776 := (by decide)
    with_reducible refine (timesK a vo _ 63 Fa.out.ok Fvo.out.ok hN1 hN2 hP).mono ?_
    rintro e wk24 ⟨r25, rfl, rok, rC, rc, rn, hbwk24⟩
    have BB := Lib.hid (below_go BB.out hbwk24)
    have TT := Lib.hid (TT.out.below hbwk24)
    have Fa := Lib.hid (Fa.out.go hbwk24)
    have Fb := Lib.hid (Fb.out.go hbwk24)
    have Fc := Lib.hid (Fc.out.go hbwk24)
    have Fvz := Lib.hid (Fvz.out.go hbwk24)
    have Fvo := Lib.hid (Fvo.out.go hbwk24)
    have Kr17 := Lib.hid (Kr17.out.below hbwk24)
    have Kr18 := Lib.hid (Kr18.out.below hbwk24)
    have Kr19 := Lib.hid (Kr19.out.below hbwk24)
    have Kr20 := Lib.hid (Kr20.out.below hbwk24)
    have Kr21 := Lib.hid (Kr21.out.below hbwk24)
    have Kr23 := Lib.hid (Kr23.out.below hbwk24)
    have Kr25 := Lib.hid rok
    have r25_n := rn
    have r25_C : Hid (r25.con = (timesC a.con (oneC a.s))) := Lib.hid (rC.out.trans (by rw [vo_C.out]))
    have r25_s := Lib.hid (show r25.s = a.s from (con_s rC.out).trans ((timesC_s _ _).trans rfl))
    have r25_m := Lib.hid (may_at rok rc.out rC.out (may_timesC hP.out))
    clear hP hN1 hN2 rok rC rc rn hbwk24
    go_wp2_with fail
    refine hK.out _ _ ⟨Fa.out, Fb.out, Fc.out, Fvz.out, Fvo.out⟩ (fun hHeld => ?_)
    clear hK K
    try simp (config := { maxSteps := 10000000 }) only [Act.put, List.getElem_toArray, List.getElem_cons_zero, List.getElem_cons_succ, List.setIfInBounds_toArray, List.set_cons_zero, List.set_cons_succ]
    refine wpAnyH_ready (rs := [38]) (by kernel_rfl) (by simp) ?_
    refine AllReadyH.cons rfl (fun K hK => ?_) AllReadyH.nil
    go_simp
    go_at_call 23
    have hQ := Lib.hid (same_at r25_m.out Ma.out r25_s.out (by rw [r25_C.out]; exact times_one Va.out))
    with_reducible refine (same_yes r25 a _ Kr25.out Fa.out.ok hQ).mono ?_
    rintro e wk25 ⟨rfl, hbwk25⟩
    have BB := Lib.hid (below_go BB.out hbwk25)
    have TT := Lib.hid (TT.out.below hbwk25)
    have Fa := Lib.hid (Fa.out.go hbwk25)
    have Fb := Lib.hid (Fb.out.go hbwk25)
    have Fc := Lib.hid (Fc.out.go hbwk25)
    have Fvz := Lib.hid (Fvz.out.go hbwk25)
    have Fvo := Lib.hid (Fvo.out.go hbwk25)
    have Kr17 := Lib.hid (Kr17.out.below hbwk25)
    have Kr18 := Lib.hid (Kr18.out.below hbwk25)
    have Kr19 := Lib.hid (Kr19.out.below hbwk25)
    have Kr20 := Lib.hid (Kr20.out.below hbwk25)
    have Kr21 := Lib.hid (Kr21.out.below hbwk25)
    have Kr23 := Lib.hid (Kr23.out.below hbwk25)
    have Kr25 := Lib.hid (Kr25.out.below hbwk25)
    clear hQ hbwk25
    go_wp2_with fail
    refine hK.out _ _ ⟨Fa.out, Fb.out, Fc.out, Fvz.out, Fvo.out⟩ (fun hHeld => ?_)
    clear hK K
    try simp (config := { maxSteps := 10000000 }) only [Act.put, List.getElem_toArray, List.getElem_cons_zero, List.getElem_cons_succ, List.setIfInBounds_toArray, List.set_cons_zero, List.set_cons_succ]
    refine wpAnyH_take (i := 39) (v := (.bool true)) rfl (by kernel_rfl) (by kernel_rfl) (by kernel_rfl) (fun _ _ _ h => h) (Or.inl ⟨by kernel_rfl, by intro w hSw; clear hSw; go_simp⟩) (by assumption) ?_
    try simp (config := { maxSteps := 10000000 }) only [Act.put, List.getElem_toArray, List.getElem_cons_zero, List.getElem_cons_succ, List.setIfInBounds_toArray, List.set_cons_zero, List.set_cons_succ]
    refine wpAnyH_take (i := 40) (v := (.bool true)) rfl (by kernel_rfl) (by kernel_rfl) (by kernel_rfl) (fun _ _ _ h => h) (Or.inl ⟨by kernel_rfl, by intro w hSw; clear hSw; go_simp⟩) (by assumption) ?_
    try simp (config := { maxSteps := 10000000 }) only [Act.put, List.getElem_toArray, List.getElem_cons_zero, List.getElem_cons_succ, List.setIfInBounds_toArray, List.set_cons_zero, List.set_cons_succ]
    refine wpAnyH_take (i := 41) (v := (.func (.func 23) #[] #[])) rfl (by kernel_rfl) (by kernel_rfl) (by kernel_rfl) (fun _ _ _ h => h) (Or.inl ⟨by kernel_rfl, by intro w hSw; clear hSw; go_simp⟩) (by assumption) ?_
    try simp (config := { maxSteps := 10000000 }) only [Act.put, List.getElem_toArray, List.getElem_cons_zero, List.getElem_cons_succ, List.setIfInBounds_toArray, List.set_cons_zero, List.set_cons_succ]
    refine wpAnyH_take (i := 42) (v := (.func (.func 29) #[] #[])) rfl (by kernel_rfl) (by kernel_rfl) (by kernel_rfl) (fun _ _ _ h => h) (Or.inl ⟨by kernel_rfl, by intro w hSw; clear hSw; go_simp⟩) (by assumption) ?_
    try simp (config := { maxSteps := 10000000 }) only [Act.put, List.getElem_toArray, List.getElem_cons_zero, List.getElem_cons_succ, List.setIfInBounds_toArray, List.set_cons_zero, List.set_cons_succ]
    refine wpAnyH_take (i := 43) (v := (.agg #[.int .i64 a.s, .bool a.b, .slice a.A a.n a.c, .int .i64 a.lv, .float .f64 a.x])) rfl (by kernel_rfl) (by kernel_rfl) (by kernel_rfl) (fun _ _ _ h => h) (Or.inl ⟨by kernel_rfl, by intro w hSw; (try dsimp only at hSw); obtain ⟨hl0, hl1, hl2, hl3, hl4⟩ := hSw; obtain ⟨k0, k1, k2, k3, k4, _⟩ := hl0; clear hl1 hl2 hl3 hl4; go_simp⟩) (by assumption) ?_
    try simp (config := { maxSteps := 10000000 }) only [Act.put, List.getElem_toArray, List.getElem_cons_zero, List.getElem_cons_succ, List.setIfInBounds_toArray, List.set_cons_zero, List.set_cons_succ]
    refine wpAnyH_take (i := 44) (v := (.agg #[.int .i64 vz.s, .bool vz.b, .slice vz.A vz.n vz.c, .int .i64 vz.lv, .float .f64 vz.x])) rfl (by kernel_rfl) (by kernel_rfl) (by kernel_rfl) (fun _ _ _ h => h) (Or.inl ⟨by kernel_rfl, by intro w hSw; (try dsimp only at hSw); obtain ⟨hl0, hl1, hl2, hl3, hl4⟩ := hSw; obtain ⟨k0, k1, k2, k3, k4, _⟩ := hl3; clear hl0 hl1 hl2 hl4; go_simp⟩) (by assumption) ?_
    try simp (config := { maxSteps := 10000000 }) only [Act.put, List.getElem_toArray, List.getElem_cons_zero, List.getElem_cons_succ, List.setIfInBounds_toArray, List.set_cons_zero, List.set_cons_succ]
    refine wpAnyH_take (i := 46) (v := (.agg #[.int .i64 vz.s, .bool vz.b, .slice vz.A vz.n vz.c, .int .i64 vz.lv, .float .f64 vz.x])) rfl (by kernel_rfl) (by kernel_rfl) (by kernel_rfl) (fun _ _ _ h => h) (Or.inl ⟨by kernel_rfl, by intro w hSw; (try dsimp only at hSw); obtain ⟨hl0, hl1, hl2, hl3, hl4⟩ := hSw; obtain ⟨k0, k1, k2, k3, k4, _⟩ := hl3; clear hl0 hl1 hl2 hl4; go_simp⟩) (by assumption) ?_
    try simp (config := { maxSteps := 10000000 }) only [Act.put, List.getElem_toArray, List.getElem_cons_zero, List.getElem_cons_succ, List.setIfInBounds_toArray, List.set_cons_zero, List.set_cons_succ]
    refine wpAnyH_ready (rs := [45]) (by kernel_rfl) (by simp) ?_
    refine AllReadyH.cons rfl (fun K hK => ?_) AllReadyH.nil
    go_simp
    go_at_call 29
    have hP := Lib.hid (bothE_zero.2 ⟨Ma.out, vz_m.out, vz_s.out.symm⟩ : bothE a vz = 0)
    have hN1 : a.n + vz.n + 1 ≤ 63 := (by have h1 := a_n.out; have h2 := vz_n.out; omega)
    have hN2 : 63 ≤ 1099511627776 := (by decide)
    with_reducible refine (timesK a vz _ 63 Fa.out.ok Fvz.out.ok hN1 hN2 hP).mono ?_
    rintro e wk26 ⟨r27, rfl, rok, rC, rc, rn, hbwk26⟩
    have BB := Lib.hid (below_go BB.out hbwk26)
    have TT := Lib.hid (TT.out.below hbwk26)
    have Fa := Lib.hid (Fa.out.go hbwk26)
    have Fb := Lib.hid (Fb.out.go hbwk26)
    have Fc := Lib.hid (Fc.out.go hbwk26)
    have Fvz := Lib.hid (Fvz.out.go hbwk26)
    have Fvo := Lib.hid (Fvo.out.go hbwk26)
    have Kr17 := Lib.hid (Kr17.out.below hbwk26)
    have Kr18 := Lib.hid (Kr18.out.below hbwk26)
    have Kr19 := Lib.hid (Kr19.out.below hbwk26)
    have Kr20 := Lib.hid (Kr20.out.below hbwk26)
    have Kr21 := Lib.hid (Kr21.out.below hbwk26)
    have Kr23 := Lib.hid (Kr23.out.below hbwk26)
    have Kr25 := Lib.hid (Kr25.out.below hbwk26)
    have Kr27 := Lib.hid rok
    have r27_n := rn
    have r27_C : Hid (r27.con = (timesC a.con (zeroC a.s))) := Lib.hid (rC.out.trans (by rw [vz_C.out]))
    have r27_s := Lib.hid (show r27.s = a.s from (con_s rC.out).trans ((timesC_s _ _).trans rfl))
    have r27_m := Lib.hid (may_at rok rc.out rC.out (may_timesC hP.out))
    clear hP hN1 hN2 rok rC rc rn hbwk26
    go_wp2_with fail
    refine hK.out _ _ ⟨Fa.out, Fb.out, Fc.out, Fvz.out, Fvo.out⟩ (fun hHeld => ?_)
    clear hK K
    try simp (config := { maxSteps := 10000000 }) only [Act.put, List.getElem_toArray, List.getElem_cons_zero, List.getElem_cons_succ, List.setIfInBounds_toArray, List.set_cons_zero, List.set_cons_succ]
    refine wpAnyH_ready (rs := [47]) (by kernel_rfl) (by simp) ?_
    refine AllReadyH.cons rfl (fun K hK => ?_) AllReadyH.nil
    go_simp
    go_at_call 23
    have hQ := Lib.hid (same_at r27_m.out vz_m.out (r27_s.out.trans vz_s.out.symm) (by rw [r27_C.out, vz_C.out]; exact (congrArg (fun t => sameC t (zeroC a.s)) (times_zero Va.out)).trans (sameC_refl _)))
    with_reducible refine (same_yes r27 vz _ Kr27.out Fvz.out.ok hQ).mono ?_
    rintro e wk27 ⟨rfl, hbwk27⟩
    have BB := Lib.hid (below_go BB.out hbwk27)
    have TT := Lib.hid (TT.out.below hbwk27)
    have Fa := Lib.hid (Fa.out.go hbwk27)
    have Fb := Lib.hid (Fb.out.go hbwk27)
    have Fc := Lib.hid (Fc.out.go hbwk27)
    have Fvz := Lib.hid (Fvz.out.go hbwk27)
    have Fvo := Lib.hid (Fvo.out.go hbwk27)
    have Kr17 := Lib.hid (Kr17.out.below hbwk27)
    have Kr18 := Lib.hid (Kr18.out.below hbwk27)
    have Kr19 := Lib.hid (Kr19.out.below hbwk27)
    have Kr20 := Lib.hid (Kr20.out.below hbwk27)
    have Kr21 := Lib.hid (Kr21.out.below hbwk27)
    have Kr23 := Lib.hid (Kr23.out.below hbwk27)
    have Kr25 := Lib.hid (Kr25.out.below hbwk27)
    have Kr27 := Lib.hid (Kr27.out.below hbwk27)
    clear hQ hbwk27
    go_wp2_with fail
    refine hK.out _ _ ⟨Fa.out, Fb.out, Fc.out, Fvz.out, Fvo.out⟩ (fun hHeld => ?_)
    clear hK K
    try simp (config := { maxSteps := 10000000 }) only [Act.put, List.getElem_toArray, List.getElem_cons_zero, List.getElem_cons_succ, List.setIfInBounds_toArray, List.set_cons_zero, List.set_cons_succ]
    refine wpAnyH_take (i := 48) (v := (.bool true)) rfl (by kernel_rfl) (by kernel_rfl) (by kernel_rfl) (fun _ _ _ h => h) (Or.inl ⟨by kernel_rfl, by intro w hSw; clear hSw; go_simp⟩) (by assumption) ?_
    try simp (config := { maxSteps := 10000000 }) only [Act.put, List.getElem_toArray, List.getElem_cons_zero, List.getElem_cons_succ, List.setIfInBounds_toArray, List.set_cons_zero, List.set_cons_succ]
    refine wpAnyH_take (i := 49) (v := (.bool true)) rfl (by kernel_rfl) (by kernel_rfl) (by kernel_rfl) (fun _ _ _ h => h) (Or.inl ⟨by kernel_rfl, by intro w hSw; clear hSw; go_simp⟩) (by assumption) ?_
    try simp (config := { maxSteps := 10000000 }) only [Act.put, List.getElem_toArray, List.getElem_cons_zero, List.getElem_cons_succ, List.setIfInBounds_toArray, List.set_cons_zero, List.set_cons_succ]
    refine wpAnyH_take (i := 50) (v := (.agg #[.int .i64 vz.s, .bool vz.b, .slice vz.A vz.n vz.c, .int .i64 vz.lv, .float .f64 vz.x])) rfl (by kernel_rfl) (by kernel_rfl) (by kernel_rfl) (fun _ _ _ h => h) (Or.inl ⟨by kernel_rfl, by intro w hSw; (try dsimp only at hSw); obtain ⟨hl0, hl1, hl2, hl3, hl4⟩ := hSw; obtain ⟨k0, k1, k2, k3, k4, _⟩ := hl3; clear hl0 hl1 hl2 hl4; go_simp⟩) (by assumption) ?_
    try simp (config := { maxSteps := 10000000 }) only [Act.put, List.getElem_toArray, List.getElem_cons_zero, List.getElem_cons_succ, List.setIfInBounds_toArray, List.set_cons_zero, List.set_cons_succ]
    refine wpAnyH_ready (rs := [51]) (by kernel_rfl) (by simp) ?_
    refine AllReadyH.cons rfl (fun K hK => ?_) AllReadyH.nil
    go_simp
    go_at_call 25
    have hQ : Hid (isZE vz = true) := Lib.hid (by unfold isZE; rw [vz_m.out, vz_C.out, vz_s.out]; show (true && sameC (zeroC a.s) (zeroC a.s)) = true; rw [sameC_refl]; rfl)
    with_reducible refine (isz_is vz _ Fvz.out.ok hQ).mono ?_
    rintro e wk28 ⟨rfl, hbwk28⟩
    have BB := Lib.hid (below_go BB.out hbwk28)
    have TT := Lib.hid (TT.out.below hbwk28)
    have Fa := Lib.hid (Fa.out.go hbwk28)
    have Fb := Lib.hid (Fb.out.go hbwk28)
    have Fc := Lib.hid (Fc.out.go hbwk28)
    have Fvz := Lib.hid (Fvz.out.go hbwk28)
    have Fvo := Lib.hid (Fvo.out.go hbwk28)
    have Kr17 := Lib.hid (Kr17.out.below hbwk28)
    have Kr18 := Lib.hid (Kr18.out.below hbwk28)
    have Kr19 := Lib.hid (Kr19.out.below hbwk28)
    have Kr20 := Lib.hid (Kr20.out.below hbwk28)
    have Kr21 := Lib.hid (Kr21.out.below hbwk28)
    have Kr23 := Lib.hid (Kr23.out.below hbwk28)
    have Kr25 := Lib.hid (Kr25.out.below hbwk28)
    have Kr27 := Lib.hid (Kr27.out.below hbwk28)
    clear hQ hbwk28
    go_wp2_with fail
    refine hK.out _ _ ⟨Fa.out, Fb.out, Fc.out, Fvz.out, Fvo.out⟩ (fun hHeld => ?_)
    clear hK K
    try simp (config := { maxSteps := 10000000 }) only [Act.put, List.getElem_toArray, List.getElem_cons_zero, List.getElem_cons_succ, List.setIfInBounds_toArray, List.set_cons_zero, List.set_cons_succ]
    refine wpAnyH_take (i := 52) (v := (.bool true)) rfl (by kernel_rfl) (by kernel_rfl) (by kernel_rfl) (fun _ _ _ h => h) (Or.inl ⟨by kernel_rfl, by intro w hSw; clear hSw; go_simp⟩) (by assumption) ?_
    try simp (config := { maxSteps := 10000000 }) only [Act.put, List.getElem_toArray, List.getElem_cons_zero, List.getElem_cons_succ, List.setIfInBounds_toArray, List.set_cons_zero, List.set_cons_succ]
    refine wpAnyH_take (i := 53) (v := (.bool true)) rfl (by kernel_rfl) (by kernel_rfl) (by kernel_rfl) (fun _ _ _ h => h) (Or.inl ⟨by kernel_rfl, by intro w hSw; clear hSw; go_simp⟩) (by assumption) ?_
    try simp (config := { maxSteps := 10000000 }) only [Act.put, List.getElem_toArray, List.getElem_cons_zero, List.getElem_cons_succ, List.setIfInBounds_toArray, List.set_cons_zero, List.set_cons_succ]
    refine wpAnyH_take (i := 54) (v := (.agg #[.int .i64 vo.s, .bool vo.b, .slice vo.A vo.n vo.c, .int .i64 vo.lv, .float .f64 vo.x])) rfl (by kernel_rfl) (by kernel_rfl) (by kernel_rfl) (fun _ _ _ h => h) (Or.inl ⟨by kernel_rfl, by intro w hSw; (try dsimp only at hSw); obtain ⟨hl0, hl1, hl2, hl3, hl4⟩ := hSw; obtain ⟨k0, k1, k2, k3, k4, _⟩ := hl4; clear hl0 hl1 hl2 hl3; go_simp⟩) (by assumption) ?_
    try simp (config := { maxSteps := 10000000 }) only [Act.put, List.getElem_toArray, List.getElem_cons_zero, List.getElem_cons_succ, List.setIfInBounds_toArray, List.set_cons_zero, List.set_cons_succ]
    refine wpAnyH_ready (rs := [55]) (by kernel_rfl) (by simp) ?_
    refine AllReadyH.cons rfl (fun K hK => ?_) AllReadyH.nil
    go_simp
    go_at_call 25
    have hQ : Hid (isZE vo = false) := Lib.hid (by unfold isZE; rw [vo_m.out, vo_C.out, vo_s.out]; show (true && sameC (oneC a.s) (zeroC a.s)) = false; rw [one_not_zero HKn.out]; rfl)
    with_reducible refine (isz_is vo _ Fvo.out.ok hQ).mono ?_
    rintro e wk29 ⟨rfl, hbwk29⟩
    have BB := Lib.hid (below_go BB.out hbwk29)
    have TT := Lib.hid (TT.out.below hbwk29)
    have Fa := Lib.hid (Fa.out.go hbwk29)
    have Fb := Lib.hid (Fb.out.go hbwk29)
    have Fc := Lib.hid (Fc.out.go hbwk29)
    have Fvz := Lib.hid (Fvz.out.go hbwk29)
    have Fvo := Lib.hid (Fvo.out.go hbwk29)
    have Kr17 := Lib.hid (Kr17.out.below hbwk29)
    have Kr18 := Lib.hid (Kr18.out.below hbwk29)
    have Kr19 := Lib.hid (Kr19.out.below hbwk29)
    have Kr20 := Lib.hid (Kr20.out.below hbwk29)
    have Kr21 := Lib.hid (Kr21.out.below hbwk29)
    have Kr23 := Lib.hid (Kr23.out.below hbwk29)
    have Kr25 := Lib.hid (Kr25.out.below hbwk29)
    have Kr27 := Lib.hid (Kr27.out.below hbwk29)
    clear hQ hbwk29
    go_wp2_with fail
    refine hK.out _ _ ⟨Fa.out, Fb.out, Fc.out, Fvz.out, Fvo.out⟩ (fun hHeld => ?_)
    clear hK K
    try simp (config := { maxSteps := 10000000 }) only [Act.put, List.getElem_toArray, List.getElem_cons_zero, List.getElem_cons_succ, List.setIfInBounds_toArray, List.set_cons_zero, List.set_cons_succ]
    refine wpAnyH_take (i := 56) (v := (.bool true)) rfl (by kernel_rfl) (by kernel_rfl) (by kernel_rfl) (fun _ _ _ h => h) (Or.inl ⟨by kernel_rfl, by intro w hSw; clear hSw; go_simp⟩) (by assumption) ?_
    try simp (config := { maxSteps := 10000000 }) only [Act.put, List.getElem_toArray, List.getElem_cons_zero, List.getElem_cons_succ, List.setIfInBounds_toArray, List.set_cons_zero, List.set_cons_succ]
    refine wpAnyH_take (i := 57) (v := (.bool true)) rfl (by kernel_rfl) (by kernel_rfl) (by kernel_rfl) (fun _ _ _ h => h) (Or.inl ⟨by kernel_rfl, by intro w hSw; clear hSw; go_simp⟩) (by assumption) ?_
    try simp (config := { maxSteps := 10000000 }) only [Act.put, List.getElem_toArray, List.getElem_cons_zero, List.getElem_cons_succ, List.setIfInBounds_toArray, List.set_cons_zero, List.set_cons_succ]
    refine wpAnyH_take (i := 58) (v := (.bool true)) rfl (by kernel_rfl) (by kernel_rfl) (by kernel_rfl) (fun _ _ _ h => h) (Or.inl ⟨by kernel_rfl, by intro w hSw; clear hSw; go_simp⟩) (by assumption) ?_
    try simp (config := { maxSteps := 10000000 }) only [Act.put, List.getElem_toArray, List.getElem_cons_zero, List.getElem_cons_succ, List.setIfInBounds_toArray, List.set_cons_zero, List.set_cons_succ]
    refine wpAnyH_ready (rs := [59]) (by kernel_rfl) (by simp) ?_
    refine AllReadyH.cons rfl (fun K hK => ?_) AllReadyH.nil
    go_simp
    go_at_call 7
    with_reducible refine (awake_any _ TT.out).mono ?_
    rintro e wk30 ⟨rfl, hbwk30⟩
    have BB := Lib.hid (below_go BB.out hbwk30)
    have TT := Lib.hid (TT.out.below hbwk30)
    have Fa := Lib.hid (Fa.out.go hbwk30)
    have Fb := Lib.hid (Fb.out.go hbwk30)
    have Fc := Lib.hid (Fc.out.go hbwk30)
    have Fvz := Lib.hid (Fvz.out.go hbwk30)
    have Fvo := Lib.hid (Fvo.out.go hbwk30)
    have Kr17 := Lib.hid (Kr17.out.below hbwk30)
    have Kr18 := Lib.hid (Kr18.out.below hbwk30)
    have Kr19 := Lib.hid (Kr19.out.below hbwk30)
    have Kr20 := Lib.hid (Kr20.out.below hbwk30)
    have Kr21 := Lib.hid (Kr21.out.below hbwk30)
    have Kr23 := Lib.hid (Kr23.out.below hbwk30)
    have Kr25 := Lib.hid (Kr25.out.below hbwk30)
    have Kr27 := Lib.hid (Kr27.out.below hbwk30)
    clear hbwk30
    go_wp2_with fail
    refine hK.out _ _ ⟨Fa.out, Fb.out, Fc.out, Fvz.out, Fvo.out⟩ (fun hHeld => ?_)
    clear hK K
    try simp (config := { maxSteps := 10000000 }) only [Act.put, List.getElem_toArray, List.getElem_cons_zero, List.getElem_cons_succ, List.setIfInBounds_toArray, List.set_cons_zero, List.set_cons_succ]
    refine wpAnyH_take (i := 60) (v := (.bool true)) rfl (by kernel_rfl) (by kernel_rfl) (by kernel_rfl) (fun _ _ _ h => h) (Or.inl ⟨by kernel_rfl, by intro w hSw; clear hSw; go_simp⟩) (by assumption) ?_
    try simp (config := { maxSteps := 10000000 }) only [Act.put, List.getElem_toArray, List.getElem_cons_zero, List.getElem_cons_succ, List.setIfInBounds_toArray, List.set_cons_zero, List.set_cons_succ]
    refine wpAnyH_take (i := 61) (v := (.bool true)) rfl (by kernel_rfl) (by kernel_rfl) (by kernel_rfl) (fun _ _ _ h => h) (Or.inl ⟨by kernel_rfl, by intro w hSw; clear hSw; go_simp⟩) (by assumption) ?_
    try simp (config := { maxSteps := 10000000 }) only [Act.put, List.getElem_toArray, List.getElem_cons_zero, List.getElem_cons_succ, List.setIfInBounds_toArray, List.set_cons_zero, List.set_cons_succ]
    refine wpAnyH_done (by kernel_rfl) ?_ _
    go_wp2_with fail
    go_ret
    exact ⟨rfl, BB.out⟩
theorem semiRules_law (a b c : SV) (w : World) (ht : Tab w) (ha : a.ok w) (hb : b.ok w) (hc : c.ok w) :
    Calls Tryz.prog 4 #[a.v, b.v, c.v] w fun e w' => e = .returned (.bool true) ∧ Below w.heap.size w w' := by
  cases hs : (decide (a.n ≤ 60) && decide (b.n ≤ 60) && decide (c.n ≤ 60))
  · exact rules_big a b c w ht ha hb hc hs
  · by_cases h1 : a.may = 0
    · by_cases h2 : b.may = 0
      · by_cases h3 : c.may = 0
        · by_cases t1 : a.s = b.s
          · by_cases t2 : a.s = c.s
            · exact rules_good a b c w ht ha hb hc hs (Lib.hid h1) (Lib.hid h2) (Lib.hid h3) (Lib.hid t1.symm) (Lib.hid t2.symm)
            · exact rules_bad5 a b c w ht ha hb hc hs (Lib.hid h1) (Lib.hid h2) (Lib.hid h3) t1 t2
          · exact rules_bad4 a b c w ht ha hb hc hs (Lib.hid h1) (Lib.hid h2) (Lib.hid h3) t1
        · exact rules_bad3 a b c w ht ha hb hc hs _ (by simpa using h3) (by simpa using h3) (Lib.hid h1) (Lib.hid h2) (Lib.hid rfl)
      · exact rules_bad2 a b c w ht ha hb hc hs _ (by simpa using h2) (by simpa using h2) (Lib.hid h1) (Lib.hid rfl)
    · exact rules_bad1 a b c w ht ha hb hc hs _ (by simpa using h1) (by simpa using h1) (Lib.hid rfl)
end Go.Proofs.YtdkmmnehlmaebaaGreatDoor.Se
