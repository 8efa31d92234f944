/- The document's Better and IsZero. Conditions: the values can be read. -/
import Derived.Test.YtdkmmnehlmaebaaGreatDoorRc
namespace Go.Proofs.YtdkmmnehlmaebaaGreatDoor.Se
open Go.RowKit Go.NT Go.FT Go.FX Go.Lib Na

set_option maxRecDepth 100000 in
set_option maxHeartbeats 1000000 in
theorem rbetter_no (a b : SV) (w : World) (N : Nat) (ha : a.ok w) (hb : b.ok w) (hN : a.n + b.n + 1 ≤ N) (hN2 : N ≤ 1099511627776) (k : Int) (hk : (k != 0) = true) (HM : Hid (bothE a b = k)) :
    Calls Tryz.prog 19 #[a.v, b.v] w fun e w' => e = .returned (.tuple #[.bool false, .int .i64 k]) ∧ Below w.heap.size w w' := by
  have h0 := Lib.hid (below_al (below_al (Below.refl w.heap.size w) (.cells #[.int .i64 a.s, .bool a.b, .slice a.A a.n a.c, .int .i64 a.lv, .float .f64 a.x] 27)) (.cells #[.int .i64 b.s, .bool b.b, .slice b.A b.n b.c, .int .i64 b.lv, .float .f64 b.x] 27))
  have hp := Lib.hid (rplus_sv a b _ N (ha.below h0.out) (hb.below h0.out) hN hN2)
  rw [HM.out] at hp
  have hna : a.n ≤ 1099511627776 := by omega
  have hN2' := hN2
  clear ha hb hN hN2
  unfold SV.v
  go_enter Tryz.func19, Tryz.ntmps19
  go_wp2_with (go_at_call 13; (with_reducible refine hp.out.mono ?_); rintro e w1 ⟨r, rfl, ho, hC, hc, hn, hb1⟩; have HB := Lib.hid (below_go h0.out hb1))
  go_ret2
  exact ⟨rfl, below_al HB.out _⟩
set_option maxRecDepth 100000 in
set_option maxHeartbeats 1000000 in
theorem rbetter_count (a b : SV) (w : World) (N : Nat) (ha : a.ok w) (hb : b.ok w) (hN : a.n + b.n + 1 ≤ N) (hN2 : N ≤ 1099511627776) (t1 : (a.s == 1) = true) (HM : Hid (bothE a b = 0)) :
    Calls Tryz.prog 19 #[a.v, b.v] w fun e w' => e = .returned (.tuple #[.bool (betterC a.con b.con), .int .i64 0]) ∧ Below w.heap.size w w' := by
  have h0 := Lib.hid (below_al (below_al (Below.refl w.heap.size w) (.cells #[.int .i64 a.s, .bool a.b, .slice a.A a.n a.c, .int .i64 a.lv, .float .f64 a.x] 27)) (.cells #[.int .i64 b.s, .bool b.b, .slice b.A b.n b.c, .int .i64 b.lv, .float .f64 b.x] 27))
  have hp := Lib.hid (rplus_sv a b _ N (ha.below h0.out) (hb.below h0.out) hN hN2)
  rw [HM.out] at hp
  have hA := (five_new w a ha).al (.cells #[.int .i64 b.s, .bool b.b, .slice b.A b.n b.c, .int .i64 b.lv, .float .f64 b.x] 27)
  have hB := five_new _ b (hb.al (.cells #[.int .i64 a.s, .bool a.b, .slice a.A a.n a.c, .int .i64 a.lv, .float .f64 a.x] 27))
  rw [show (w.alloc (.cells #[.int .i64 a.s, .bool a.b, .slice a.A a.n a.c, .int .i64 a.lv, .float .f64 a.x] 27)).heap.size = w.heap.size + 1 by simp] at hB
  have HA := Lib.hid hA
  have HB2 := Lib.hid hB
  obtain ⟨K, hK0⟩ : ∃ K, K = cmpM (mean a.b a.xs) (mean b.b b.xs) := ⟨_, rfl⟩
  have HK := Lib.hid hK0
  have hE := Lib.hid (show betterC a.con b.con = decide (0 ≤ K) by unfold betterC; rw [show a.con.s = a.s from rfl, t1, hK0]; rfl)
  have hna : a.n ≤ 1099511627776 := by omega
  have hnb : b.n ≤ 1099511627776 := by omega
  clear ha hb hN hN2 hA hB hK0
  unfold SV.v
  go_enter Tryz.func19, Tryz.ntmps19
  go_wp2_with (first
    | (go_at_call 13; (with_reducible refine hp.out.mono ?_); rintro e w1 ⟨r, rfl, ho, hC, hc, hn, hb1⟩; have HB := Lib.hid (below_al (below_go h0.out hb1) (.cells #[.int .i64 r.s, .bool r.b, .slice r.A r.n r.c, .int .i64 r.lv, .float .f64 r.x] 27)); have HA1 := Lib.hid ((HA.out.go hb1).al (.cells #[.int .i64 r.s, .bool r.b, .slice r.A r.n r.c, .int .i64 r.lv, .float .f64 r.x] 27)); have HB1 := Lib.hid ((HB2.out.go hb1).al (.cells #[.int .i64 r.s, .bool r.b, .slice r.A r.n r.c, .int .i64 r.lv, .float .f64 r.x] 27)); obtain ⟨p0, p1, p2, p3, p4, p5, _⟩ := HA1.out; obtain ⟨q0, q1, q2, q3, q4, q5, _⟩ := HB1.out; have HX := Lib.hid HA1.out.ok.1; have HY := Lib.hid HB1.out.ok.1)
    | (go_at_call 47; (with_reducible refine (Na.rcompare_any a.b b.b a.A b.A a.n b.n a.c b.c a.xs b.xs _ HX.out HY.out hna hnb).mono ?_); rw [← HK.out]; rintro e w2 ⟨rfl, hb2⟩; have HZ := Lib.hid (below_go HB.out hb2)))
  go_ret2
  exact ⟨by rw [hE.out]; rfl, HZ.out⟩
set_option maxRecDepth 100000 in
set_option maxHeartbeats 1000000 in
theorem rbetter_other (a b : SV) (w : World) (N : Nat) (ha : a.ok w) (hb : b.ok w) (hN : a.n + b.n + 1 ≤ N) (hN2 : N ≤ 1099511627776) (t1 : (a.s == 1) = false) (HM : Hid (bothE a b = 0)) :
    Calls Tryz.prog 19 #[a.v, b.v] w fun e w' => e = .returned (.tuple #[.bool (betterC a.con b.con), .int .i64 0]) ∧ Below w.heap.size w w' := by
  have h0 := Lib.hid (below_al (below_al (Below.refl w.heap.size w) (.cells #[.int .i64 a.s, .bool a.b, .slice a.A a.n a.c, .int .i64 a.lv, .float .f64 a.x] 27)) (.cells #[.int .i64 b.s, .bool b.b, .slice b.A b.n b.c, .int .i64 b.lv, .float .f64 b.x] 27))
  have hp := Lib.hid (rplus_sv a b _ N (ha.below h0.out) (hb.below h0.out) hN hN2)
  rw [HM.out] at hp
  have HA := Lib.hid ((five_new w a ha).al (.cells #[.int .i64 b.s, .bool b.b, .slice b.A b.n b.c, .int .i64 b.lv, .float .f64 b.x] 27))
  have hE := Lib.hid (show betterC a.con b.con = sameC (plusC a.con b.con) a.con by unfold betterC; rw [show a.con.s = a.s from rfl, t1]; rfl)
  have hna : a.n ≤ 1099511627776 := by omega
  have hN2' := hN2
  clear ha hb hN hN2
  unfold SV.v
  go_enter Tryz.func19, Tryz.ntmps19
  go_wp2_with (first
    | (go_at_call 13; (with_reducible refine hp.out.mono ?_); rintro e w1 ⟨r, rfl, ho, hC, hc, hn, hb1⟩; have HB := Lib.hid (below_al (below_go h0.out hb1) (.cells #[.int .i64 r.s, .bool r.b, .slice r.A r.n r.c, .int .i64 r.lv, .float .f64 r.x] 27)); have HA1 := Lib.hid ((HA.out.go hb1).al (.cells #[.int .i64 r.s, .bool r.b, .slice r.A r.n r.c, .int .i64 r.lv, .float .f64 r.x] 27)); obtain ⟨p0, p1, p2, p3, p4, p5, _⟩ := HA1.out; have HR := Lib.hid (ho.al (.cells #[.int .i64 r.s, .bool r.b, .slice r.A r.n r.c, .int .i64 r.lv, .float .f64 r.x] 27)); have hS := Lib.hid (same_sum HM.out ho hC.out hc.out))
    | (go_at_call 24; (with_reducible refine (ralike_sv r a _ HR.out HA1.out.ok (Nat.le_trans hn.out hN2') hna).mono ?_); rw [hS.out, ← hE.out]; rintro e w2 ⟨rfl, hb2⟩; have HZ := Lib.hid (below_go HB.out hb2)))
  go_ret2
  exact ⟨rfl, HZ.out⟩
theorem rbetter_sv (a b : SV) (w : World) (N : Nat) (ha : a.ok w) (hb : b.ok w) (hN : a.n + b.n + 1 ≤ N) (hN2 : N ≤ 1099511627776) :
    Calls Tryz.prog 19 #[a.v, b.v] w fun e w' => e = .returned (.tuple #[.bool (bothE a b == 0 && betterC a.con b.con), .int .i64 (bothE a b)]) ∧ Below w.heap.size w w' := by
  by_cases h : bothE a b = 0
  · rw [h]
    cases t1 : a.s == 1
    · exact rbetter_other a b w N ha hb hN hN2 t1 (Lib.hid h)
    · exact rbetter_count a b w N ha hb hN hN2 t1 (Lib.hid h)
  · have h2 : (bothE a b == 0) = false := by simpa using h
    rw [h2]
    exact rbetter_no a b w N ha hb hN hN2 _ (by simpa using h) (Lib.hid rfl)
set_option maxRecDepth 100000 in
set_option maxHeartbeats 2000000 in
theorem risZero_no (a : SV) (w : World) (ha : a.ok w) (hna : a.n ≤ 1099511627776) (HK : Hid (knownB a.s = false)) : Calls Tryz.prog 26 #[a.v] w fun e w' => e = .returned (.bool (isZE a)) ∧ Below w.heap.size w w' := by
  have h0 := Lib.hid (below_al (Below.refl w.heap.size w) (.cells #[.int .i64 a.s, .bool a.b, .slice a.A a.n a.c, .int .i64 a.lv, .float .f64 a.x] 27))
  have hF := Lib.hid (five_new w a ha)
  obtain ⟨p0, p1, p2, p3, p4, p5, _⟩ := hF.out
  have hZ : Hid (isZE a = false) := Lib.hid (by unfold isZE SV.may; rw [HK.out]; rfl)
  clear ha
  unfold SV.v
  go_enter Tryz.func26, Tryz.ntmps26
  go_wp2_with (go_at_call 9; (with_reducible refine (rzero_not a.s _ 2 (by decide) HK).mono ?_); rintro e w1 ⟨r, rfl, ho, hC, hc, hn, hb1⟩; have HB := Lib.hid (below_al (below_go h0.out hb1) (.cells #[.int .i64 r.s, .bool r.b, .slice r.A r.n r.c, .int .i64 r.lv, .float .f64 r.x] 27)))
  go_ret
  exact ⟨by rw [hZ.out]; rfl, HB.out⟩
set_option maxRecDepth 100000 in
set_option maxHeartbeats 2000000 in
theorem risZero_yes (a : SV) (w : World) (ha : a.ok w) (hna : a.n ≤ 1099511627776) (HK : Hid (knownB a.s = true)) : Calls Tryz.prog 26 #[a.v] w fun e w' => e = .returned (.bool (isZE a)) ∧ Below w.heap.size w w' := by
  have h0 := Lib.hid (below_al (Below.refl w.heap.size w) (.cells #[.int .i64 a.s, .bool a.b, .slice a.A a.n a.c, .int .i64 a.lv, .float .f64 a.x] 27))
  have hF := Lib.hid (five_new w a ha)
  obtain ⟨p0, p1, p2, p3, p4, p5, _⟩ := hF.out
  clear ha
  unfold SV.v
  go_enter Tryz.func26, Tryz.ntmps26
  go_wp2_with (first
    | (go_at_call 9; (with_reducible refine (rzero_at a.s _ 2 (by decide) HK).mono ?_); rintro e w1 ⟨r, rfl, ho, hC, hc, hn, hb1⟩; have HB := Lib.hid (below_al (below_go h0.out hb1) (.cells #[.int .i64 r.s, .bool r.b, .slice r.A r.n r.c, .int .i64 r.lv, .float .f64 r.x] 27)); have hrn : r.n ≤ 1099511627776 := (Nat.le_trans hn.out (by decide)); have HS := Lib.hid (isZE_of ho hC.out hc.out); have HA := Lib.hid ((hF.out.go hb1).al (.cells #[.int .i64 r.s, .bool r.b, .slice r.A r.n r.c, .int .i64 r.lv, .float .f64 r.x] 27)); have HR := Lib.hid (five_new w1 r ho); obtain ⟨p0, p1, p2, p3, p4, p5, _⟩ := HA.out; obtain ⟨q0, q1, q2, q3, q4, q5, _⟩ := HR.out)
    | (go_at_call 24; (with_reducible refine (ralike_sv a r _ HA.out.ok HR.out.ok hna hrn).mono ?_); rw [HS.out]; rintro e w2 ⟨rfl, hb2⟩; have HB := Lib.hid (below_go HB.out hb2)))
  go_ret
  exact ⟨rfl, HB.out⟩
theorem risZero_any (a : SV) (w : World) (ha : a.ok w) (hna : a.n ≤ 1099511627776) : Calls Tryz.prog 26 #[a.v] w fun e w' => e = .returned (.bool (isZE a)) ∧ Below w.heap.size w w' := by
  cases hk : knownB a.s
  · exact risZero_no a w ha hna (Lib.hid hk)
  · exact risZero_yes a w ha hna (Lib.hid hk)
end Go.Proofs.YtdkmmnehlmaebaaGreatDoor.Se
