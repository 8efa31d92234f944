
/- What may be stays so under plus and times; the walk of 'Better'. Conditions: the values can be read. -/
import Derived.Test.YtdkmmnehlmaebaaGreatDoorSi
namespace Go.Proofs.YtdkmmnehlmaebaaGreatDoor.Se
open Go.RowKit Go.NT Go.FT Go.Lib Na

theorem lev_of_may {a : SV} (h : a.may = 0) (hn : natB a.s = false) (hl : levB a.s = true) : 0 ≤ a.lv ∧ a.lv ≤ topV a.s := by
  have hk := may_named h
  unfold SV.may at h
  rw [hk, hn, hl] at h
  cases hd : (decide (0 ≤ a.lv) && decide (a.lv ≤ topV a.s))
  · rw [hd] at h; simp at h
  · simpa using hd
theorem mayC_nat {c : Con} (hk : knownB c.s = true) (hn : natB c.s = true) : mayC c = 0 := by unfold mayC; rw [hk, hn]; rfl
theorem mayC_lev {c : Con} (hk : knownB c.s = true) (hn : natB c.s = false) (hl : levB c.s = true) (h : 0 ≤ c.lv ∧ c.lv ≤ topV c.s) : mayC c = 0 := by
  unfold mayC; rw [hk, hn, hl, decide_eq_true h.1, decide_eq_true h.2]; rfl
theorem mayC_dbl {c : Con} (hk : knownB c.s = true) (hn : natB c.s = false) (hl : levB c.s = false) (h : c.x ≤ dblM c.s) : mayC c = 0 := by
  unfold mayC; rw [hk, hn, hl]
  show dblE c.s c.x = 0
  unfold dblE; rw [decide_eq_true h]; rfl
theorem plusC_s (c d : Con) : (plusC c d).s = c.s := by unfold plusC; cases c.s == 1 <;> cases c.s == 3 <;> cases c.s == 5 <;> cases c.s == 6 <;> rfl
theorem timesC_s (c d : Con) : (timesC c d).s = c.s := by unfold timesC; cases c.s == 1 <;> cases c.s == 3 <;> cases c.s == 5 <;> cases c.s == 6 <;> rfl
theorem may_plusC {a b : SV} (h : bothE a b = 0) : mayC (plusC a.con b.con) = 0 := by
  obtain ⟨m1, m2, m3⟩ := bothE_zero.1 h
  have hk := may_named m1
  have hs := plusC_s a.con b.con
  have ha : a.con.s = a.s := rfl
  rcases known_cases hk with s | s | s | s | s | s
  · exact mayC_nat (by rw [hs, ha, s]; rfl) (by rw [hs, ha, s]; rfl)
  · have h1 := lev_of_may m1 (by rw [s]; rfl) (by rw [s]; rfl)
    have h2 := lev_of_may m2 (by rw [← m3, s]; rfl) (by rw [← m3, s]; rfl)
    have e : plusC a.con b.con = ⟨a.s, some 0, max a.lv b.lv, 0⟩ := by unfold plusC; rw [ha, s]; rfl
    rw [e]
    rw [← m3] at h2
    exact mayC_lev (by rw [s]; rfl) (by rw [s]; rfl) (by rw [s]; rfl) ⟨by show 0 ≤ max a.lv b.lv; omega, by show max a.lv b.lv ≤ topV a.s; omega⟩
  · exact mayC_nat (by rw [hs, ha, s]; rfl) (by rw [hs, ha, s]; rfl)
  · have h1 := lev_of_may m1 (by rw [s]; rfl) (by rw [s]; rfl)
    have h2 := lev_of_may m2 (by rw [← m3, s]; rfl) (by rw [← m3, s]; rfl)
    have e : plusC a.con b.con = ⟨a.s, some 0, max a.lv b.lv, 0⟩ := by unfold plusC; rw [ha, s]; rfl
    rw [e]
    rw [← m3] at h2
    exact mayC_lev (by rw [s]; rfl) (by rw [s]; rfl) (by rw [s]; rfl) ⟨by show 0 ≤ max a.lv b.lv; omega, by show max a.lv b.lv ≤ topV a.s; omega⟩
  · have h1 := dbl_of_may m1 (by rw [s]; rfl) (by rw [s]; rfl)
    have h2 := dbl_of_may m2 (by rw [← m3, s]; rfl) (by rw [← m3, s]; rfl)
    have e : plusC a.con b.con = ⟨a.s, some 0, 0, max a.x b.x⟩ := by unfold plusC; rw [ha, s]; rfl
    rw [e]
    rw [← m3] at h2
    exact mayC_dbl (by rw [s]; rfl) (by rw [s]; rfl) (by rw [s]; rfl) (by show max a.x b.x ≤ dblM a.s; omega)
  · have h1 := dbl_of_may m1 (by rw [s]; rfl) (by rw [s]; rfl)
    have h2 := dbl_of_may m2 (by rw [← m3, s]; rfl) (by rw [← m3, s]; rfl)
    have e : plusC a.con b.con = ⟨a.s, some 0, 0, min a.x b.x⟩ := by unfold plusC; rw [ha, s]; rfl
    rw [e]
    rw [← m3] at h2
    exact mayC_dbl (by rw [s]; rfl) (by rw [s]; rfl) (by rw [s]; rfl) (by show min a.x b.x ≤ dblM a.s; omega)
theorem may_timesC {a b : SV} (h : bothE a b = 0) : mayC (timesC a.con b.con) = 0 := by
  obtain ⟨m1, m2, m3⟩ := bothE_zero.1 h
  have hk := may_named m1
  have hs := timesC_s a.con b.con
  have ha : a.con.s = a.s := rfl
  rcases known_cases hk with s | s | s | s | s | s
  · exact mayC_nat (by rw [hs, ha, s]; rfl) (by rw [hs, ha, s]; rfl)
  · have h1 := lev_of_may m1 (by rw [s]; rfl) (by rw [s]; rfl)
    have h2 := lev_of_may m2 (by rw [← m3, s]; rfl) (by rw [← m3, s]; rfl)
    have e : timesC a.con b.con = ⟨a.s, some 0, min a.lv b.lv, 0⟩ := by unfold timesC; rw [ha, s]; rfl
    rw [e]
    rw [← m3] at h2
    exact mayC_lev (by rw [s]; rfl) (by rw [s]; rfl) (by rw [s]; rfl) ⟨by show 0 ≤ min a.lv b.lv; omega, by show min a.lv b.lv ≤ topV a.s; omega⟩
  · exact mayC_nat (by rw [hs, ha, s]; rfl) (by rw [hs, ha, s]; rfl)
  · have h1 := lev_of_may m1 (by rw [s]; rfl) (by rw [s]; rfl)
    have h2 := lev_of_may m2 (by rw [← m3, s]; rfl) (by rw [← m3, s]; rfl)
    have e : timesC a.con b.con = ⟨a.s, some 0, min a.lv b.lv, 0⟩ := by unfold timesC; rw [ha, s]; rfl
    rw [e]
    rw [← m3] at h2
    exact mayC_lev (by rw [s]; rfl) (by rw [s]; rfl) (by rw [s]; rfl) ⟨by show 0 ≤ min a.lv b.lv; omega, by show min a.lv b.lv ≤ topV a.s; omega⟩
  · have h1 := dbl_of_may m1 (by rw [s]; rfl) (by rw [s]; rfl)
    have h2 := dbl_of_may m2 (by rw [← m3, s]; rfl) (by rw [← m3, s]; rfl)
    have e : timesC a.con b.con = ⟨a.s, some 0, 0, mulR a.x b.x⟩ := by unfold timesC; rw [ha, s]; rfl
    rw [e]
    rw [← m3] at h2
    have hM : dblM a.s = ONE := by rw [s]; rfl
    rw [hM] at h1 h2
    exact mayC_dbl (by rw [s]; rfl) (by rw [s]; rfl) (by rw [s]; rfl) (by show mulR a.x b.x ≤ dblM a.s; rw [hM]; exact Nat.le_trans (mulR_le (Nat.lt_of_le_of_lt h1 (by decide)) h2) h1)
  · have e : timesC a.con b.con = ⟨a.s, some 0, 0, addR a.x b.x⟩ := by unfold timesC; rw [ha, s]; rfl
    rw [e]
    exact mayC_dbl (by rw [s]; rfl) (by rw [s]; rfl) (by rw [s]; rfl) (by show addR a.x b.x ≤ dblM a.s; rw [show dblM a.s = INF by rw [s]; rfl]; exact addR_le _ _)
def betterC (c d : Con) : Bool := if c.s == 1 then decide (0 ≤ cmpM c.m d.m) else sameC (plusC c d) c
theorem same_sum {a b r : SV} {w : World} (h : bothE a b = 0) (ho : r.ok w) (hc : r.con = plusC a.con b.con) (hk : r.canon) : sameE r a = sameC (plusC a.con b.con) a.con := by
  unfold sameE
  rw [hc, bothE_zero.2 ⟨by rw [may_canon ho hk, hc]; exact may_plusC h, (bothE_zero.1 h).1, by have := congrArg Con.s hc; rw [plusC_s] at this; exact this⟩]
  simp
set_option maxRecDepth 100000 in
set_option maxHeartbeats 1000000 in
theorem better_no (a b : SV) (w : World) (N : Nat) (ha : a.ok w) (hb : b.ok w) (hN : max a.n b.n + 1 ≤ N) (hN2 : N ≤ 1099511627776) (k : Int) (hk : (k != 0) = true) (HM : Hid (bothE a b = k)) :
    Calls Tryz.prog 18 #[a.v, b.v] w fun e w' => e = .returned (.tuple #[.bool false, .int .i64 k]) ∧ Below w.heap.size w w' := by
  have h0 := Lib.hid (below_al (below_al (Below.refl w.heap.size w) (.cells #[.int .i64 a.s, .bool a.b, .slice a.A a.n a.c, .int .i64 a.lv, .float .f64 a.x] 27)) (.cells #[.int .i64 b.s, .bool b.b, .slice b.A b.n b.c, .int .i64 b.lv, .float .f64 b.x] 27))
  have hp := Lib.hid (plus_sv a b _ N (ha.below h0.out) (hb.below h0.out) hN hN2)
  rw [HM.out] at hp
  clear ha hb hN hN2
  unfold SV.v
  go_enter Tryz.func18, Tryz.ntmps18
  go_wp2_with (go_at_call 12; (with_reducible refine hp.out.mono ?_); rintro e w1 ⟨r, rfl, ho, hC, hc, hn, hb1⟩; have HB := Lib.hid (below_go h0.out hb1))
  go_ret2
  exact ⟨rfl, below_al HB.out _⟩
set_option maxRecDepth 100000 in
set_option maxHeartbeats 1000000 in
theorem better_count (a b : SV) (w : World) (N : Nat) (ha : a.ok w) (hb : b.ok w) (hN : max a.n b.n + 1 ≤ N) (hN2 : N ≤ 1099511627776) (t1 : (a.s == 1) = true) (HM : Hid (bothE a b = 0)) :
    Calls Tryz.prog 18 #[a.v, b.v] w fun e w' => e = .returned (.tuple #[.bool (betterC a.con b.con), .int .i64 0]) ∧ Below w.heap.size w w' := by
  have h0 := Lib.hid (below_al (below_al (Below.refl w.heap.size w) (.cells #[.int .i64 a.s, .bool a.b, .slice a.A a.n a.c, .int .i64 a.lv, .float .f64 a.x] 27)) (.cells #[.int .i64 b.s, .bool b.b, .slice b.A b.n b.c, .int .i64 b.lv, .float .f64 b.x] 27))
  have hp := Lib.hid (plus_sv a b _ N (ha.below h0.out) (hb.below h0.out) hN hN2)
  rw [HM.out] at hp
  have hA := (five_new w a ha).al (.cells #[.int .i64 b.s, .bool b.b, .slice b.A b.n b.c, .int .i64 b.lv, .float .f64 b.x] 27)
  have hB := five_new _ b (hb.al (.cells #[.int .i64 a.s, .bool a.b, .slice a.A a.n a.c, .int .i64 a.lv, .float .f64 a.x] 27))
  rw [show (w.alloc (.cells #[.int .i64 a.s, .bool a.b, .slice a.A a.n a.c, .int .i64 a.lv, .float .f64 a.x] 27)).heap.size = w.heap.size + 1 by simp] at hB
  have HA := Lib.hid hA
  have HB2 := Lib.hid hB
  obtain ⟨K, hK0⟩ : ∃ K, K = cmpM (mean a.b a.xs) (mean b.b b.xs) := ⟨_, rfl⟩
  have HK := Lib.hid hK0
  have hE := Lib.hid (show betterC a.con b.con = decide (0 ≤ K) by unfold betterC; rw [show a.con.s = a.s from rfl, t1, hK0]; rfl)
  clear ha hb hN hN2 hA hB hK0
  unfold SV.v
  go_enter Tryz.func18, Tryz.ntmps18
  go_wp2_with (first
    | (go_at_call 12; (with_reducible refine hp.out.mono ?_); rintro e w1 ⟨r, rfl, ho, hC, hc, hn, hb1⟩; have HB := Lib.hid (below_al (below_go h0.out hb1) (.cells #[.int .i64 r.s, .bool r.b, .slice r.A r.n r.c, .int .i64 r.lv, .float .f64 r.x] 27)); have HA1 := Lib.hid ((HA.out.go hb1).al (.cells #[.int .i64 r.s, .bool r.b, .slice r.A r.n r.c, .int .i64 r.lv, .float .f64 r.x] 27)); have HB1 := Lib.hid ((HB2.out.go hb1).al (.cells #[.int .i64 r.s, .bool r.b, .slice r.A r.n r.c, .int .i64 r.lv, .float .f64 r.x] 27)); obtain ⟨p0, p1, p2, p3, p4, p5, _⟩ := HA1.out; obtain ⟨q0, q1, q2, q3, q4, q5, _⟩ := HB1.out; have HX := Lib.hid HA1.out.ok.1; have HY := Lib.hid HB1.out.ok.1)
    | (go_at_call 46; (with_reducible refine (Na.compare_any a.b b.b a.A b.A a.n b.n a.c b.c a.xs b.xs _ HX.out HY.out).mono ?_); rw [← HK.out]; rintro e w2 ⟨rfl, hb2⟩; have HZ := Lib.hid (below_go HB.out hb2)))
  go_ret2
  exact ⟨by rw [hE.out]; rfl, HZ.out⟩
set_option maxRecDepth 100000 in
set_option maxHeartbeats 1000000 in
theorem better_other (a b : SV) (w : World) (N : Nat) (ha : a.ok w) (hb : b.ok w) (hN : max a.n b.n + 1 ≤ N) (hN2 : N ≤ 1099511627776) (t1 : (a.s == 1) = false) (HM : Hid (bothE a b = 0)) :
    Calls Tryz.prog 18 #[a.v, b.v] w fun e w' => e = .returned (.tuple #[.bool (betterC a.con b.con), .int .i64 0]) ∧ Below w.heap.size w w' := by
  have h0 := Lib.hid (below_al (below_al (Below.refl w.heap.size w) (.cells #[.int .i64 a.s, .bool a.b, .slice a.A a.n a.c, .int .i64 a.lv, .float .f64 a.x] 27)) (.cells #[.int .i64 b.s, .bool b.b, .slice b.A b.n b.c, .int .i64 b.lv, .float .f64 b.x] 27))
  have hp := Lib.hid (plus_sv a b _ N (ha.below h0.out) (hb.below h0.out) hN hN2)
  rw [HM.out] at hp
  have HA := Lib.hid ((five_new w a ha).al (.cells #[.int .i64 b.s, .bool b.b, .slice b.A b.n b.c, .int .i64 b.lv, .float .f64 b.x] 27))
  have hE := Lib.hid (show betterC a.con b.con = sameC (plusC a.con b.con) a.con by unfold betterC; rw [show a.con.s = a.s from rfl, t1]; rfl)
  clear ha hb hN hN2
  unfold SV.v
  go_enter Tryz.func18, Tryz.ntmps18
  go_wp2_with (first
    | (go_at_call 12; (with_reducible refine hp.out.mono ?_); rintro e w1 ⟨r, rfl, ho, hC, hc, hn, hb1⟩; have HB := Lib.hid (below_al (below_go h0.out hb1) (.cells #[.int .i64 r.s, .bool r.b, .slice r.A r.n r.c, .int .i64 r.lv, .float .f64 r.x] 27)); have HA1 := Lib.hid ((HA.out.go hb1).al (.cells #[.int .i64 r.s, .bool r.b, .slice r.A r.n r.c, .int .i64 r.lv, .float .f64 r.x] 27)); obtain ⟨p0, p1, p2, p3, p4, p5, _⟩ := HA1.out; have HR := Lib.hid (ho.al (.cells #[.int .i64 r.s, .bool r.b, .slice r.A r.n r.c, .int .i64 r.lv, .float .f64 r.x] 27)); have hS := Lib.hid (same_sum HM.out ho hC.out hc.out))
    | (go_at_call 23; (with_reducible refine (same_sv r a _ HR.out HA1.out.ok).mono ?_); rw [hS.out, ← hE.out]; rintro e w2 ⟨rfl, hb2⟩; have HZ := Lib.hid (below_go HB.out hb2)))
  go_ret2
  exact ⟨rfl, HZ.out⟩
theorem better_sv (a b : SV) (w : World) (N : Nat) (ha : a.ok w) (hb : b.ok w) (hN : max a.n b.n + 1 ≤ N) (hN2 : N ≤ 1099511627776) :
    Calls Tryz.prog 18 #[a.v, b.v] w fun e w' => e = .returned (.tuple #[.bool (bothE a b == 0 && betterC a.con b.con), .int .i64 (bothE a b)]) ∧ Below w.heap.size w w' := by
  by_cases h : bothE a b = 0
  · rw [h]
    cases t1 : a.s == 1
    · exact better_other a b w N ha hb hN hN2 t1 (Lib.hid h)
    · exact better_count a b w N ha hb hN hN2 t1 (Lib.hid h)
  · have h2 : (bothE a b == 0) = false := by simpa using h
    rw [h2]
    exact better_no a b w N ha hb hN hN2 _ (by simpa using h) (Lib.hid rfl)
end Go.Proofs.YtdkmmnehlmaebaaGreatDoor.Se
