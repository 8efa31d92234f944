/- The walk of 'awake'. Conditions: the table of powers is laid. -/
import Derived.Test.YtdkmmnehlmaebaaDoorSk
namespace Go.Proofs.YtdkmmnehlmaebaaDoor.Se
open Go.RowKit Go.NT Go.FT Go.Lib Na

theorem one_count (w : World) : Calls Tryd.prog 16 #[.int .i64 1] w fun e w' => SP w w' e (oneC 1) 0 2 := one_any 1 w 2 (Nat.le_refl _)
theorem zero_none (w : World) : Calls Tryd.prog 43 #[.int .i64 0] w fun e w' => SP w w' e noneC 9 0 := zero_any 0 w 0
theorem star_one (r : SV) (w : World) (ho : r.ok w) (hk : r.canon) (hc : r.con = oneC 1) : Calls Tryd.prog 14 #[r.v] w fun e w' => SP w w' e ⟨1, none, 0, 0⟩ 0 2 := by
  have hm : r.may = 0 := by rw [may_canon ho hk, hc]; exact may_oneC rfl
  have h := star_sv r w 2 (Nat.le_refl _) ho
  rw [if_pos hm, hm, hc] at h
  exact h
theorem inf_of_con {r : SV} {C : Con} (h : r.con = C) (hm : C.m = none) : r.b = true := by
  have := congrArg Con.m h
  rw [hm] at this
  cases hb : r.b
  · unfold SV.con mean at this; rw [hb] at this; cases this
  · rfl
theorem t1 : decI 1 = [49] := by
  unfold decI
  simp [decDigits]
theorem may_one {r : SV} {w : World} (ho : r.ok w) (hk : r.canon) (hc : r.con = oneC 1) : r.may = 0 := by rw [may_canon ho hk, hc]; exact may_oneC rfl
theorem nat_one {r : SV} (hc : r.con = oneC 1) : natB r.s = true := by have h := congrArg Con.s hc; have h2 : r.s = 1 := h; rw [h2]; rfl
theorem text_one {r : SV} (hc : r.con = oneC 1) : strV (textM (mean r.b r.xs)) = .string ⟨#[49]⟩ := by
  have h := congrArg Con.m hc
  have h2 : mean r.b r.xs = some 1 := h
  rw [h2]
  show strV (decI 1) = _
  rw [t1]
  rfl
set_option maxRecDepth 100000 in
set_option maxHeartbeats 1000000 in
theorem awake_any (w : World) (ht : Tab w) : Calls Tryd.prog 13 #[] w fun e w' => e = .returned (.bool true) ∧ Below w.heap.size w w' := by
  have HT := Lib.hid ht
  clear ht
  go_enter Tryd.func13, Tryd.ntmps13
  go_wp2_with (first
    | (go_at_call 16; (with_reducible refine (one_count _).mono ?_); rintro e w1 ⟨r, rfl, ho, hC, hc, hn, hb1⟩; have H1 := Lib.hid (below_al hb1 (.cells #[.int .i64 r.s, .bool r.b, .slice r.A r.n r.c, .int .i64 r.lv, .float .f64 r.x] 27)); have F1 := Lib.hid (five_new w1 r ho); obtain ⟨p0, p1, p2, p3, p4, p5, _⟩ := F1.out; have HRN := Lib.hid (Nat.le_trans hn.out (show 2 ≤ 1099511627776 by decide)); have HRM := Lib.hid (may_one ho hc.out hC.out); have HRS := Lib.hid (nat_one hC.out); have HRT := Lib.hid (text_one hC.out))
    | (go_at_call 14; (with_reducible refine (star_one r _ F1.out.ok hc.out hC.out).mono ?_); rintro e w2 ⟨s, rfl, so, sC, sc, sn, hb2⟩; have H2 := Lib.hid (below_al (below_go H1.out hb2) (.cells #[.int .i64 s.s, .bool s.b, .slice s.A s.n s.c, .int .i64 s.lv, .float .f64 s.x] 27)); have F2 := Lib.hid ((F1.out.go hb2).al (.cells #[.int .i64 s.s, .bool s.b, .slice s.A s.n s.c, .int .i64 s.lv, .float .f64 s.x] 27)); have G2 := Lib.hid (five_new w2 s so); have hsb := Lib.hid (inf_of_con sC.out rfl))
    | (go_at_call 43; (with_reducible refine (zero_none _).mono ?_); rintro e w3 ⟨z, rfl, zo, zC, zc, zn, hb3⟩; have H3 := Lib.hid (below_al (below_go H2.out hb3) (.cells #[.int .i64 z.s, .bool z.b, .slice z.A z.n z.c, .int .i64 z.lv, .float .f64 z.x] 27)); have F3 := Lib.hid ((F2.out.go hb3).al (.cells #[.int .i64 z.s, .bool z.b, .slice z.A z.n z.c, .int .i64 z.lv, .float .f64 z.x] 27)); have G3 := Lib.hid ((G2.out.go hb3).al (.cells #[.int .i64 z.s, .bool z.b, .slice z.A z.n z.c, .int .i64 z.lv, .float .f64 z.x] 27)); obtain ⟨q0, q1, q2, q3, q4, q5, _⟩ := F3.out; obtain ⟨s0, s1, s2, s3, s4, s5, _⟩ := G3.out; rw [hsb.out] at s1; have HX := Lib.hid (show NV _ r.A r.n r.c r.xs from F3.out.ok.1); have HT3 := Lib.hid (HT.out.below H3.out))
    | (go_at_call 44; (with_reducible refine (text_nat r _ F3.out.ok HRN.out HT3.out HRM HRS).mono ?_); rw [HRT.out]; rintro e w4 ⟨rfl, hb4⟩; have H4 := Lib.hid (below_go H3.out hb4)))
  go_ret
  exact ⟨rfl, H4.out⟩
end Go.Proofs.YtdkmmnehlmaebaaDoor.Se
