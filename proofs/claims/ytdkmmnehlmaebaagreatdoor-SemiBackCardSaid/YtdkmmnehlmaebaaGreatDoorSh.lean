
/- The walk of 'Times'. Conditions: the values can be read. -/
import Derived.Test.YtdkmmnehlmaebaaGreatDoorSg
namespace Go.Proofs.YtdkmmnehlmaebaaGreatDoor.Se
open Go.RowKit Go.NT Go.FT Go.Lib Na

theorem cells5 {w : World} {g : Nat} {a : SV} (h : Var w g a) (o : Obj) (u0 u1 u2 u3 u4 : Value) :
    ((((((w.setCell ⟨g, 0, none⟩ u0).setCell ⟨g, 1, none⟩ u1).setCell ⟨g, 2, none⟩ u2).setCell ⟨g, 3, none⟩ u3).setCell ⟨g, 4, none⟩ u4).alloc o).cell? ⟨g, 0, none⟩ = some u0 ∧
    ((((((w.setCell ⟨g, 0, none⟩ u0).setCell ⟨g, 1, none⟩ u1).setCell ⟨g, 2, none⟩ u2).setCell ⟨g, 3, none⟩ u3).setCell ⟨g, 4, none⟩ u4).alloc o).cell? ⟨g, 1, none⟩ = some u1 ∧
    ((((((w.setCell ⟨g, 0, none⟩ u0).setCell ⟨g, 1, none⟩ u1).setCell ⟨g, 2, none⟩ u2).setCell ⟨g, 3, none⟩ u3).setCell ⟨g, 4, none⟩ u4).alloc o).cell? ⟨g, 2, none⟩ = some u2 ∧
    ((((((w.setCell ⟨g, 0, none⟩ u0).setCell ⟨g, 1, none⟩ u1).setCell ⟨g, 2, none⟩ u2).setCell ⟨g, 3, none⟩ u3).setCell ⟨g, 4, none⟩ u4).alloc o).cell? ⟨g, 3, none⟩ = some u3 ∧
    ((((((w.setCell ⟨g, 0, none⟩ u0).setCell ⟨g, 1, none⟩ u1).setCell ⟨g, 2, none⟩ u2).setCell ⟨g, 3, none⟩ u3).setCell ⟨g, 4, none⟩ u4).alloc o).cell? ⟨g, 4, none⟩ = some u4 := by
  obtain ⟨⟨r0, r1, r2, r3, r4, r5, _⟩, _⟩ := h
  have e : ∀ k, ((((((w.setCell ⟨g, 0, none⟩ u0).setCell ⟨g, 1, none⟩ u1).setCell ⟨g, 2, none⟩ u2).setCell ⟨g, 3, none⟩ u3).setCell ⟨g, 4, none⟩ u4).alloc o).cell? ⟨g, k, none⟩ = (((((w.setCell ⟨g, 0, none⟩ u0).setCell ⟨g, 1, none⟩ u1).setCell ⟨g, 2, none⟩ u2).setCell ⟨g, 3, none⟩ u3).setCell ⟨g, 4, none⟩ u4).cell? ⟨g, k, none⟩ := fun k => World.cell?_alloc_lt _ _ _ (by simpa using r5)
  refine ⟨?_, ?_, ?_, ?_, ?_⟩
  all_goals
    rw [e]
    simp [go_sem, r0, r1, r2, r3, r4]
set_option maxRecDepth 100000 in
set_option maxHeartbeats 1000000 in
theorem times_no (a b : SV) (w : World) (N : Nat) (ha : a.ok w) (hb : b.ok w) (k : Int) (hk : (k != 0) = true) (HM : Hid (bothE a b = k)) :
    Calls Tryz.prog 14 #[a.v, b.v] w fun e w' => SP w w' e noneC k N := by
  have h3 := Lib.hid (three ha hb _ rfl)
  clear ha hb
  unfold SV.v
  go_enter Tryz.func14, Tryz.ntmps14
  go_wp2_with (go_at_call 37; (with_reducible refine (both_any a b _ h3.out.1.ok h3.out.2.1.ok).mono ?_); rw [HM.out]; rintro e w1 ⟨rfl, hb1⟩; have HB := Lib.hid (below_go h3.out.2.2.2 hb1); obtain ⟨⟨r0, r1, r2, r3, r4, r5, _⟩, hvb, f0, f1, f2, f3, f4⟩ := h3.out.2.2.1.go hb1)
  exact bodyPost_ret (v := .tuple #[(SV.lev 0 0).v, .int .i64 k]) (by simp [results, Tryz.results14, go_sem, SV.lev, r0, r1, r2, r3, r4]) rfl
    (SP.mk' (SV.lev 0 0) (lev_ok _ _ _) rfl (lev_canon _ _) (Nat.zero_le _) (below_5 HB.out (by omega) _ _ _ _ _))
set_option maxRecDepth 100000 in
set_option maxHeartbeats 2000000 in
theorem times_count (a b : SV) (w : World) (N : Nat) (ha : a.ok w) (hb : b.ok w) (hs : a.s = 1) (hN : a.n + b.n ≤ N) (hN2 : N ≤ 1099511627776) (HM : Hid (bothE a b = 0)) :
    Calls Tryz.prog 14 #[a.v, b.v] w fun e w' => SP w w' e (timesC a.con b.con) 0 N := by
  have h3 := Lib.hid (three ha hb _ rfl)
  have t1 : (a.s == 1) = true := by rw [hs]; rfl
  have hC := Lib.hid (show timesC a.con b.con = ⟨a.s, mulM (mean a.b a.xs) (mean b.b b.xs), 0, 0⟩ by unfold timesC; rw [show a.con.s = a.s from rfl, t1]; rfl)
  have hN3 : N ≤ 35184372088832 := by omega
  have hP := Lib.hid (fun (b : Bool) (A : Option Addr) (n c : Nat) (xs : List Int) => show purC (SV.nat a.s b A n c xs).con = ⟨a.s, mean b xs, 0, 0⟩ by unfold purC; rw [show (SV.nat a.s b A n c xs).con.s = 1 from hs]; rw [hs]; rfl)
  have hNn := Lib.hid hN
  have hna : a.n ≤ 1099511627776 := by omega
  have hnb : b.n ≤ 1099511627776 := by omega
  clear ha hb hN hN2 hs
  unfold SV.v
  go_enter Tryz.func14, Tryz.ntmps14
  go_wp2_with (first
    | (go_at_call 37; (with_reducible refine (both_any a b _ h3.out.1.ok h3.out.2.1.ok).mono ?_); rw [HM.out]; rintro e w1 ⟨rfl, hb1⟩; have HB := Lib.hid (below_go h3.out.2.2.2 hb1); have HA1 := Lib.hid (h3.out.1.go hb1); have HB1 := Lib.hid (h3.out.2.1.go hb1); have HV1 := Lib.hid (h3.out.2.2.1.go hb1); obtain ⟨p0, p1, p2, p3, p4, p5, _⟩ := HA1.out; obtain ⟨q0, q1, q2, q3, q4, q5, _⟩ := HB1.out; have HX := Lib.hid (HA1.out.ok.1.below (below_al (Below.refl _ _) (.cells #[.int .i64 a.s, .bool false, .slice none 0 0, .int .i64 0, .float .f64 0] 27))); have HY := Lib.hid (HB1.out.ok.1.below (below_al (Below.refl _ _) (.cells #[.int .i64 a.s, .bool false, .slice none 0 0, .int .i64 0, .float .f64 0] 27))))
    | (go_at_call 42; (with_reducible refine (Na.mul_any a.b b.b a.A b.A a.n b.n a.c b.c N a.xs b.xs _ HX.out HY.out hna hnb hNn.out).mono ?_); rintro e w2 ⟨rb, rA, rn, rc, rs, rfl, hv, hm, hk, hi, hn, hb2⟩; have HO := Lib.hid ((var_new w1 (SV.lev a.s 0) (lev_ok _ _ _)).go hb2); have HV2 := Lib.hid ((HV1.out.al _).go hb2); have HB2 := Lib.hid (below_go (below_al HB.out _) hb2); obtain ⟨⟨o0, o1, o2, o3, o4, o5, _⟩, ovb, g0, g1, g2, g3, g4⟩ := HO.out; have HR := Lib.hid (((nat_ok (b := rb) a.s hv).set ovb 1 (.bool rb)).set (ovb.set 1 rfl) 2 (.slice rA rn rc)); have HK := Lib.hid (show natB (SV.nat a.s rb rA rn rc rs).s = true → (SV.nat a.s rb rA rn rc rs).canon from fun _ => ⟨hk.out, hi.out⟩); have HL := Lib.hid (show natB (SV.nat a.s rb rA rn rc rs).s = true → (SV.nat a.s rb rA rn rc rs).n ≤ N from fun _ => hn.out); obtain ⟨⟨r0, r1, r2, r3, r4, r5, _⟩, hvb, f0, f1, f2, f3, f4⟩ := HV2.out; have hlt : w.heap.size + 2 < w1.heap.size := HV1.out.1.2.2.2.2.2.1; have HV3 := Lib.hid ((HV2.out.far hlt 1 (.bool rb)).far hlt 2 (.slice rA rn rc)); have HB3 := Lib.hid ((HB2.out.setCell (p := ⟨w1.heap.size, 1, none⟩) (Nat.le_of_lt (by omega)) (.bool rb)).setCell (p := ⟨w1.heap.size, 2, none⟩) (Nat.le_of_lt (by omega)) (.slice rA rn rc))))
  exact bodyPost_ret (v := .tuple #[(SV.nat a.s rb rA rn rc rs).v, .int .i64 0]) (by simp [results, Tryz.results14, go_sem, r0, r1, r2, r3, r4]) rfl
    (SP.mk' (SV.nat a.s rb rA rn rc rs) (HR.out.set5 HV3.out.2.1 _ _ _ _ _ _ _) (by rw [nat_con, hm.out, hC.out]) ⟨hk.out, hi.out⟩ hn.out (below_5 HB3.out (by omega) _ _ _ _ _))
set_option maxRecDepth 100000 in
set_option maxHeartbeats 2000000 in
theorem times_trop (a b : SV) (w : World) (N : Nat) (ha : a.ok w) (hb : b.ok w) (hs : a.s = 3) (hN : max a.n b.n + 1 ≤ N) (hN2 : N ≤ 1099511627776) (HM : Hid (bothE a b = 0)) :
    Calls Tryz.prog 14 #[a.v, b.v] w fun e w' => SP w w' e (timesC a.con b.con) 0 N := by
  have h3 := Lib.hid (three ha hb _ rfl)
  have t1 : (a.s == 1) = false := by rw [hs]; rfl
  have t3 : (a.s == 3) = true := by rw [hs]; rfl
  have hC := Lib.hid (show timesC a.con b.con = ⟨a.s, addM (mean a.b a.xs) (mean b.b b.xs), 0, 0⟩ by unfold timesC; rw [show a.con.s = a.s from rfl, t1, t3]; rfl)
  have hN3 : N ≤ 35184372088832 := by omega
  have hP := Lib.hid (fun (b : Bool) (A : Option Addr) (n c : Nat) (xs : List Int) => show purC (SV.nat a.s b A n c xs).con = ⟨a.s, mean b xs, 0, 0⟩ by unfold purC; rw [show (SV.nat a.s b A n c xs).con.s = 3 from hs]; rw [hs]; rfl)
  have hNn := Lib.hid hN
  have hna : a.n ≤ 1099511627776 := by omega
  have hnb : b.n ≤ 1099511627776 := by omega
  clear ha hb hN hN2 hs
  unfold SV.v
  go_enter Tryz.func14, Tryz.ntmps14
  go_wp2_with (first
    | (go_at_call 37; (with_reducible refine (both_any a b _ h3.out.1.ok h3.out.2.1.ok).mono ?_); rw [HM.out]; rintro e w1 ⟨rfl, hb1⟩; have HB := Lib.hid (below_go h3.out.2.2.2 hb1); have HA1 := Lib.hid (h3.out.1.go hb1); have HB1 := Lib.hid (h3.out.2.1.go hb1); have HV1 := Lib.hid (h3.out.2.2.1.go hb1); obtain ⟨p0, p1, p2, p3, p4, p5, _⟩ := HA1.out; obtain ⟨q0, q1, q2, q3, q4, q5, _⟩ := HB1.out; have HX := Lib.hid (HA1.out.ok.1.below (below_al (Below.refl _ _) (.cells #[.int .i64 a.s, .bool false, .slice none 0 0, .int .i64 0, .float .f64 0] 27))); have HY := Lib.hid (HB1.out.ok.1.below (below_al (Below.refl _ _) (.cells #[.int .i64 a.s, .bool false, .slice none 0 0, .int .i64 0, .float .f64 0] 27))))
    | (go_at_call 38; (with_reducible refine (Na.add_any a.b b.b a.A b.A a.n b.n a.c b.c N a.xs b.xs _ HX.out HY.out hna hnb hNn.out).mono ?_); rintro e w2 ⟨rb, rA, rn, rc, rs, rfl, hv, hm, hk, hi, hn, hb2⟩; have HO := Lib.hid ((var_new w1 (SV.lev a.s 0) (lev_ok _ _ _)).go hb2); have HV2 := Lib.hid ((HV1.out.al _).go hb2); have HB2 := Lib.hid (below_go (below_al HB.out _) hb2); obtain ⟨⟨o0, o1, o2, o3, o4, o5, _⟩, ovb, g0, g1, g2, g3, g4⟩ := HO.out; have HR := Lib.hid (((nat_ok (b := rb) a.s hv).set ovb 1 (.bool rb)).set (ovb.set 1 rfl) 2 (.slice rA rn rc)); have HK := Lib.hid (show natB (SV.nat a.s rb rA rn rc rs).s = true → (SV.nat a.s rb rA rn rc rs).canon from fun _ => ⟨hk.out, hi.out⟩); have HL := Lib.hid (show natB (SV.nat a.s rb rA rn rc rs).s = true → (SV.nat a.s rb rA rn rc rs).n ≤ N from fun _ => hn.out); obtain ⟨⟨r0, r1, r2, r3, r4, r5, _⟩, hvb, f0, f1, f2, f3, f4⟩ := HV2.out; have hlt : w.heap.size + 2 < w1.heap.size := HV1.out.1.2.2.2.2.2.1; have HV3 := Lib.hid ((HV2.out.far hlt 1 (.bool rb)).far hlt 2 (.slice rA rn rc)); have HB3 := Lib.hid ((HB2.out.setCell (p := ⟨w1.heap.size, 1, none⟩) (Nat.le_of_lt (by omega)) (.bool rb)).setCell (p := ⟨w1.heap.size, 2, none⟩) (Nat.le_of_lt (by omega)) (.slice rA rn rc))))
  exact bodyPost_ret (v := .tuple #[(SV.nat a.s rb rA rn rc rs).v, .int .i64 0]) (by simp [results, Tryz.results14, go_sem, r0, r1, r2, r3, r4]) rfl
    (SP.mk' (SV.nat a.s rb rA rn rc rs) (HR.out.set5 HV3.out.2.1 _ _ _ _ _ _ _) (by rw [nat_con, hm.out, hC.out]) ⟨hk.out, hi.out⟩ hn.out (below_5 HB3.out (by omega) _ _ _ _ _))
set_option maxRecDepth 100000 in
set_option maxHeartbeats 2000000 in
theorem times_best (a b : SV) (w : World) (N : Nat) (ha : a.ok w) (hb : b.ok w) (hs : a.s = 5) (hN2 : N ≤ 1099511627776) (hxa : a.x ≤ ONE) (hxb : b.x ≤ ONE) (HM : Hid (bothE a b = 0)) :
    Calls Tryz.prog 14 #[a.v, b.v] w fun e w' => SP w w' e (timesC a.con b.con) 0 N := by
  have h3 := Lib.hid (three ha hb _ rfl)
  have t1 : (a.s == 1) = false := by rw [hs]; rfl
  have t3 : (a.s == 3) = false := by rw [hs]; rfl
  have t5 : (a.s == 5) = true := by rw [hs]; rfl
  have hC := Lib.hid (show timesC a.con b.con = ⟨a.s, some 0, 0, mulR a.x b.x⟩ by unfold timesC; rw [show a.con.s = a.s from rfl, t1, t3, t5]; rfl)
  have hN3 : N ≤ 35184372088832 := by omega
  have hP := Lib.hid (show purC (SV.dbl a.s (mulR a.x b.x)).con = ⟨a.s, some 0, 0, mulR a.x b.x⟩ by unfold purC; rw [show (SV.dbl a.s (mulR a.x b.x)).con.s = a.s from rfl, hs]; rfl)
  have hOP := Lib.hid (fun w => times_ok a.x b.x w hxa hxb)
  have hlt64 : mulR a.x b.x < W64 := Nat.lt_of_le_of_lt (mulR_le (Nat.lt_of_le_of_lt hxa (by decide)) hxb) (Nat.lt_of_le_of_lt hxa (by decide))
  have hok := Lib.hid (fun w => dbl_ok a.s (mulR a.x b.x) w hlt64)
  have hcan := Lib.hid (dbl_canon a.s (mulR a.x b.x))
  clear hlt64
  have hNo := Lib.hid (fun h : natB (SV.dbl a.s (mulR a.x b.x)).s = true => (show (SV.dbl a.s (mulR a.x b.x)).n ≤ N from Nat.zero_le _))
  have hcn := Lib.hid (fun _ : natB (SV.dbl a.s (mulR a.x b.x)).s = true => hcan.out)
  clear ha hb hs hxa hxb
  unfold SV.v
  go_enter Tryz.func14, Tryz.ntmps14
  go_wp2_with (first
    | (go_at_call 37; (with_reducible refine (both_any a b _ h3.out.1.ok h3.out.2.1.ok).mono ?_); rw [HM.out]; rintro e w1 ⟨rfl, hb1⟩; have HB := Lib.hid (below_go h3.out.2.2.2 hb1); have HA1 := Lib.hid (h3.out.1.go hb1); have HB1 := Lib.hid (h3.out.2.1.go hb1); have HV1 := Lib.hid (h3.out.2.2.1.go hb1); obtain ⟨p0, p1, p2, p3, p4, p5, _⟩ := HA1.out; obtain ⟨q0, q1, q2, q3, q4, q5, _⟩ := HB1.out; obtain ⟨⟨r0, r1, r2, r3, r4, r5, _⟩, hvb, f0, f1, f2, f3, f4⟩ := HV1.out; have hlt : w.heap.size + 2 < w1.heap.size := r5)
    | (go_at_call 43; (with_reducible refine (hOP.out _).mono ?_); rintro e w2 ⟨rfl, rfl⟩))
  obtain ⟨v0, v1, v2, v3, v4⟩ := cells5 (show Var w1 (w.heap.size + 1 + 1) (SV.lev 0 0) from HV1.out) (.cells #[.int .i64 a.s, .bool false, .slice none 0 0, .int .i64 0, .float .f64 (mulR a.x b.x)] 27) (.int .i64 a.s) (.bool false) (.slice none 0 0) (.int .i64 0) (.float .f64 (mulR a.x b.x))
  exact bodyPost_ret (v := .tuple #[(SV.dbl a.s (mulR a.x b.x)).v, .int .i64 0]) (by simp [results, Tryz.results14, go_sem, v0, v1, v2, v3, v4]) rfl
    (SP.mk' (SV.dbl a.s (mulR a.x b.x)) (((hok.out w1).set5 hvb _ _ _ _ _ _ _).al _) (by rw [hC.out]; rfl) hcan.out (Nat.zero_le _) (below_al (below_5 HB.out (by omega) _ _ _ _ _) _))
set_option maxRecDepth 100000 in
set_option maxHeartbeats 2000000 in
theorem times_cost (a b : SV) (w : World) (N : Nat) (ha : a.ok w) (hb : b.ok w) (hs : a.s = 6) (hN2 : N ≤ 1099511627776) (hxa : a.x ≤ INF) (hxb : b.x ≤ INF) (HM : Hid (bothE a b = 0)) :
    Calls Tryz.prog 14 #[a.v, b.v] w fun e w' => SP w w' e (timesC a.con b.con) 0 N := by
  have h3 := Lib.hid (three ha hb _ rfl)
  have t1 : (a.s == 1) = false := by rw [hs]; rfl
  have t3 : (a.s == 3) = false := by rw [hs]; rfl
  have t5 : (a.s == 5) = false := by rw [hs]; rfl
  have t6 : (a.s == 6) = true := by rw [hs]; rfl
  have hC := Lib.hid (show timesC a.con b.con = ⟨a.s, some 0, 0, addR a.x b.x⟩ by unfold timesC; rw [show a.con.s = a.s from rfl, t1, t3, t5, t6]; rfl)
  have hN3 : N ≤ 35184372088832 := by omega
  have hP := Lib.hid (show purC (SV.dbl a.s (addR a.x b.x)).con = ⟨a.s, some 0, 0, addR a.x b.x⟩ by unfold purC; rw [show (SV.dbl a.s (addR a.x b.x)).con.s = a.s from rfl, hs]; rfl)
  have hOP := Lib.hid (fun w => plus_ok a.x b.x w hxa hxb)
  have hlt64 : addR a.x b.x < W64 := Nat.lt_of_le_of_lt (addR_le a.x b.x) (by decide)
  have hok := Lib.hid (fun w => dbl_ok a.s (addR a.x b.x) w hlt64)
  have hcan := Lib.hid (dbl_canon a.s (addR a.x b.x))
  clear hlt64
  have hNo := Lib.hid (fun h : natB (SV.dbl a.s (addR a.x b.x)).s = true => (show (SV.dbl a.s (addR a.x b.x)).n ≤ N from Nat.zero_le _))
  have hcn := Lib.hid (fun _ : natB (SV.dbl a.s (addR a.x b.x)).s = true => hcan.out)
  clear ha hb hs hxa hxb
  unfold SV.v
  go_enter Tryz.func14, Tryz.ntmps14
  go_wp2_with (first
    | (go_at_call 37; (with_reducible refine (both_any a b _ h3.out.1.ok h3.out.2.1.ok).mono ?_); rw [HM.out]; rintro e w1 ⟨rfl, hb1⟩; have HB := Lib.hid (below_go h3.out.2.2.2 hb1); have HA1 := Lib.hid (h3.out.1.go hb1); have HB1 := Lib.hid (h3.out.2.1.go hb1); have HV1 := Lib.hid (h3.out.2.2.1.go hb1); obtain ⟨p0, p1, p2, p3, p4, p5, _⟩ := HA1.out; obtain ⟨q0, q1, q2, q3, q4, q5, _⟩ := HB1.out; obtain ⟨⟨r0, r1, r2, r3, r4, r5, _⟩, hvb, f0, f1, f2, f3, f4⟩ := HV1.out; have hlt : w.heap.size + 2 < w1.heap.size := r5)
    | (go_at_call 44; (with_reducible refine (hOP.out _).mono ?_); rintro e w2 ⟨rfl, rfl⟩))
  obtain ⟨v0, v1, v2, v3, v4⟩ := cells5 (show Var w1 (w.heap.size + 1 + 1) (SV.lev 0 0) from HV1.out) (.cells #[.int .i64 a.s, .bool false, .slice none 0 0, .int .i64 0, .float .f64 (addR a.x b.x)] 27) (.int .i64 a.s) (.bool false) (.slice none 0 0) (.int .i64 0) (.float .f64 (addR a.x b.x))
  exact bodyPost_ret (v := .tuple #[(SV.dbl a.s (addR a.x b.x)).v, .int .i64 0]) (by simp [results, Tryz.results14, go_sem, v0, v1, v2, v3, v4]) rfl
    (SP.mk' (SV.dbl a.s (addR a.x b.x)) (((hok.out w1).set5 hvb _ _ _ _ _ _ _).al _) (by rw [hC.out]; rfl) hcan.out (Nat.zero_le _) (below_al (below_5 HB.out (by omega) _ _ _ _ _) _))
set_option maxRecDepth 100000 in
set_option maxHeartbeats 2000000 in
theorem times_lev (a b : SV) (w : World) (N : Nat) (ha : a.ok w) (hb : b.ok w) (hs : a.s = 2 ∨ a.s = 4) (hN2 : N ≤ 1099511627776) (HM : Hid (bothE a b = 0)) :
    Calls Tryz.prog 14 #[a.v, b.v] w fun e w' => SP w w' e (timesC a.con b.con) 0 N := by
  have h3 := Lib.hid (three ha hb _ rfl)
  have t1 : (a.s == 1) = false := by rcases hs with h | h <;> rw [h] <;> rfl
  have t3 : (a.s == 3) = false := by rcases hs with h | h <;> rw [h] <;> rfl
  have t5 : (a.s == 5) = false := by rcases hs with h | h <;> rw [h] <;> rfl
  have t6 : (a.s == 6) = false := by rcases hs with h | h <;> rw [h] <;> rfl
  have hC := Lib.hid (show timesC a.con b.con = ⟨a.s, some 0, min a.lv b.lv, 0⟩ by unfold timesC; rw [show a.con.s = a.s from rfl, t1, t3, t5, t6]; rfl)
  have hN3 : N ≤ 35184372088832 := by omega
  have hP := Lib.hid (show purC (SV.lev a.s (min a.lv b.lv)).con = ⟨a.s, some 0, min a.lv b.lv, 0⟩ by unfold purC; rw [show (SV.lev a.s (min a.lv b.lv)).con.s = a.s from rfl]; rcases hs with h | h <;> rw [h] <;> rfl)
  have hmx := fun ts T w => run_imin ts T a.lv b.lv w
  have hok := Lib.hid (fun w => lev_ok a.s (min a.lv b.lv) w)
  have hcan := Lib.hid (lev_canon a.s (min a.lv b.lv))
  have hNo := Lib.hid (fun h : natB (SV.lev a.s (min a.lv b.lv)).s = true => (show (SV.lev a.s (min a.lv b.lv)).n ≤ N from Nat.zero_le _))
  have hcn := Lib.hid (fun _ : natB (SV.lev a.s (min a.lv b.lv)).s = true => hcan.out)
  clear ha hb hs
  unfold SV.v
  go_enter Tryz.func14, Tryz.ntmps14
  go_wp2_with (first
    | (go_at_call 37; (with_reducible refine (both_any a b _ h3.out.1.ok h3.out.2.1.ok).mono ?_); rw [HM.out]; rintro e w1 ⟨rfl, hb1⟩; have HB := Lib.hid (below_go h3.out.2.2.2 hb1); have HA1 := Lib.hid (h3.out.1.go hb1); have HB1 := Lib.hid (h3.out.2.1.go hb1); have HV1 := Lib.hid (h3.out.2.2.1.go hb1); obtain ⟨p0, p1, p2, p3, p4, p5, _⟩ := HA1.out; obtain ⟨q0, q1, q2, q3, q4, q5, _⟩ := HB1.out; obtain ⟨⟨r0, r1, r2, r3, r4, r5, _⟩, hvb, f0, f1, f2, f3, f4⟩ := HV1.out; have hlt : w.heap.size + 2 < w1.heap.size := r5))
  obtain ⟨v0, v1, v2, v3, v4⟩ := cells5 (show Var w1 (w.heap.size + 1 + 1) (SV.lev 0 0) from HV1.out) (.cells #[.int .i64 a.s, .bool false, .slice none 0 0, .int .i64 (min a.lv b.lv), .float .f64 0] 27) (.int .i64 a.s) (.bool false) (.slice none 0 0) (.int .i64 (min a.lv b.lv)) (.float .f64 0)
  exact bodyPost_ret (v := .tuple #[(SV.lev a.s (min a.lv b.lv)).v, .int .i64 0]) (by simp [results, Tryz.results14, go_sem, v0, v1, v2, v3, v4]) rfl
    (SP.mk' (SV.lev a.s (min a.lv b.lv)) (((hok.out w1).set5 hvb _ _ _ _ _ _ _).al _) (by rw [hC.out]; rfl) hcan.out (Nat.zero_le _) (below_al (below_5 HB.out (by omega) _ _ _ _ _) _))
end Go.Proofs.YtdkmmnehlmaebaaGreatDoor.Se
