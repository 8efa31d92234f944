/- The document's op (Plus and Times of values), by kinds. Conditions: the values can be read. -/
import Derived.Test.YtdkmmnehlmaebaaGreatDoorRa
namespace Go.Proofs.YtdkmmnehlmaebaaGreatDoor.Se
open Go.RowKit Go.NT Go.FT Go.FX Go.Lib Na

theorem Five.far {w : World} {g g' : Nat} {a : SV} (h : Five w g a) (hv : VB w g') (hne : g ≠ g') (k : Nat) (u : Value) : Five (w.setCell ⟨g', k, none⟩ u) g a := by
  have e : ∀ j, (w.setCell ⟨g', k, none⟩ u).cell? ⟨g, j, none⟩ = w.cell? ⟨g, j, none⟩ := fun j => World.cell?_setCell_other w _ _ u (fun e2 => hne (by injection e2 with e3; exact e3.symm))
  exact ⟨(e 0).trans h.1, (e 1).trans h.2.1, (e 2).trans h.2.2.1, (e 3).trans h.2.2.2.1, (e 4).trans h.2.2.2.2.1, by simpa using h.2.2.2.2.2.1, h.ok.set hv k u⟩
theorem frozen_set {w : World} {a a' : Addr} {u : Value} : (w.setCell a u).frozen? a' = w.frozen? a' := by simp
theorem Var.away {w : World} {g g' : Nat} {a : SV} (h : Var w g a) (hv : VB w g') (hne : g ≠ g') (k : Nat) (u : Value) : Var (w.setCell ⟨g', k, none⟩ u) g a := by
  have e : ∀ j, (w.setCell ⟨g', k, none⟩ u).cell? ⟨g, j, none⟩ = w.cell? ⟨g, j, none⟩ := fun j => World.cell?_setCell_other w _ _ u (fun e2 => hne (by injection e2 with e3; exact e3.symm))
  exact ⟨h.1.far hv hne k u, fun j z => by rw [e j]; exact h.2.1 j z, frozen_set.trans h.2.2.1, frozen_set.trans h.2.2.2.1, frozen_set.trans h.2.2.2.2.1, frozen_set.trans h.2.2.2.2.2.1, frozen_set.trans h.2.2.2.2.2.2⟩
/-- A number put into a value's own cells. -/
theorem Var.put {w : World} {g : Nat} {s : Int} {b0 : Bool} {A0 : Option Addr} {n0 c0 : Nat} {xs0 : List Int} (h : Var w g (SV.nat s b0 A0 n0 c0 xs0)) (b : Bool) {A : Option Addr} {n c : Nat} {xs : List Int} (hv : NV w A n c xs) :
    Var ((w.setCell ⟨g, 1, none⟩ (.bool b)).setCell ⟨g, 2, none⟩ (.slice A n c)) g (SV.nat s b A n c xs) := by
  obtain ⟨⟨r0, r1, r2, r3, r4, r5, _⟩, hvb, f0, f1, f2, f3, f4⟩ := h
  have hv2 := (hvb.set 1 (u := .bool b) rfl).set 2 (u := .slice A n c) rfl
  refine ⟨⟨?_, ?_, ?_, ?_, ?_, by simpa using r5, ((nat_ok (b := b) s hv).set hvb 1 _).set (hvb.set 1 rfl) 2 _⟩, hv2, ?_, ?_, ?_, ?_, ?_⟩
  · simp [go_sem, r0, r1, r2, r3, r4]
  · simp [go_sem, r0, r1, r2, r3, r4]
  · simp [go_sem, r0, r1, r2, r3, r4]
  · simp [go_sem, r0, r1, r2, r3, r4]
  · simp [go_sem, r0, r1, r2, r3, r4]
  · exact frozen_set.trans (frozen_set.trans f0)
  · exact frozen_set.trans (frozen_set.trans f1)
  · exact frozen_set.trans (frozen_set.trans f2)
  · exact frozen_set.trans (frozen_set.trans f3)
  · exact frozen_set.trans (frozen_set.trans f4)
set_option maxRecDepth 100000 in
set_option maxHeartbeats 1000000 in
theorem rop_no1 (a b : SV) (w : World) (N : Nat) (t : Bool) (ha : a.ok w) (hb : b.ok w) (E : Int) (hE : (E != 0) = true) (Ma : Hid (a.may = E)) :
    Calls Tryz.prog 41 #[a.v, b.v, .bool t] w fun e w' => SP w w' e noneC E N := by
  have h3 := Lib.hid (three ha hb _ rfl)
  have FA := Lib.hid h3.out.1
  have FB := Lib.hid h3.out.2.1
  have FR := Lib.hid h3.out.2.2.1
  have BB := Lib.hid h3.out.2.2.2
  clear ha hb h3
  unfold SV.v
  go_enter Tryz.func41, Tryz.ntmps41
  go_wp2_with (first
    | (go_at_call 22; (with_reducible refine (rmay_is a _ FA.out.ok Ma).mono ?_); rintro e w1 ⟨rfl, hbw1⟩; have BB := Lib.hid (below_go BB.out hbw1); have FA := Lib.hid (FA.out.go hbw1); have FB := Lib.hid (FB.out.go hbw1); have FR := Lib.hid (FR.out.go hbw1); obtain ⟨p0, p1, p2, p3, p4, p5, _⟩ := FA.out; obtain ⟨q0, q1, q2, q3, q4, q5, _⟩ := FB.out; obtain ⟨⟨r0, r1, r2, r3, r4, r5, _⟩, hvb, f0, f1, f2, f3, f4⟩ := FR.out; have hlt : w.heap.size + 2 < w1.heap.size := r5; have hlt0 : w.heap.size < w1.heap.size := (by omega); have hlt1 : w.heap.size + 1 < w1.heap.size := (by omega)))
  exact bodyPost_ret (v := .tuple #[(SV.lev 0 0).v, .int .i64 E]) (by simp [results, Tryz.results41, go_sem, SV.lev, r0, r1, r2, r3, r4]) rfl
    (SP.mk' (SV.lev 0 0) (lev_ok _ _ _) rfl (lev_canon _ _) (Nat.zero_le _) (below_5 BB.out (by omega) _ _ _ _ _))
set_option maxRecDepth 100000 in
set_option maxHeartbeats 1000000 in
theorem rop_no2 (a b : SV) (w : World) (N : Nat) (t : Bool) (ha : a.ok w) (hb : b.ok w) (E : Int) (hE : (E != 0) = true) (Ma : Hid (a.may = 0)) (Mb : Hid (b.may = E)) :
    Calls Tryz.prog 41 #[a.v, b.v, .bool t] w fun e w' => SP w w' e noneC E N := by
  have h3 := Lib.hid (three ha hb _ rfl)
  have FA := Lib.hid h3.out.1
  have FB := Lib.hid h3.out.2.1
  have FR := Lib.hid h3.out.2.2.1
  have BB := Lib.hid h3.out.2.2.2
  clear ha hb h3
  unfold SV.v
  go_enter Tryz.func41, Tryz.ntmps41
  go_wp2_with (first
    | (go_at_call 22; (with_reducible refine (rmay_is a _ FA.out.ok Ma).mono ?_); rintro e w0 ⟨rfl, hbw0⟩; have BB := Lib.hid (below_go BB.out hbw0); have FA := Lib.hid (FA.out.go hbw0); have FB := Lib.hid (FB.out.go hbw0); have FR := Lib.hid (FR.out.go hbw0); obtain ⟨p0, p1, p2, p3, p4, p5, _⟩ := FA.out; obtain ⟨q0, q1, q2, q3, q4, q5, _⟩ := FB.out; obtain ⟨⟨r0, r1, r2, r3, r4, r5, _⟩, hvb, f0, f1, f2, f3, f4⟩ := FR.out)
    | (go_at_call 22; (with_reducible refine (rmay_is b _ FB.out.ok Mb).mono ?_); rintro e w1 ⟨rfl, hbw1⟩; have BB := Lib.hid (below_go BB.out hbw1); have FA := Lib.hid (FA.out.go hbw1); have FB := Lib.hid (FB.out.go hbw1); have FR := Lib.hid (FR.out.go hbw1); obtain ⟨p0, p1, p2, p3, p4, p5, _⟩ := FA.out; obtain ⟨q0, q1, q2, q3, q4, q5, _⟩ := FB.out; obtain ⟨⟨r0, r1, r2, r3, r4, r5, _⟩, hvb, f0, f1, f2, f3, f4⟩ := FR.out; have hlt : w.heap.size + 2 < w1.heap.size := r5; have hlt0 : w.heap.size < w1.heap.size := (by omega); have hlt1 : w.heap.size + 1 < w1.heap.size := (by omega)))
  exact bodyPost_ret (v := .tuple #[(SV.lev 0 0).v, .int .i64 E]) (by simp [results, Tryz.results41, go_sem, SV.lev, r0, r1, r2, r3, r4]) rfl
    (SP.mk' (SV.lev 0 0) (lev_ok _ _ _) rfl (lev_canon _ _) (Nat.zero_le _) (below_5 BB.out (by omega) _ _ _ _ _))
set_option maxRecDepth 100000 in
set_option maxHeartbeats 1000000 in
theorem rop_no3 (a b : SV) (w : World) (N : Nat) (t : Bool) (ha : a.ok w) (hb : b.ok w) (Ma : Hid (a.may = 0)) (Mb : Hid (b.may = 0)) (tS : (a.s != b.s) = true) (tS2 : (a.s == b.s) = false) :
    Calls Tryz.prog 41 #[a.v, b.v, .bool t] w fun e w' => SP w w' e noneC 9 N := by
  have h3 := Lib.hid (three ha hb _ rfl)
  have FA := Lib.hid h3.out.1
  have FB := Lib.hid h3.out.2.1
  have FR := Lib.hid h3.out.2.2.1
  have BB := Lib.hid h3.out.2.2.2
  have tS3 : ¬ a.s = b.s := by simpa using tS2
  clear ha hb h3
  unfold SV.v
  go_enter Tryz.func41, Tryz.ntmps41
  go_wp2_with (first
    | (go_at_call 22; (with_reducible refine (rmay_is a _ FA.out.ok Ma).mono ?_); rintro e w0 ⟨rfl, hbw0⟩; have BB := Lib.hid (below_go BB.out hbw0); have FA := Lib.hid (FA.out.go hbw0); have FB := Lib.hid (FB.out.go hbw0); have FR := Lib.hid (FR.out.go hbw0); obtain ⟨p0, p1, p2, p3, p4, p5, _⟩ := FA.out; obtain ⟨q0, q1, q2, q3, q4, q5, _⟩ := FB.out; obtain ⟨⟨r0, r1, r2, r3, r4, r5, _⟩, hvb, f0, f1, f2, f3, f4⟩ := FR.out)
    | (go_at_call 22; (with_reducible refine (rmay_is b _ FB.out.ok Mb).mono ?_); rintro e w1 ⟨rfl, hbw1⟩; have BB := Lib.hid (below_go BB.out hbw1); have FA := Lib.hid (FA.out.go hbw1); have FB := Lib.hid (FB.out.go hbw1); have FR := Lib.hid (FR.out.go hbw1); obtain ⟨p0, p1, p2, p3, p4, p5, _⟩ := FA.out; obtain ⟨q0, q1, q2, q3, q4, q5, _⟩ := FB.out; obtain ⟨⟨r0, r1, r2, r3, r4, r5, _⟩, hvb, f0, f1, f2, f3, f4⟩ := FR.out; have hlt : w.heap.size + 2 < w1.heap.size := r5; have hlt0 : w.heap.size < w1.heap.size := (by omega); have hlt1 : w.heap.size + 1 < w1.heap.size := (by omega)))
  exact bodyPost_ret (v := .tuple #[(SV.lev 0 0).v, .int .i64 9]) (by simp [results, Tryz.results41, go_sem, SV.lev, r0, r1, r2, r3, r4]) rfl
    (SP.mk' (SV.lev 0 0) (lev_ok _ _ _) rfl (lev_canon _ _) (Nat.zero_le _) (below_5 BB.out (by omega) _ _ _ _ _))
set_option maxRecDepth 100000 in
set_option maxHeartbeats 2000000 in
theorem rop_plus_count (a b : SV) (w : World) (N : Nat) (ha : a.ok w) (hb : b.ok w) (hs : a.s = 1) (hss : a.s = b.s) (hN : a.n + b.n + 1 ≤ N) (hN2 : N ≤ 1099511627776) (Ma : Hid (a.may = 0)) (Mb : Hid (b.may = 0)) :
    Calls Tryz.prog 41 #[a.v, b.v, .bool false] w fun e w' => SP w w' e (plusC a.con b.con) 0 N := by
  have h3 := Lib.hid (three ha hb _ rfl)
  have FA := Lib.hid h3.out.1
  have FB := Lib.hid h3.out.2.1
  have FR := Lib.hid h3.out.2.2.1
  have BB := Lib.hid h3.out.2.2.2
  have t1 : (a.s == 1) = true := by rw [hs]; rfl
  have tS : (a.s != b.s) = false := by rw [hss]; simp
  have tS2 : (a.s == b.s) = true := by rw [hss]; simp
  have hC := Lib.hid (show plusC a.con b.con = ⟨a.s, addM (mean a.b a.xs) (mean b.b b.xs), 0, 0⟩ by unfold plusC; rw [show a.con.s = a.s from rfl, hs]; rfl)
  have hN3 : N ≤ 35184372088832 := by omega
  have hna : a.n ≤ 1099511627776 := by omega
  have hnb : b.n ≤ 1099511627776 := by omega
  have hNa := Lib.hid (show max a.n b.n + 1 ≤ N by omega)
  have hNm := Lib.hid (show a.n + b.n ≤ N by omega)
  have hNx := Lib.hid (show a.n ≤ N by omega)
  have hNy := Lib.hid (show b.n ≤ N by omega)
  clear ha hb hN hN2 hs hss h3
  unfold SV.v
  go_enter Tryz.func41, Tryz.ntmps41
  go_wp2_with (first
    | (go_at_call 22; (with_reducible refine (rmay_is a _ FA.out.ok Ma).mono ?_); rintro e w0 ⟨rfl, hbw0⟩; have BB := Lib.hid (below_go BB.out hbw0); have FA := Lib.hid (FA.out.go hbw0); have FB := Lib.hid (FB.out.go hbw0); have FR := Lib.hid (FR.out.go hbw0); obtain ⟨p0, p1, p2, p3, p4, p5, _⟩ := FA.out; obtain ⟨q0, q1, q2, q3, q4, q5, _⟩ := FB.out; obtain ⟨⟨r0, r1, r2, r3, r4, r5, _⟩, hvb, f0, f1, f2, f3, f4⟩ := FR.out)
    | (go_at_call 22; (with_reducible refine (rmay_is b _ FB.out.ok Mb).mono ?_); rintro e w1 ⟨rfl, hbw1⟩; have BB := Lib.hid (below_go BB.out hbw1); have FA := Lib.hid (FA.out.go hbw1); have FB := Lib.hid (FB.out.go hbw1); have FR := Lib.hid (FR.out.go hbw1); obtain ⟨p0, p1, p2, p3, p4, p5, _⟩ := FA.out; obtain ⟨q0, q1, q2, q3, q4, q5, _⟩ := FB.out; obtain ⟨⟨r0, r1, r2, r3, r4, r5, _⟩, hvb, f0, f1, f2, f3, f4⟩ := FR.out; have hlt : w.heap.size + 2 < w1.heap.size := r5; have hlt0 : w.heap.size < w1.heap.size := (by omega); have hlt1 : w.heap.size + 1 < w1.heap.size := (by omega); have FV := Lib.hid (var_new w1 (SV.nat a.s false none 0 0 []) (lev_ok _ _ _)); have XA := Lib.hid (FA.out.al (.cells #[.int .i64 a.s, .bool false, .slice none 0 0, .int .i64 0, .float .f64 0] 27)); have XB := Lib.hid (FB.out.al (.cells #[.int .i64 a.s, .bool false, .slice none 0 0, .int .i64 0, .float .f64 0] 27)); have XR := Lib.hid (FR.out.al (.cells #[.int .i64 a.s, .bool false, .slice none 0 0, .int .i64 0, .float .f64 0] 27)); have XX := Lib.hid (below_al BB.out (.cells #[.int .i64 a.s, .bool false, .slice none 0 0, .int .i64 0, .float .f64 0] 27)); have HX := Lib.hid XA.out.ok.1; have HY := Lib.hid XB.out.ok.1)
    | (go_at_call 71; (with_reducible refine (radd_any a.b b.b a.A b.A a.n b.n a.c b.c N a.xs b.xs _ HX.out HY.out hna hnb hNa.out).mono ?_); rintro e w2 ⟨rb, rA, rn, rc, rs, rfl, hv, hm, hk, hi, hn, hbw2⟩; have BB := Lib.hid (below_go XX.out hbw2); have FA := Lib.hid (XA.out.go hbw2); have FB := Lib.hid (XB.out.go hbw2); have FR := Lib.hid (XR.out.go hbw2); have FV := Lib.hid (FV.out.go hbw2); obtain ⟨p0, p1, p2, p3, p4, p5, _⟩ := FA.out; obtain ⟨q0, q1, q2, q3, q4, q5, _⟩ := FB.out; obtain ⟨⟨r0, r1, r2, r3, r4, r5, _⟩, hvb, f0, f1, f2, f3, f4⟩ := FR.out; obtain ⟨⟨o0, o1, o2, o3, o4, o5, _⟩, ovb, g0, g1, g2, g3, g4⟩ := FV.out; have XA := Lib.hid ((FA.out.far ovb (by omega) 1 (.bool rb)).far (ovb.set 1 rfl) (by omega) 2 (.slice rA rn rc)); have XB := Lib.hid ((FB.out.far ovb (by omega) 1 (.bool rb)).far (ovb.set 1 rfl) (by omega) 2 (.slice rA rn rc)); have XR := Lib.hid ((FR.out.away ovb (by omega) 1 (.bool rb)).away (ovb.set 1 rfl) (by omega) 2 (.slice rA rn rc)); have XX := Lib.hid ((BB.out.setCell (p := ⟨w1.heap.size, 1, none⟩) (Nat.le_of_lt hlt0) (.bool rb)).setCell (p := ⟨w1.heap.size, 2, none⟩) (Nat.le_of_lt hlt0) (.slice rA rn rc)); have FV := Lib.hid (FV.out.put rb hv); have HX := Lib.hid XA.out.ok.1; have HY := Lib.hid XB.out.ok.1))
  exact bodyPost_ret (v := .tuple #[(SV.nat a.s rb rA rn rc rs).v, .int .i64 0]) (by simp [results, Tryz.results41, go_sem, r0, r1, r2, r3, r4]) rfl
    (SP.mk' (SV.nat a.s rb rA rn rc rs) (FV.out.1.ok.set5 XR.out.2.1 _ _ _ _ _ _ _) (by rw [nat_con, hm.out, hC.out]) ⟨hk.out, hi.out⟩ hn.out (below_5 XX.out (by omega) _ _ _ _ _))
set_option maxRecDepth 100000 in
set_option maxHeartbeats 2000000 in
theorem rop_times_count (a b : SV) (w : World) (N : Nat) (ha : a.ok w) (hb : b.ok w) (hs : a.s = 1) (hss : a.s = b.s) (hN : a.n + b.n + 1 ≤ N) (hN2 : N ≤ 1099511627776) (Ma : Hid (a.may = 0)) (Mb : Hid (b.may = 0)) :
    Calls Tryz.prog 41 #[a.v, b.v, .bool true] w fun e w' => SP w w' e (timesC a.con b.con) 0 N := by
  have h3 := Lib.hid (three ha hb _ rfl)
  have FA := Lib.hid h3.out.1
  have FB := Lib.hid h3.out.2.1
  have FR := Lib.hid h3.out.2.2.1
  have BB := Lib.hid h3.out.2.2.2
  have t1 : (a.s == 1) = true := by rw [hs]; rfl
  have tS : (a.s != b.s) = false := by rw [hss]; simp
  have tS2 : (a.s == b.s) = true := by rw [hss]; simp
  have hC := Lib.hid (show timesC a.con b.con = ⟨a.s, mulM (mean a.b a.xs) (mean b.b b.xs), 0, 0⟩ by unfold timesC; rw [show a.con.s = a.s from rfl, hs]; rfl)
  have hN3 : N ≤ 35184372088832 := by omega
  have hna : a.n ≤ 1099511627776 := by omega
  have hnb : b.n ≤ 1099511627776 := by omega
  have hNa := Lib.hid (show max a.n b.n + 1 ≤ N by omega)
  have hNm := Lib.hid (show a.n + b.n ≤ N by omega)
  have hNx := Lib.hid (show a.n ≤ N by omega)
  have hNy := Lib.hid (show b.n ≤ N by omega)
  clear ha hb hN hN2 hs hss h3
  unfold SV.v
  go_enter Tryz.func41, Tryz.ntmps41
  go_wp2_with (first
    | (go_at_call 22; (with_reducible refine (rmay_is a _ FA.out.ok Ma).mono ?_); rintro e w0 ⟨rfl, hbw0⟩; have BB := Lib.hid (below_go BB.out hbw0); have FA := Lib.hid (FA.out.go hbw0); have FB := Lib.hid (FB.out.go hbw0); have FR := Lib.hid (FR.out.go hbw0); obtain ⟨p0, p1, p2, p3, p4, p5, _⟩ := FA.out; obtain ⟨q0, q1, q2, q3, q4, q5, _⟩ := FB.out; obtain ⟨⟨r0, r1, r2, r3, r4, r5, _⟩, hvb, f0, f1, f2, f3, f4⟩ := FR.out)
    | (go_at_call 22; (with_reducible refine (rmay_is b _ FB.out.ok Mb).mono ?_); rintro e w1 ⟨rfl, hbw1⟩; have BB := Lib.hid (below_go BB.out hbw1); have FA := Lib.hid (FA.out.go hbw1); have FB := Lib.hid (FB.out.go hbw1); have FR := Lib.hid (FR.out.go hbw1); obtain ⟨p0, p1, p2, p3, p4, p5, _⟩ := FA.out; obtain ⟨q0, q1, q2, q3, q4, q5, _⟩ := FB.out; obtain ⟨⟨r0, r1, r2, r3, r4, r5, _⟩, hvb, f0, f1, f2, f3, f4⟩ := FR.out; have hlt : w.heap.size + 2 < w1.heap.size := r5; have hlt0 : w.heap.size < w1.heap.size := (by omega); have hlt1 : w.heap.size + 1 < w1.heap.size := (by omega); have FV := Lib.hid (var_new w1 (SV.nat a.s false none 0 0 []) (lev_ok _ _ _)); have XA := Lib.hid (FA.out.al (.cells #[.int .i64 a.s, .bool false, .slice none 0 0, .int .i64 0, .float .f64 0] 27)); have XB := Lib.hid (FB.out.al (.cells #[.int .i64 a.s, .bool false, .slice none 0 0, .int .i64 0, .float .f64 0] 27)); have XR := Lib.hid (FR.out.al (.cells #[.int .i64 a.s, .bool false, .slice none 0 0, .int .i64 0, .float .f64 0] 27)); have XX := Lib.hid (below_al BB.out (.cells #[.int .i64 a.s, .bool false, .slice none 0 0, .int .i64 0, .float .f64 0] 27)); have HX := Lib.hid XA.out.ok.1; have HY := Lib.hid XB.out.ok.1)
    | (go_at_call 71; (with_reducible refine (radd_any a.b b.b a.A b.A a.n b.n a.c b.c N a.xs b.xs _ HX.out HY.out hna hnb hNa.out).mono ?_); rintro e w2 ⟨rb, rA, rn, rc, rs, rfl, hv, hm, hk, hi, hn, hbw2⟩; have BB := Lib.hid (below_go XX.out hbw2); have FA := Lib.hid (XA.out.go hbw2); have FB := Lib.hid (XB.out.go hbw2); have FR := Lib.hid (XR.out.go hbw2); have FV := Lib.hid (FV.out.go hbw2); obtain ⟨p0, p1, p2, p3, p4, p5, _⟩ := FA.out; obtain ⟨q0, q1, q2, q3, q4, q5, _⟩ := FB.out; obtain ⟨⟨r0, r1, r2, r3, r4, r5, _⟩, hvb, f0, f1, f2, f3, f4⟩ := FR.out; obtain ⟨⟨o0, o1, o2, o3, o4, o5, _⟩, ovb, g0, g1, g2, g3, g4⟩ := FV.out; have XA := Lib.hid ((FA.out.far ovb (by omega) 1 (.bool rb)).far (ovb.set 1 rfl) (by omega) 2 (.slice rA rn rc)); have XB := Lib.hid ((FB.out.far ovb (by omega) 1 (.bool rb)).far (ovb.set 1 rfl) (by omega) 2 (.slice rA rn rc)); have XR := Lib.hid ((FR.out.away ovb (by omega) 1 (.bool rb)).away (ovb.set 1 rfl) (by omega) 2 (.slice rA rn rc)); have XX := Lib.hid ((BB.out.setCell (p := ⟨w1.heap.size, 1, none⟩) (Nat.le_of_lt hlt0) (.bool rb)).setCell (p := ⟨w1.heap.size, 2, none⟩) (Nat.le_of_lt hlt0) (.slice rA rn rc)); have FV := Lib.hid (FV.out.put rb hv); have HX := Lib.hid XA.out.ok.1; have HY := Lib.hid XB.out.ok.1)
    | (go_at_call 72; (with_reducible refine (Na.rmul_any a.b b.b a.A b.A a.n b.n a.c b.c N a.xs b.xs _ HX.out HY.out hna hnb hNm.out).mono ?_); rintro e w3 ⟨rb, rA, rn, rc, rs, rfl, hv, hm, hk, hi, hn, hbw3⟩; have BB := Lib.hid (below_go XX.out hbw3); have FA := Lib.hid (XA.out.go hbw3); have FB := Lib.hid (XB.out.go hbw3); have FR := Lib.hid (XR.out.go hbw3); have FV := Lib.hid (FV.out.go hbw3); obtain ⟨p0, p1, p2, p3, p4, p5, _⟩ := FA.out; obtain ⟨q0, q1, q2, q3, q4, q5, _⟩ := FB.out; obtain ⟨⟨r0, r1, r2, r3, r4, r5, _⟩, hvb, f0, f1, f2, f3, f4⟩ := FR.out; obtain ⟨⟨o0, o1, o2, o3, o4, o5, _⟩, ovb, g0, g1, g2, g3, g4⟩ := FV.out; have XA := Lib.hid ((FA.out.far ovb (by omega) 1 (.bool rb)).far (ovb.set 1 rfl) (by omega) 2 (.slice rA rn rc)); have XB := Lib.hid ((FB.out.far ovb (by omega) 1 (.bool rb)).far (ovb.set 1 rfl) (by omega) 2 (.slice rA rn rc)); have XR := Lib.hid ((FR.out.away ovb (by omega) 1 (.bool rb)).away (ovb.set 1 rfl) (by omega) 2 (.slice rA rn rc)); have XX := Lib.hid ((BB.out.setCell (p := ⟨w1.heap.size, 1, none⟩) (Nat.le_of_lt hlt0) (.bool rb)).setCell (p := ⟨w1.heap.size, 2, none⟩) (Nat.le_of_lt hlt0) (.slice rA rn rc)); have FV := Lib.hid (FV.out.put rb hv); have HX := Lib.hid XA.out.ok.1; have HY := Lib.hid XB.out.ok.1))
  exact bodyPost_ret (v := .tuple #[(SV.nat a.s rb rA rn rc rs).v, .int .i64 0]) (by simp [results, Tryz.results41, go_sem, r0, r1, r2, r3, r4]) rfl
    (SP.mk' (SV.nat a.s rb rA rn rc rs) (FV.out.1.ok.set5 XR.out.2.1 _ _ _ _ _ _ _) (by rw [nat_con, hm.out, hC.out]) ⟨hk.out, hi.out⟩ hn.out (below_5 XX.out (by omega) _ _ _ _ _))
set_option maxRecDepth 100000 in
set_option maxHeartbeats 2000000 in
theorem rop_plus_bool (a b : SV) (w : World) (N : Nat) (ha : a.ok w) (hb : b.ok w) (hs : a.s = 2) (hss : a.s = b.s) (hN : a.n + b.n + 1 ≤ N) (hN2 : N ≤ 1099511627776) (Ma : Hid (a.may = 0)) (Mb : Hid (b.may = 0)) :
    Calls Tryz.prog 41 #[a.v, b.v, .bool false] w fun e w' => SP w w' e (plusC a.con b.con) 0 N := by
  have h3 := Lib.hid (three ha hb _ rfl)
  have FA := Lib.hid h3.out.1
  have FB := Lib.hid h3.out.2.1
  have FR := Lib.hid h3.out.2.2.1
  have BB := Lib.hid h3.out.2.2.2
  have t1 : (a.s == 1) = false := by rw [hs]; rfl
  have t3 : (a.s == 3) = false := by rw [hs]; rfl
  have t2 : (a.s == 2) = true := by rw [hs]; rfl
  have tS : (a.s != b.s) = false := by rw [hss]; simp
  have tS2 : (a.s == b.s) = true := by rw [hss]; simp
  have hC := Lib.hid (show plusC a.con b.con = ⟨a.s, some 0, max a.lv b.lv, 0⟩ by unfold plusC; rw [show a.con.s = a.s from rfl, hs]; rfl)
  have hN3 : N ≤ 35184372088832 := by omega
  have hmx := fun ts T w => run_imax ts T a.lv b.lv w
  have hok := Lib.hid (fun w => lev_ok a.s (max a.lv b.lv) w)
  have hcan := Lib.hid (lev_canon a.s (max a.lv b.lv))
  clear ha hb hs hss hN hN2 hN3 h3
  unfold SV.v
  go_enter Tryz.func41, Tryz.ntmps41
  go_wp2_with (first
    | (go_at_call 22; (with_reducible refine (rmay_is a _ FA.out.ok Ma).mono ?_); rintro e w0 ⟨rfl, hbw0⟩; have BB := Lib.hid (below_go BB.out hbw0); have FA := Lib.hid (FA.out.go hbw0); have FB := Lib.hid (FB.out.go hbw0); have FR := Lib.hid (FR.out.go hbw0); obtain ⟨p0, p1, p2, p3, p4, p5, _⟩ := FA.out; obtain ⟨q0, q1, q2, q3, q4, q5, _⟩ := FB.out; obtain ⟨⟨r0, r1, r2, r3, r4, r5, _⟩, hvb, f0, f1, f2, f3, f4⟩ := FR.out)
    | (go_at_call 22; (with_reducible refine (rmay_is b _ FB.out.ok Mb).mono ?_); rintro e w1 ⟨rfl, hbw1⟩; have BB := Lib.hid (below_go BB.out hbw1); have FA := Lib.hid (FA.out.go hbw1); have FB := Lib.hid (FB.out.go hbw1); have FR := Lib.hid (FR.out.go hbw1); obtain ⟨p0, p1, p2, p3, p4, p5, _⟩ := FA.out; obtain ⟨q0, q1, q2, q3, q4, q5, _⟩ := FB.out; obtain ⟨⟨r0, r1, r2, r3, r4, r5, _⟩, hvb, f0, f1, f2, f3, f4⟩ := FR.out; have hlt : w.heap.size + 2 < w1.heap.size := r5; have hlt0 : w.heap.size < w1.heap.size := (by omega); have hlt1 : w.heap.size + 1 < w1.heap.size := (by omega)))
  obtain ⟨v0, v1, v2, v3, v4⟩ := cells5 (show Var w1 (w.heap.size + 1 + 1) (SV.lev 0 0) from FR.out) (.cells #[.int .i64 a.s, .bool false, .slice none 0 0, .int .i64 (max a.lv b.lv), .float .f64 0] 27) (.int .i64 a.s) (.bool false) (.slice none 0 0) (.int .i64 (max a.lv b.lv)) (.float .f64 0)
  exact bodyPost_ret (v := .tuple #[(SV.lev a.s (max a.lv b.lv)).v, .int .i64 0]) (by simp [results, Tryz.results41, go_sem, v0, v1, v2, v3, v4]) rfl
    (SP.mk' (SV.lev a.s (max a.lv b.lv)) (((hok.out w1).set5 hvb _ _ _ _ _ _ _).al _) (by rw [hC.out]; rfl) hcan.out (Nat.zero_le _) (below_al (below_5 BB.out (by omega) _ _ _ _ _) _))
set_option maxRecDepth 100000 in
set_option maxHeartbeats 2000000 in
theorem rop_times_bool (a b : SV) (w : World) (N : Nat) (ha : a.ok w) (hb : b.ok w) (hs : a.s = 2) (hss : a.s = b.s) (hN : a.n + b.n + 1 ≤ N) (hN2 : N ≤ 1099511627776) (Ma : Hid (a.may = 0)) (Mb : Hid (b.may = 0)) :
    Calls Tryz.prog 41 #[a.v, b.v, .bool true] w fun e w' => SP w w' e (timesC a.con b.con) 0 N := by
  have h3 := Lib.hid (three ha hb _ rfl)
  have FA := Lib.hid h3.out.1
  have FB := Lib.hid h3.out.2.1
  have FR := Lib.hid h3.out.2.2.1
  have BB := Lib.hid h3.out.2.2.2
  have t1 : (a.s == 1) = false := by rw [hs]; rfl
  have t3 : (a.s == 3) = false := by rw [hs]; rfl
  have t2 : (a.s == 2) = true := by rw [hs]; rfl
  have tS : (a.s != b.s) = false := by rw [hss]; simp
  have tS2 : (a.s == b.s) = true := by rw [hss]; simp
  have hC := Lib.hid (show timesC a.con b.con = ⟨a.s, some 0, min a.lv b.lv, 0⟩ by unfold timesC; rw [show a.con.s = a.s from rfl, hs]; rfl)
  have hN3 : N ≤ 35184372088832 := by omega
  have hmx := fun ts T w => run_imax ts T a.lv b.lv w
  have hmn := fun ts T w => run_imin ts T a.lv b.lv w
  have hok := Lib.hid (fun w => lev_ok a.s (min a.lv b.lv) w)
  have hcan := Lib.hid (lev_canon a.s (min a.lv b.lv))
  clear ha hb hs hss hN hN2 hN3 h3
  unfold SV.v
  go_enter Tryz.func41, Tryz.ntmps41
  go_wp2_with (first
    | (go_at_call 22; (with_reducible refine (rmay_is a _ FA.out.ok Ma).mono ?_); rintro e w0 ⟨rfl, hbw0⟩; have BB := Lib.hid (below_go BB.out hbw0); have FA := Lib.hid (FA.out.go hbw0); have FB := Lib.hid (FB.out.go hbw0); have FR := Lib.hid (FR.out.go hbw0); obtain ⟨p0, p1, p2, p3, p4, p5, _⟩ := FA.out; obtain ⟨q0, q1, q2, q3, q4, q5, _⟩ := FB.out; obtain ⟨⟨r0, r1, r2, r3, r4, r5, _⟩, hvb, f0, f1, f2, f3, f4⟩ := FR.out)
    | (go_at_call 22; (with_reducible refine (rmay_is b _ FB.out.ok Mb).mono ?_); rintro e w1 ⟨rfl, hbw1⟩; have BB := Lib.hid (below_go BB.out hbw1); have FA := Lib.hid (FA.out.go hbw1); have FB := Lib.hid (FB.out.go hbw1); have FR := Lib.hid (FR.out.go hbw1); obtain ⟨p0, p1, p2, p3, p4, p5, _⟩ := FA.out; obtain ⟨q0, q1, q2, q3, q4, q5, _⟩ := FB.out; obtain ⟨⟨r0, r1, r2, r3, r4, r5, _⟩, hvb, f0, f1, f2, f3, f4⟩ := FR.out; have hlt : w.heap.size + 2 < w1.heap.size := r5; have hlt0 : w.heap.size < w1.heap.size := (by omega); have hlt1 : w.heap.size + 1 < w1.heap.size := (by omega)))
  obtain ⟨v0, v1, v2, v3, v4⟩ := cells5 (show Var w1 (w.heap.size + 1 + 1) (SV.lev 0 0) from FR.out) (.cells #[.int .i64 a.s, .bool false, .slice none 0 0, .int .i64 (min a.lv b.lv), .float .f64 0] 27) (.int .i64 a.s) (.bool false) (.slice none 0 0) (.int .i64 (min a.lv b.lv)) (.float .f64 0)
  exact bodyPost_ret (v := .tuple #[(SV.lev a.s (min a.lv b.lv)).v, .int .i64 0]) (by simp [results, Tryz.results41, go_sem, v0, v1, v2, v3, v4]) rfl
    (SP.mk' (SV.lev a.s (min a.lv b.lv)) (((hok.out w1).set5 hvb _ _ _ _ _ _ _).al _) (by rw [hC.out]; rfl) hcan.out (Nat.zero_le _) (below_al (below_5 BB.out (by omega) _ _ _ _ _) _))
set_option maxRecDepth 100000 in
set_option maxHeartbeats 2000000 in
theorem rop_plus_trop_f (a b : SV) (w : World) (N : Nat) (ha : a.ok w) (hb : b.ok w) (hs : a.s = 3) (hss : a.s = b.s) (hN : a.n + b.n + 1 ≤ N) (hN2 : N ≤ 1099511627776) (hT : decide (cmpM (mean b.b b.xs) (mean a.b a.xs) < 0) = false) (Ma : Hid (a.may = 0)) (Mb : Hid (b.may = 0)) :
    Calls Tryz.prog 41 #[a.v, b.v, .bool false] w fun e w' => SP w w' e (plusC a.con b.con) 0 N := by
  have h3 := Lib.hid (three ha hb _ rfl)
  have FA := Lib.hid h3.out.1
  have FB := Lib.hid h3.out.2.1
  have FR := Lib.hid h3.out.2.2.1
  have BB := Lib.hid h3.out.2.2.2
  have t1 : (a.s == 1) = false := by rw [hs]; rfl
  have t3 : (a.s == 3) = true := by rw [hs]; rfl
  have tS : (a.s != b.s) = false := by rw [hss]; simp
  have tS2 : (a.s == b.s) = true := by rw [hss]; simp
  have hC := Lib.hid (show plusC a.con b.con = ⟨a.s, mean a.b a.xs, 0, 0⟩ by
    have e : plusC a.con b.con = ⟨a.s, minM (mean a.b a.xs) (mean b.b b.xs), 0, 0⟩ := by unfold plusC; rw [show a.con.s = a.s from rfl, hs]; rfl
    rw [e]; unfold minM; rw [if_neg (of_decide_eq_false hT)])
  have hN3 : N ≤ 35184372088832 := by omega
  have hna : a.n ≤ 1099511627776 := by omega
  have hnb : b.n ≤ 1099511627776 := by omega
  have hNa := Lib.hid (show max a.n b.n + 1 ≤ N by omega)
  have hNm := Lib.hid (show a.n + b.n ≤ N by omega)
  have hNx := Lib.hid (show a.n ≤ N by omega)
  have hNy := Lib.hid (show b.n ≤ N by omega)
  obtain ⟨K, hK0⟩ : ∃ K, K = cmpM (mean b.b b.xs) (mean a.b a.xs) := ⟨_, rfl⟩
  rw [← hK0] at hT
  have HK := Lib.hid hK0
  clear hK0
  clear ha hb hN hN2 hs hss h3
  unfold SV.v
  go_enter Tryz.func41, Tryz.ntmps41
  go_wp2_with (first
    | (go_at_call 22; (with_reducible refine (rmay_is a _ FA.out.ok Ma).mono ?_); rintro e w0 ⟨rfl, hbw0⟩; have BB := Lib.hid (below_go BB.out hbw0); have FA := Lib.hid (FA.out.go hbw0); have FB := Lib.hid (FB.out.go hbw0); have FR := Lib.hid (FR.out.go hbw0); obtain ⟨p0, p1, p2, p3, p4, p5, _⟩ := FA.out; obtain ⟨q0, q1, q2, q3, q4, q5, _⟩ := FB.out; obtain ⟨⟨r0, r1, r2, r3, r4, r5, _⟩, hvb, f0, f1, f2, f3, f4⟩ := FR.out)
    | (go_at_call 22; (with_reducible refine (rmay_is b _ FB.out.ok Mb).mono ?_); rintro e w1 ⟨rfl, hbw1⟩; have BB := Lib.hid (below_go BB.out hbw1); have FA := Lib.hid (FA.out.go hbw1); have FB := Lib.hid (FB.out.go hbw1); have FR := Lib.hid (FR.out.go hbw1); obtain ⟨p0, p1, p2, p3, p4, p5, _⟩ := FA.out; obtain ⟨q0, q1, q2, q3, q4, q5, _⟩ := FB.out; obtain ⟨⟨r0, r1, r2, r3, r4, r5, _⟩, hvb, f0, f1, f2, f3, f4⟩ := FR.out; have hlt : w.heap.size + 2 < w1.heap.size := r5; have hlt0 : w.heap.size < w1.heap.size := (by omega); have hlt1 : w.heap.size + 1 < w1.heap.size := (by omega); have FV := Lib.hid (var_new w1 (SV.nat a.s false none 0 0 []) (lev_ok _ _ _)); have XA := Lib.hid (FA.out.al (.cells #[.int .i64 a.s, .bool false, .slice none 0 0, .int .i64 0, .float .f64 0] 27)); have XB := Lib.hid (FB.out.al (.cells #[.int .i64 a.s, .bool false, .slice none 0 0, .int .i64 0, .float .f64 0] 27)); have XR := Lib.hid (FR.out.al (.cells #[.int .i64 a.s, .bool false, .slice none 0 0, .int .i64 0, .float .f64 0] 27)); have XX := Lib.hid (below_al BB.out (.cells #[.int .i64 a.s, .bool false, .slice none 0 0, .int .i64 0, .float .f64 0] 27)); have HX := Lib.hid XA.out.ok.1; have HY := Lib.hid XB.out.ok.1)
    | (go_at_call 68; (with_reducible refine (clean_nr a.b a.A a.n a.c N a.xs _ HX.out hna hNx.out).mono ?_); rintro e w2 ⟨rb, rA, rn, rc, rs, rfl, hv, hm, hk, hi, hn, hbw2⟩; have BB := Lib.hid (below_go XX.out hbw2); have FA := Lib.hid (XA.out.go hbw2); have FB := Lib.hid (XB.out.go hbw2); have FR := Lib.hid (XR.out.go hbw2); have FV := Lib.hid (FV.out.go hbw2); obtain ⟨p0, p1, p2, p3, p4, p5, _⟩ := FA.out; obtain ⟨q0, q1, q2, q3, q4, q5, _⟩ := FB.out; obtain ⟨⟨r0, r1, r2, r3, r4, r5, _⟩, hvb, f0, f1, f2, f3, f4⟩ := FR.out; obtain ⟨⟨o0, o1, o2, o3, o4, o5, _⟩, ovb, g0, g1, g2, g3, g4⟩ := FV.out; have XA := Lib.hid ((FA.out.far ovb (by omega) 1 (.bool rb)).far (ovb.set 1 rfl) (by omega) 2 (.slice rA rn rc)); have XB := Lib.hid ((FB.out.far ovb (by omega) 1 (.bool rb)).far (ovb.set 1 rfl) (by omega) 2 (.slice rA rn rc)); have XR := Lib.hid ((FR.out.away ovb (by omega) 1 (.bool rb)).away (ovb.set 1 rfl) (by omega) 2 (.slice rA rn rc)); have XX := Lib.hid ((BB.out.setCell (p := ⟨w1.heap.size, 1, none⟩) (Nat.le_of_lt hlt0) (.bool rb)).setCell (p := ⟨w1.heap.size, 2, none⟩) (Nat.le_of_lt hlt0) (.slice rA rn rc)); have FV := Lib.hid (FV.out.put rb hv); have HX := Lib.hid XA.out.ok.1; have HY := Lib.hid XB.out.ok.1)
    | (go_at_call 47; (with_reducible refine (Na.rcompare_any b.b a.b b.A a.A b.n a.n b.c a.c b.xs a.xs _ HY.out HX.out hnb hna).mono ?_); rw [← HK.out]; rintro e w3 ⟨rfl, hbw3⟩; have XX := Lib.hid (below_go XX.out hbw3); have XA := Lib.hid (XA.out.go hbw3); have XB := Lib.hid (XB.out.go hbw3); have XR := Lib.hid (XR.out.go hbw3); have FV := Lib.hid (FV.out.go hbw3); have FA := XA; have FB := XB; have FR := XR; obtain ⟨p0, p1, p2, p3, p4, p5, _⟩ := FA.out; obtain ⟨q0, q1, q2, q3, q4, q5, _⟩ := FB.out; obtain ⟨⟨r0, r1, r2, r3, r4, r5, _⟩, hvb, f0, f1, f2, f3, f4⟩ := FR.out; obtain ⟨⟨o0, o1, o2, o3, o4, o5, _⟩, ovb, g0, g1, g2, g3, g4⟩ := FV.out; have HX := Lib.hid XA.out.ok.1; have HY := Lib.hid XB.out.ok.1))
  exact bodyPost_ret (v := .tuple #[(SV.nat a.s rb rA rn rc rs).v, .int .i64 0]) (by simp [results, Tryz.results41, go_sem, r0, r1, r2, r3, r4]) rfl
    (SP.mk' (SV.nat a.s rb rA rn rc rs) (FV.out.1.ok.set5 XR.out.2.1 _ _ _ _ _ _ _) (by rw [nat_con, hm.out, hC.out]) ⟨hk.out, hi.out⟩ hn.out (below_5 XX.out (by omega) _ _ _ _ _))
set_option maxRecDepth 100000 in
set_option maxHeartbeats 2000000 in
theorem rop_plus_trop_t (a b : SV) (w : World) (N : Nat) (ha : a.ok w) (hb : b.ok w) (hs : a.s = 3) (hss : a.s = b.s) (hN : a.n + b.n + 1 ≤ N) (hN2 : N ≤ 1099511627776) (hT : decide (cmpM (mean b.b b.xs) (mean a.b a.xs) < 0) = true) (Ma : Hid (a.may = 0)) (Mb : Hid (b.may = 0)) :
    Calls Tryz.prog 41 #[a.v, b.v, .bool false] w fun e w' => SP w w' e (plusC a.con b.con) 0 N := by
  have h3 := Lib.hid (three ha hb _ rfl)
  have FA := Lib.hid h3.out.1
  have FB := Lib.hid h3.out.2.1
  have FR := Lib.hid h3.out.2.2.1
  have BB := Lib.hid h3.out.2.2.2
  have t1 : (a.s == 1) = false := by rw [hs]; rfl
  have t3 : (a.s == 3) = true := by rw [hs]; rfl
  have tS : (a.s != b.s) = false := by rw [hss]; simp
  have tS2 : (a.s == b.s) = true := by rw [hss]; simp
  have hC := Lib.hid (show plusC a.con b.con = ⟨a.s, mean b.b b.xs, 0, 0⟩ by
    have e : plusC a.con b.con = ⟨a.s, minM (mean a.b a.xs) (mean b.b b.xs), 0, 0⟩ := by unfold plusC; rw [show a.con.s = a.s from rfl, hs]; rfl
    rw [e]; unfold minM; rw [if_pos (of_decide_eq_true hT)])
  have hN3 : N ≤ 35184372088832 := by omega
  have hna : a.n ≤ 1099511627776 := by omega
  have hnb : b.n ≤ 1099511627776 := by omega
  have hNa := Lib.hid (show max a.n b.n + 1 ≤ N by omega)
  have hNm := Lib.hid (show a.n + b.n ≤ N by omega)
  have hNx := Lib.hid (show a.n ≤ N by omega)
  have hNy := Lib.hid (show b.n ≤ N by omega)
  obtain ⟨K, hK0⟩ : ∃ K, K = cmpM (mean b.b b.xs) (mean a.b a.xs) := ⟨_, rfl⟩
  rw [← hK0] at hT
  have HK := Lib.hid hK0
  clear hK0
  clear ha hb hN hN2 hs hss h3
  unfold SV.v
  go_enter Tryz.func41, Tryz.ntmps41
  go_wp2_with (first
    | (go_at_call 22; (with_reducible refine (rmay_is a _ FA.out.ok Ma).mono ?_); rintro e w0 ⟨rfl, hbw0⟩; have BB := Lib.hid (below_go BB.out hbw0); have FA := Lib.hid (FA.out.go hbw0); have FB := Lib.hid (FB.out.go hbw0); have FR := Lib.hid (FR.out.go hbw0); obtain ⟨p0, p1, p2, p3, p4, p5, _⟩ := FA.out; obtain ⟨q0, q1, q2, q3, q4, q5, _⟩ := FB.out; obtain ⟨⟨r0, r1, r2, r3, r4, r5, _⟩, hvb, f0, f1, f2, f3, f4⟩ := FR.out)
    | (go_at_call 22; (with_reducible refine (rmay_is b _ FB.out.ok Mb).mono ?_); rintro e w1 ⟨rfl, hbw1⟩; have BB := Lib.hid (below_go BB.out hbw1); have FA := Lib.hid (FA.out.go hbw1); have FB := Lib.hid (FB.out.go hbw1); have FR := Lib.hid (FR.out.go hbw1); obtain ⟨p0, p1, p2, p3, p4, p5, _⟩ := FA.out; obtain ⟨q0, q1, q2, q3, q4, q5, _⟩ := FB.out; obtain ⟨⟨r0, r1, r2, r3, r4, r5, _⟩, hvb, f0, f1, f2, f3, f4⟩ := FR.out; have hlt : w.heap.size + 2 < w1.heap.size := r5; have hlt0 : w.heap.size < w1.heap.size := (by omega); have hlt1 : w.heap.size + 1 < w1.heap.size := (by omega); have FV := Lib.hid (var_new w1 (SV.nat a.s false none 0 0 []) (lev_ok _ _ _)); have XA := Lib.hid (FA.out.al (.cells #[.int .i64 a.s, .bool false, .slice none 0 0, .int .i64 0, .float .f64 0] 27)); have XB := Lib.hid (FB.out.al (.cells #[.int .i64 a.s, .bool false, .slice none 0 0, .int .i64 0, .float .f64 0] 27)); have XR := Lib.hid (FR.out.al (.cells #[.int .i64 a.s, .bool false, .slice none 0 0, .int .i64 0, .float .f64 0] 27)); have XX := Lib.hid (below_al BB.out (.cells #[.int .i64 a.s, .bool false, .slice none 0 0, .int .i64 0, .float .f64 0] 27)); have HX := Lib.hid XA.out.ok.1; have HY := Lib.hid XB.out.ok.1)
    | (go_at_call 68; (with_reducible refine (clean_nr a.b a.A a.n a.c N a.xs _ HX.out hna hNx.out).mono ?_); rintro e w2 ⟨rb, rA, rn, rc, rs, rfl, hv, hm, hk, hi, hn, hbw2⟩; have BB := Lib.hid (below_go XX.out hbw2); have FA := Lib.hid (XA.out.go hbw2); have FB := Lib.hid (XB.out.go hbw2); have FR := Lib.hid (XR.out.go hbw2); have FV := Lib.hid (FV.out.go hbw2); obtain ⟨p0, p1, p2, p3, p4, p5, _⟩ := FA.out; obtain ⟨q0, q1, q2, q3, q4, q5, _⟩ := FB.out; obtain ⟨⟨r0, r1, r2, r3, r4, r5, _⟩, hvb, f0, f1, f2, f3, f4⟩ := FR.out; obtain ⟨⟨o0, o1, o2, o3, o4, o5, _⟩, ovb, g0, g1, g2, g3, g4⟩ := FV.out; have XA := Lib.hid ((FA.out.far ovb (by omega) 1 (.bool rb)).far (ovb.set 1 rfl) (by omega) 2 (.slice rA rn rc)); have XB := Lib.hid ((FB.out.far ovb (by omega) 1 (.bool rb)).far (ovb.set 1 rfl) (by omega) 2 (.slice rA rn rc)); have XR := Lib.hid ((FR.out.away ovb (by omega) 1 (.bool rb)).away (ovb.set 1 rfl) (by omega) 2 (.slice rA rn rc)); have XX := Lib.hid ((BB.out.setCell (p := ⟨w1.heap.size, 1, none⟩) (Nat.le_of_lt hlt0) (.bool rb)).setCell (p := ⟨w1.heap.size, 2, none⟩) (Nat.le_of_lt hlt0) (.slice rA rn rc)); have FV := Lib.hid (FV.out.put rb hv); have HX := Lib.hid XA.out.ok.1; have HY := Lib.hid XB.out.ok.1)
    | (go_at_call 47; (with_reducible refine (Na.rcompare_any b.b a.b b.A a.A b.n a.n b.c a.c b.xs a.xs _ HY.out HX.out hnb hna).mono ?_); rw [← HK.out]; rintro e w3 ⟨rfl, hbw3⟩; have XX := Lib.hid (below_go XX.out hbw3); have XA := Lib.hid (XA.out.go hbw3); have XB := Lib.hid (XB.out.go hbw3); have XR := Lib.hid (XR.out.go hbw3); have FV := Lib.hid (FV.out.go hbw3); have FA := XA; have FB := XB; have FR := XR; obtain ⟨p0, p1, p2, p3, p4, p5, _⟩ := FA.out; obtain ⟨q0, q1, q2, q3, q4, q5, _⟩ := FB.out; obtain ⟨⟨r0, r1, r2, r3, r4, r5, _⟩, hvb, f0, f1, f2, f3, f4⟩ := FR.out; obtain ⟨⟨o0, o1, o2, o3, o4, o5, _⟩, ovb, g0, g1, g2, g3, g4⟩ := FV.out; have HX := Lib.hid XA.out.ok.1; have HY := Lib.hid XB.out.ok.1)
    | (go_at_call 68; (with_reducible refine (clean_nr b.b b.A b.n b.c N b.xs _ HY.out hnb hNy.out).mono ?_); rintro e w4 ⟨rb, rA, rn, rc, rs, rfl, hv, hm, hk, hi, hn, hbw4⟩; have BB := Lib.hid (below_go XX.out hbw4); have FA := Lib.hid (XA.out.go hbw4); have FB := Lib.hid (XB.out.go hbw4); have FR := Lib.hid (XR.out.go hbw4); have FV := Lib.hid (FV.out.go hbw4); obtain ⟨p0, p1, p2, p3, p4, p5, _⟩ := FA.out; obtain ⟨q0, q1, q2, q3, q4, q5, _⟩ := FB.out; obtain ⟨⟨r0, r1, r2, r3, r4, r5, _⟩, hvb, f0, f1, f2, f3, f4⟩ := FR.out; obtain ⟨⟨o0, o1, o2, o3, o4, o5, _⟩, ovb, g0, g1, g2, g3, g4⟩ := FV.out; have XA := Lib.hid ((FA.out.far ovb (by omega) 1 (.bool rb)).far (ovb.set 1 rfl) (by omega) 2 (.slice rA rn rc)); have XB := Lib.hid ((FB.out.far ovb (by omega) 1 (.bool rb)).far (ovb.set 1 rfl) (by omega) 2 (.slice rA rn rc)); have XR := Lib.hid ((FR.out.away ovb (by omega) 1 (.bool rb)).away (ovb.set 1 rfl) (by omega) 2 (.slice rA rn rc)); have XX := Lib.hid ((BB.out.setCell (p := ⟨w1.heap.size, 1, none⟩) (Nat.le_of_lt hlt0) (.bool rb)).setCell (p := ⟨w1.heap.size, 2, none⟩) (Nat.le_of_lt hlt0) (.slice rA rn rc)); have FV := Lib.hid (FV.out.put rb hv); have HX := Lib.hid XA.out.ok.1; have HY := Lib.hid XB.out.ok.1))
  exact bodyPost_ret (v := .tuple #[(SV.nat a.s rb rA rn rc rs).v, .int .i64 0]) (by simp [results, Tryz.results41, go_sem, r0, r1, r2, r3, r4]) rfl
    (SP.mk' (SV.nat a.s rb rA rn rc rs) (FV.out.1.ok.set5 XR.out.2.1 _ _ _ _ _ _ _) (by rw [nat_con, hm.out, hC.out]) ⟨hk.out, hi.out⟩ hn.out (below_5 XX.out (by omega) _ _ _ _ _))
set_option maxRecDepth 100000 in
set_option maxHeartbeats 2000000 in
theorem rop_times_trop_f (a b : SV) (w : World) (N : Nat) (ha : a.ok w) (hb : b.ok w) (hs : a.s = 3) (hss : a.s = b.s) (hN : a.n + b.n + 1 ≤ N) (hN2 : N ≤ 1099511627776) (hT : decide (cmpM (mean b.b b.xs) (mean a.b a.xs) < 0) = false) (Ma : Hid (a.may = 0)) (Mb : Hid (b.may = 0)) :
    Calls Tryz.prog 41 #[a.v, b.v, .bool true] w fun e w' => SP w w' e (timesC a.con b.con) 0 N := by
  have h3 := Lib.hid (three ha hb _ rfl)
  have FA := Lib.hid h3.out.1
  have FB := Lib.hid h3.out.2.1
  have FR := Lib.hid h3.out.2.2.1
  have BB := Lib.hid h3.out.2.2.2
  have t1 : (a.s == 1) = false := by rw [hs]; rfl
  have t3 : (a.s == 3) = true := by rw [hs]; rfl
  have tS : (a.s != b.s) = false := by rw [hss]; simp
  have tS2 : (a.s == b.s) = true := by rw [hss]; simp
  have hC := Lib.hid (show timesC a.con b.con = ⟨a.s, addM (mean a.b a.xs) (mean b.b b.xs), 0, 0⟩ by unfold timesC; rw [show a.con.s = a.s from rfl, hs]; rfl)
  have hN3 : N ≤ 35184372088832 := by omega
  have hna : a.n ≤ 1099511627776 := by omega
  have hnb : b.n ≤ 1099511627776 := by omega
  have hNa := Lib.hid (show max a.n b.n + 1 ≤ N by omega)
  have hNm := Lib.hid (show a.n + b.n ≤ N by omega)
  have hNx := Lib.hid (show a.n ≤ N by omega)
  have hNy := Lib.hid (show b.n ≤ N by omega)
  obtain ⟨K, hK0⟩ : ∃ K, K = cmpM (mean b.b b.xs) (mean a.b a.xs) := ⟨_, rfl⟩
  rw [← hK0] at hT
  have HK := Lib.hid hK0
  clear hK0
  clear ha hb hN hN2 hs hss h3
  unfold SV.v
  go_enter Tryz.func41, Tryz.ntmps41
  go_wp2_with (first
    | (go_at_call 22; (with_reducible refine (rmay_is a _ FA.out.ok Ma).mono ?_); rintro e w0 ⟨rfl, hbw0⟩; have BB := Lib.hid (below_go BB.out hbw0); have FA := Lib.hid (FA.out.go hbw0); have FB := Lib.hid (FB.out.go hbw0); have FR := Lib.hid (FR.out.go hbw0); obtain ⟨p0, p1, p2, p3, p4, p5, _⟩ := FA.out; obtain ⟨q0, q1, q2, q3, q4, q5, _⟩ := FB.out; obtain ⟨⟨r0, r1, r2, r3, r4, r5, _⟩, hvb, f0, f1, f2, f3, f4⟩ := FR.out)
    | (go_at_call 22; (with_reducible refine (rmay_is b _ FB.out.ok Mb).mono ?_); rintro e w1 ⟨rfl, hbw1⟩; have BB := Lib.hid (below_go BB.out hbw1); have FA := Lib.hid (FA.out.go hbw1); have FB := Lib.hid (FB.out.go hbw1); have FR := Lib.hid (FR.out.go hbw1); obtain ⟨p0, p1, p2, p3, p4, p5, _⟩ := FA.out; obtain ⟨q0, q1, q2, q3, q4, q5, _⟩ := FB.out; obtain ⟨⟨r0, r1, r2, r3, r4, r5, _⟩, hvb, f0, f1, f2, f3, f4⟩ := FR.out; have hlt : w.heap.size + 2 < w1.heap.size := r5; have hlt0 : w.heap.size < w1.heap.size := (by omega); have hlt1 : w.heap.size + 1 < w1.heap.size := (by omega); have FV := Lib.hid (var_new w1 (SV.nat a.s false none 0 0 []) (lev_ok _ _ _)); have XA := Lib.hid (FA.out.al (.cells #[.int .i64 a.s, .bool false, .slice none 0 0, .int .i64 0, .float .f64 0] 27)); have XB := Lib.hid (FB.out.al (.cells #[.int .i64 a.s, .bool false, .slice none 0 0, .int .i64 0, .float .f64 0] 27)); have XR := Lib.hid (FR.out.al (.cells #[.int .i64 a.s, .bool false, .slice none 0 0, .int .i64 0, .float .f64 0] 27)); have XX := Lib.hid (below_al BB.out (.cells #[.int .i64 a.s, .bool false, .slice none 0 0, .int .i64 0, .float .f64 0] 27)); have HX := Lib.hid XA.out.ok.1; have HY := Lib.hid XB.out.ok.1)
    | (go_at_call 68; (with_reducible refine (clean_nr a.b a.A a.n a.c N a.xs _ HX.out hna hNx.out).mono ?_); rintro e w2 ⟨rb, rA, rn, rc, rs, rfl, hv, hm, hk, hi, hn, hbw2⟩; have BB := Lib.hid (below_go XX.out hbw2); have FA := Lib.hid (XA.out.go hbw2); have FB := Lib.hid (XB.out.go hbw2); have FR := Lib.hid (XR.out.go hbw2); have FV := Lib.hid (FV.out.go hbw2); obtain ⟨p0, p1, p2, p3, p4, p5, _⟩ := FA.out; obtain ⟨q0, q1, q2, q3, q4, q5, _⟩ := FB.out; obtain ⟨⟨r0, r1, r2, r3, r4, r5, _⟩, hvb, f0, f1, f2, f3, f4⟩ := FR.out; obtain ⟨⟨o0, o1, o2, o3, o4, o5, _⟩, ovb, g0, g1, g2, g3, g4⟩ := FV.out; have XA := Lib.hid ((FA.out.far ovb (by omega) 1 (.bool rb)).far (ovb.set 1 rfl) (by omega) 2 (.slice rA rn rc)); have XB := Lib.hid ((FB.out.far ovb (by omega) 1 (.bool rb)).far (ovb.set 1 rfl) (by omega) 2 (.slice rA rn rc)); have XR := Lib.hid ((FR.out.away ovb (by omega) 1 (.bool rb)).away (ovb.set 1 rfl) (by omega) 2 (.slice rA rn rc)); have XX := Lib.hid ((BB.out.setCell (p := ⟨w1.heap.size, 1, none⟩) (Nat.le_of_lt hlt0) (.bool rb)).setCell (p := ⟨w1.heap.size, 2, none⟩) (Nat.le_of_lt hlt0) (.slice rA rn rc)); have FV := Lib.hid (FV.out.put rb hv); have HX := Lib.hid XA.out.ok.1; have HY := Lib.hid XB.out.ok.1)
    | (go_at_call 47; (with_reducible refine (Na.rcompare_any b.b a.b b.A a.A b.n a.n b.c a.c b.xs a.xs _ HY.out HX.out hnb hna).mono ?_); rw [← HK.out]; rintro e w3 ⟨rfl, hbw3⟩; have XX := Lib.hid (below_go XX.out hbw3); have XA := Lib.hid (XA.out.go hbw3); have XB := Lib.hid (XB.out.go hbw3); have XR := Lib.hid (XR.out.go hbw3); have FV := Lib.hid (FV.out.go hbw3); have FA := XA; have FB := XB; have FR := XR; obtain ⟨p0, p1, p2, p3, p4, p5, _⟩ := FA.out; obtain ⟨q0, q1, q2, q3, q4, q5, _⟩ := FB.out; obtain ⟨⟨r0, r1, r2, r3, r4, r5, _⟩, hvb, f0, f1, f2, f3, f4⟩ := FR.out; obtain ⟨⟨o0, o1, o2, o3, o4, o5, _⟩, ovb, g0, g1, g2, g3, g4⟩ := FV.out; have HX := Lib.hid XA.out.ok.1; have HY := Lib.hid XB.out.ok.1)
    | (go_at_call 71; (with_reducible refine (radd_any a.b b.b a.A b.A a.n b.n a.c b.c N a.xs b.xs _ HX.out HY.out hna hnb hNa.out).mono ?_); rintro e w5 ⟨rb, rA, rn, rc, rs, rfl, hv, hm, hk, hi, hn, hbw5⟩; have BB := Lib.hid (below_go XX.out hbw5); have FA := Lib.hid (XA.out.go hbw5); have FB := Lib.hid (XB.out.go hbw5); have FR := Lib.hid (XR.out.go hbw5); have FV := Lib.hid (FV.out.go hbw5); obtain ⟨p0, p1, p2, p3, p4, p5, _⟩ := FA.out; obtain ⟨q0, q1, q2, q3, q4, q5, _⟩ := FB.out; obtain ⟨⟨r0, r1, r2, r3, r4, r5, _⟩, hvb, f0, f1, f2, f3, f4⟩ := FR.out; obtain ⟨⟨o0, o1, o2, o3, o4, o5, _⟩, ovb, g0, g1, g2, g3, g4⟩ := FV.out; have XA := Lib.hid ((FA.out.far ovb (by omega) 1 (.bool rb)).far (ovb.set 1 rfl) (by omega) 2 (.slice rA rn rc)); have XB := Lib.hid ((FB.out.far ovb (by omega) 1 (.bool rb)).far (ovb.set 1 rfl) (by omega) 2 (.slice rA rn rc)); have XR := Lib.hid ((FR.out.away ovb (by omega) 1 (.bool rb)).away (ovb.set 1 rfl) (by omega) 2 (.slice rA rn rc)); have XX := Lib.hid ((BB.out.setCell (p := ⟨w1.heap.size, 1, none⟩) (Nat.le_of_lt hlt0) (.bool rb)).setCell (p := ⟨w1.heap.size, 2, none⟩) (Nat.le_of_lt hlt0) (.slice rA rn rc)); have FV := Lib.hid (FV.out.put rb hv); have HX := Lib.hid XA.out.ok.1; have HY := Lib.hid XB.out.ok.1))
  exact bodyPost_ret (v := .tuple #[(SV.nat a.s rb rA rn rc rs).v, .int .i64 0]) (by simp [results, Tryz.results41, go_sem, r0, r1, r2, r3, r4]) rfl
    (SP.mk' (SV.nat a.s rb rA rn rc rs) (FV.out.1.ok.set5 XR.out.2.1 _ _ _ _ _ _ _) (by rw [nat_con, hm.out, hC.out]) ⟨hk.out, hi.out⟩ hn.out (below_5 XX.out (by omega) _ _ _ _ _))
set_option maxRecDepth 100000 in
set_option maxHeartbeats 2000000 in
theorem rop_times_trop_t (a b : SV) (w : World) (N : Nat) (ha : a.ok w) (hb : b.ok w) (hs : a.s = 3) (hss : a.s = b.s) (hN : a.n + b.n + 1 ≤ N) (hN2 : N ≤ 1099511627776) (hT : decide (cmpM (mean b.b b.xs) (mean a.b a.xs) < 0) = true) (Ma : Hid (a.may = 0)) (Mb : Hid (b.may = 0)) :
    Calls Tryz.prog 41 #[a.v, b.v, .bool true] w fun e w' => SP w w' e (timesC a.con b.con) 0 N := by
  have h3 := Lib.hid (three ha hb _ rfl)
  have FA := Lib.hid h3.out.1
  have FB := Lib.hid h3.out.2.1
  have FR := Lib.hid h3.out.2.2.1
  have BB := Lib.hid h3.out.2.2.2
  have t1 : (a.s == 1) = false := by rw [hs]; rfl
  have t3 : (a.s == 3) = true := by rw [hs]; rfl
  have tS : (a.s != b.s) = false := by rw [hss]; simp
  have tS2 : (a.s == b.s) = true := by rw [hss]; simp
  have hC := Lib.hid (show timesC a.con b.con = ⟨a.s, addM (mean a.b a.xs) (mean b.b b.xs), 0, 0⟩ by unfold timesC; rw [show a.con.s = a.s from rfl, hs]; rfl)
  have hN3 : N ≤ 35184372088832 := by omega
  have hna : a.n ≤ 1099511627776 := by omega
  have hnb : b.n ≤ 1099511627776 := by omega
  have hNa := Lib.hid (show max a.n b.n + 1 ≤ N by omega)
  have hNm := Lib.hid (show a.n + b.n ≤ N by omega)
  have hNx := Lib.hid (show a.n ≤ N by omega)
  have hNy := Lib.hid (show b.n ≤ N by omega)
  obtain ⟨K, hK0⟩ : ∃ K, K = cmpM (mean b.b b.xs) (mean a.b a.xs) := ⟨_, rfl⟩
  rw [← hK0] at hT
  have HK := Lib.hid hK0
  clear hK0
  clear ha hb hN hN2 hs hss h3
  unfold SV.v
  go_enter Tryz.func41, Tryz.ntmps41
  go_wp2_with (first
    | (go_at_call 22; (with_reducible refine (rmay_is a _ FA.out.ok Ma).mono ?_); rintro e w0 ⟨rfl, hbw0⟩; have BB := Lib.hid (below_go BB.out hbw0); have FA := Lib.hid (FA.out.go hbw0); have FB := Lib.hid (FB.out.go hbw0); have FR := Lib.hid (FR.out.go hbw0); obtain ⟨p0, p1, p2, p3, p4, p5, _⟩ := FA.out; obtain ⟨q0, q1, q2, q3, q4, q5, _⟩ := FB.out; obtain ⟨⟨r0, r1, r2, r3, r4, r5, _⟩, hvb, f0, f1, f2, f3, f4⟩ := FR.out)
    | (go_at_call 22; (with_reducible refine (rmay_is b _ FB.out.ok Mb).mono ?_); rintro e w1 ⟨rfl, hbw1⟩; have BB := Lib.hid (below_go BB.out hbw1); have FA := Lib.hid (FA.out.go hbw1); have FB := Lib.hid (FB.out.go hbw1); have FR := Lib.hid (FR.out.go hbw1); obtain ⟨p0, p1, p2, p3, p4, p5, _⟩ := FA.out; obtain ⟨q0, q1, q2, q3, q4, q5, _⟩ := FB.out; obtain ⟨⟨r0, r1, r2, r3, r4, r5, _⟩, hvb, f0, f1, f2, f3, f4⟩ := FR.out; have hlt : w.heap.size + 2 < w1.heap.size := r5; have hlt0 : w.heap.size < w1.heap.size := (by omega); have hlt1 : w.heap.size + 1 < w1.heap.size := (by omega); have FV := Lib.hid (var_new w1 (SV.nat a.s false none 0 0 []) (lev_ok _ _ _)); have XA := Lib.hid (FA.out.al (.cells #[.int .i64 a.s, .bool false, .slice none 0 0, .int .i64 0, .float .f64 0] 27)); have XB := Lib.hid (FB.out.al (.cells #[.int .i64 a.s, .bool false, .slice none 0 0, .int .i64 0, .float .f64 0] 27)); have XR := Lib.hid (FR.out.al (.cells #[.int .i64 a.s, .bool false, .slice none 0 0, .int .i64 0, .float .f64 0] 27)); have XX := Lib.hid (below_al BB.out (.cells #[.int .i64 a.s, .bool false, .slice none 0 0, .int .i64 0, .float .f64 0] 27)); have HX := Lib.hid XA.out.ok.1; have HY := Lib.hid XB.out.ok.1)
    | (go_at_call 68; (with_reducible refine (clean_nr a.b a.A a.n a.c N a.xs _ HX.out hna hNx.out).mono ?_); rintro e w2 ⟨rb, rA, rn, rc, rs, rfl, hv, hm, hk, hi, hn, hbw2⟩; have BB := Lib.hid (below_go XX.out hbw2); have FA := Lib.hid (XA.out.go hbw2); have FB := Lib.hid (XB.out.go hbw2); have FR := Lib.hid (XR.out.go hbw2); have FV := Lib.hid (FV.out.go hbw2); obtain ⟨p0, p1, p2, p3, p4, p5, _⟩ := FA.out; obtain ⟨q0, q1, q2, q3, q4, q5, _⟩ := FB.out; obtain ⟨⟨r0, r1, r2, r3, r4, r5, _⟩, hvb, f0, f1, f2, f3, f4⟩ := FR.out; obtain ⟨⟨o0, o1, o2, o3, o4, o5, _⟩, ovb, g0, g1, g2, g3, g4⟩ := FV.out; have XA := Lib.hid ((FA.out.far ovb (by omega) 1 (.bool rb)).far (ovb.set 1 rfl) (by omega) 2 (.slice rA rn rc)); have XB := Lib.hid ((FB.out.far ovb (by omega) 1 (.bool rb)).far (ovb.set 1 rfl) (by omega) 2 (.slice rA rn rc)); have XR := Lib.hid ((FR.out.away ovb (by omega) 1 (.bool rb)).away (ovb.set 1 rfl) (by omega) 2 (.slice rA rn rc)); have XX := Lib.hid ((BB.out.setCell (p := ⟨w1.heap.size, 1, none⟩) (Nat.le_of_lt hlt0) (.bool rb)).setCell (p := ⟨w1.heap.size, 2, none⟩) (Nat.le_of_lt hlt0) (.slice rA rn rc)); have FV := Lib.hid (FV.out.put rb hv); have HX := Lib.hid XA.out.ok.1; have HY := Lib.hid XB.out.ok.1)
    | (go_at_call 47; (with_reducible refine (Na.rcompare_any b.b a.b b.A a.A b.n a.n b.c a.c b.xs a.xs _ HY.out HX.out hnb hna).mono ?_); rw [← HK.out]; rintro e w3 ⟨rfl, hbw3⟩; have XX := Lib.hid (below_go XX.out hbw3); have XA := Lib.hid (XA.out.go hbw3); have XB := Lib.hid (XB.out.go hbw3); have XR := Lib.hid (XR.out.go hbw3); have FV := Lib.hid (FV.out.go hbw3); have FA := XA; have FB := XB; have FR := XR; obtain ⟨p0, p1, p2, p3, p4, p5, _⟩ := FA.out; obtain ⟨q0, q1, q2, q3, q4, q5, _⟩ := FB.out; obtain ⟨⟨r0, r1, r2, r3, r4, r5, _⟩, hvb, f0, f1, f2, f3, f4⟩ := FR.out; obtain ⟨⟨o0, o1, o2, o3, o4, o5, _⟩, ovb, g0, g1, g2, g3, g4⟩ := FV.out; have HX := Lib.hid XA.out.ok.1; have HY := Lib.hid XB.out.ok.1)
    | (go_at_call 68; (with_reducible refine (clean_nr b.b b.A b.n b.c N b.xs _ HY.out hnb hNy.out).mono ?_); rintro e w4 ⟨rb, rA, rn, rc, rs, rfl, hv, hm, hk, hi, hn, hbw4⟩; have BB := Lib.hid (below_go XX.out hbw4); have FA := Lib.hid (XA.out.go hbw4); have FB := Lib.hid (XB.out.go hbw4); have FR := Lib.hid (XR.out.go hbw4); have FV := Lib.hid (FV.out.go hbw4); obtain ⟨p0, p1, p2, p3, p4, p5, _⟩ := FA.out; obtain ⟨q0, q1, q2, q3, q4, q5, _⟩ := FB.out; obtain ⟨⟨r0, r1, r2, r3, r4, r5, _⟩, hvb, f0, f1, f2, f3, f4⟩ := FR.out; obtain ⟨⟨o0, o1, o2, o3, o4, o5, _⟩, ovb, g0, g1, g2, g3, g4⟩ := FV.out; have XA := Lib.hid ((FA.out.far ovb (by omega) 1 (.bool rb)).far (ovb.set 1 rfl) (by omega) 2 (.slice rA rn rc)); have XB := Lib.hid ((FB.out.far ovb (by omega) 1 (.bool rb)).far (ovb.set 1 rfl) (by omega) 2 (.slice rA rn rc)); have XR := Lib.hid ((FR.out.away ovb (by omega) 1 (.bool rb)).away (ovb.set 1 rfl) (by omega) 2 (.slice rA rn rc)); have XX := Lib.hid ((BB.out.setCell (p := ⟨w1.heap.size, 1, none⟩) (Nat.le_of_lt hlt0) (.bool rb)).setCell (p := ⟨w1.heap.size, 2, none⟩) (Nat.le_of_lt hlt0) (.slice rA rn rc)); have FV := Lib.hid (FV.out.put rb hv); have HX := Lib.hid XA.out.ok.1; have HY := Lib.hid XB.out.ok.1)
    | (go_at_call 71; (with_reducible refine (radd_any a.b b.b a.A b.A a.n b.n a.c b.c N a.xs b.xs _ HX.out HY.out hna hnb hNa.out).mono ?_); rintro e w5 ⟨rb, rA, rn, rc, rs, rfl, hv, hm, hk, hi, hn, hbw5⟩; have BB := Lib.hid (below_go XX.out hbw5); have FA := Lib.hid (XA.out.go hbw5); have FB := Lib.hid (XB.out.go hbw5); have FR := Lib.hid (XR.out.go hbw5); have FV := Lib.hid (FV.out.go hbw5); obtain ⟨p0, p1, p2, p3, p4, p5, _⟩ := FA.out; obtain ⟨q0, q1, q2, q3, q4, q5, _⟩ := FB.out; obtain ⟨⟨r0, r1, r2, r3, r4, r5, _⟩, hvb, f0, f1, f2, f3, f4⟩ := FR.out; obtain ⟨⟨o0, o1, o2, o3, o4, o5, _⟩, ovb, g0, g1, g2, g3, g4⟩ := FV.out; have XA := Lib.hid ((FA.out.far ovb (by omega) 1 (.bool rb)).far (ovb.set 1 rfl) (by omega) 2 (.slice rA rn rc)); have XB := Lib.hid ((FB.out.far ovb (by omega) 1 (.bool rb)).far (ovb.set 1 rfl) (by omega) 2 (.slice rA rn rc)); have XR := Lib.hid ((FR.out.away ovb (by omega) 1 (.bool rb)).away (ovb.set 1 rfl) (by omega) 2 (.slice rA rn rc)); have XX := Lib.hid ((BB.out.setCell (p := ⟨w1.heap.size, 1, none⟩) (Nat.le_of_lt hlt0) (.bool rb)).setCell (p := ⟨w1.heap.size, 2, none⟩) (Nat.le_of_lt hlt0) (.slice rA rn rc)); have FV := Lib.hid (FV.out.put rb hv); have HX := Lib.hid XA.out.ok.1; have HY := Lib.hid XB.out.ok.1))
  exact bodyPost_ret (v := .tuple #[(SV.nat a.s rb rA rn rc rs).v, .int .i64 0]) (by simp [results, Tryz.results41, go_sem, r0, r1, r2, r3, r4]) rfl
    (SP.mk' (SV.nat a.s rb rA rn rc rs) (FV.out.1.ok.set5 XR.out.2.1 _ _ _ _ _ _ _) (by rw [nat_con, hm.out, hC.out]) ⟨hk.out, hi.out⟩ hn.out (below_5 XX.out (by omega) _ _ _ _ _))
set_option maxRecDepth 100000 in
set_option maxHeartbeats 2000000 in
theorem rop_plus_chain (a b : SV) (w : World) (N : Nat) (ha : a.ok w) (hb : b.ok w) (hs : a.s = 4) (hss : a.s = b.s) (hN : a.n + b.n + 1 ≤ N) (hN2 : N ≤ 1099511627776) (Ma : Hid (a.may = 0)) (Mb : Hid (b.may = 0)) :
    Calls Tryz.prog 41 #[a.v, b.v, .bool false] w fun e w' => SP w w' e (plusC a.con b.con) 0 N := by
  have h3 := Lib.hid (three ha hb _ rfl)
  have FA := Lib.hid h3.out.1
  have FB := Lib.hid h3.out.2.1
  have FR := Lib.hid h3.out.2.2.1
  have BB := Lib.hid h3.out.2.2.2
  have t1 : (a.s == 1) = false := by rw [hs]; rfl
  have t3 : (a.s == 3) = false := by rw [hs]; rfl
  have t2 : (a.s == 2) = false := by rw [hs]; rfl
  have t4 : (a.s == 4) = true := by rw [hs]; rfl
  have tS : (a.s != b.s) = false := by rw [hss]; simp
  have tS2 : (a.s == b.s) = true := by rw [hss]; simp
  have hC := Lib.hid (show plusC a.con b.con = ⟨a.s, some 0, max a.lv b.lv, 0⟩ by unfold plusC; rw [show a.con.s = a.s from rfl, hs]; rfl)
  have hN3 : N ≤ 35184372088832 := by omega
  have hmx := fun ts T w => run_imax ts T a.lv b.lv w
  have hok := Lib.hid (fun w => lev_ok a.s (max a.lv b.lv) w)
  have hcan := Lib.hid (lev_canon a.s (max a.lv b.lv))
  clear ha hb hs hss hN hN2 hN3 h3
  unfold SV.v
  go_enter Tryz.func41, Tryz.ntmps41
  go_wp2_with (first
    | (go_at_call 22; (with_reducible refine (rmay_is a _ FA.out.ok Ma).mono ?_); rintro e w0 ⟨rfl, hbw0⟩; have BB := Lib.hid (below_go BB.out hbw0); have FA := Lib.hid (FA.out.go hbw0); have FB := Lib.hid (FB.out.go hbw0); have FR := Lib.hid (FR.out.go hbw0); obtain ⟨p0, p1, p2, p3, p4, p5, _⟩ := FA.out; obtain ⟨q0, q1, q2, q3, q4, q5, _⟩ := FB.out; obtain ⟨⟨r0, r1, r2, r3, r4, r5, _⟩, hvb, f0, f1, f2, f3, f4⟩ := FR.out)
    | (go_at_call 22; (with_reducible refine (rmay_is b _ FB.out.ok Mb).mono ?_); rintro e w1 ⟨rfl, hbw1⟩; have BB := Lib.hid (below_go BB.out hbw1); have FA := Lib.hid (FA.out.go hbw1); have FB := Lib.hid (FB.out.go hbw1); have FR := Lib.hid (FR.out.go hbw1); obtain ⟨p0, p1, p2, p3, p4, p5, _⟩ := FA.out; obtain ⟨q0, q1, q2, q3, q4, q5, _⟩ := FB.out; obtain ⟨⟨r0, r1, r2, r3, r4, r5, _⟩, hvb, f0, f1, f2, f3, f4⟩ := FR.out; have hlt : w.heap.size + 2 < w1.heap.size := r5; have hlt0 : w.heap.size < w1.heap.size := (by omega); have hlt1 : w.heap.size + 1 < w1.heap.size := (by omega)))
  obtain ⟨v0, v1, v2, v3, v4⟩ := cells5 (show Var w1 (w.heap.size + 1 + 1) (SV.lev 0 0) from FR.out) (.cells #[.int .i64 a.s, .bool false, .slice none 0 0, .int .i64 (max a.lv b.lv), .float .f64 0] 27) (.int .i64 a.s) (.bool false) (.slice none 0 0) (.int .i64 (max a.lv b.lv)) (.float .f64 0)
  exact bodyPost_ret (v := .tuple #[(SV.lev a.s (max a.lv b.lv)).v, .int .i64 0]) (by simp [results, Tryz.results41, go_sem, v0, v1, v2, v3, v4]) rfl
    (SP.mk' (SV.lev a.s (max a.lv b.lv)) (((hok.out w1).set5 hvb _ _ _ _ _ _ _).al _) (by rw [hC.out]; rfl) hcan.out (Nat.zero_le _) (below_al (below_5 BB.out (by omega) _ _ _ _ _) _))
set_option maxRecDepth 100000 in
set_option maxHeartbeats 2000000 in
theorem rop_times_chain (a b : SV) (w : World) (N : Nat) (ha : a.ok w) (hb : b.ok w) (hs : a.s = 4) (hss : a.s = b.s) (hN : a.n + b.n + 1 ≤ N) (hN2 : N ≤ 1099511627776) (Ma : Hid (a.may = 0)) (Mb : Hid (b.may = 0)) :
    Calls Tryz.prog 41 #[a.v, b.v, .bool true] w fun e w' => SP w w' e (timesC a.con b.con) 0 N := by
  have h3 := Lib.hid (three ha hb _ rfl)
  have FA := Lib.hid h3.out.1
  have FB := Lib.hid h3.out.2.1
  have FR := Lib.hid h3.out.2.2.1
  have BB := Lib.hid h3.out.2.2.2
  have t1 : (a.s == 1) = false := by rw [hs]; rfl
  have t3 : (a.s == 3) = false := by rw [hs]; rfl
  have t2 : (a.s == 2) = false := by rw [hs]; rfl
  have t4 : (a.s == 4) = true := by rw [hs]; rfl
  have tS : (a.s != b.s) = false := by rw [hss]; simp
  have tS2 : (a.s == b.s) = true := by rw [hss]; simp
  have hC := Lib.hid (show timesC a.con b.con = ⟨a.s, some 0, min a.lv b.lv, 0⟩ by unfold timesC; rw [show a.con.s = a.s from rfl, hs]; rfl)
  have hN3 : N ≤ 35184372088832 := by omega
  have hmx := fun ts T w => run_imax ts T a.lv b.lv w
  have hmn := fun ts T w => run_imin ts T a.lv b.lv w
  have hok := Lib.hid (fun w => lev_ok a.s (min a.lv b.lv) w)
  have hcan := Lib.hid (lev_canon a.s (min a.lv b.lv))
  clear ha hb hs hss hN hN2 hN3 h3
  unfold SV.v
  go_enter Tryz.func41, Tryz.ntmps41
  go_wp2_with (first
    | (go_at_call 22; (with_reducible refine (rmay_is a _ FA.out.ok Ma).mono ?_); rintro e w0 ⟨rfl, hbw0⟩; have BB := Lib.hid (below_go BB.out hbw0); have FA := Lib.hid (FA.out.go hbw0); have FB := Lib.hid (FB.out.go hbw0); have FR := Lib.hid (FR.out.go hbw0); obtain ⟨p0, p1, p2, p3, p4, p5, _⟩ := FA.out; obtain ⟨q0, q1, q2, q3, q4, q5, _⟩ := FB.out; obtain ⟨⟨r0, r1, r2, r3, r4, r5, _⟩, hvb, f0, f1, f2, f3, f4⟩ := FR.out)
    | (go_at_call 22; (with_reducible refine (rmay_is b _ FB.out.ok Mb).mono ?_); rintro e w1 ⟨rfl, hbw1⟩; have BB := Lib.hid (below_go BB.out hbw1); have FA := Lib.hid (FA.out.go hbw1); have FB := Lib.hid (FB.out.go hbw1); have FR := Lib.hid (FR.out.go hbw1); obtain ⟨p0, p1, p2, p3, p4, p5, _⟩ := FA.out; obtain ⟨q0, q1, q2, q3, q4, q5, _⟩ := FB.out; obtain ⟨⟨r0, r1, r2, r3, r4, r5, _⟩, hvb, f0, f1, f2, f3, f4⟩ := FR.out; have hlt : w.heap.size + 2 < w1.heap.size := r5; have hlt0 : w.heap.size < w1.heap.size := (by omega); have hlt1 : w.heap.size + 1 < w1.heap.size := (by omega)))
  obtain ⟨v0, v1, v2, v3, v4⟩ := cells5 (show Var w1 (w.heap.size + 1 + 1) (SV.lev 0 0) from FR.out) (.cells #[.int .i64 a.s, .bool false, .slice none 0 0, .int .i64 (min a.lv b.lv), .float .f64 0] 27) (.int .i64 a.s) (.bool false) (.slice none 0 0) (.int .i64 (min a.lv b.lv)) (.float .f64 0)
  exact bodyPost_ret (v := .tuple #[(SV.lev a.s (min a.lv b.lv)).v, .int .i64 0]) (by simp [results, Tryz.results41, go_sem, v0, v1, v2, v3, v4]) rfl
    (SP.mk' (SV.lev a.s (min a.lv b.lv)) (((hok.out w1).set5 hvb _ _ _ _ _ _ _).al _) (by rw [hC.out]; rfl) hcan.out (Nat.zero_le _) (below_al (below_5 BB.out (by omega) _ _ _ _ _) _))
set_option maxRecDepth 100000 in
set_option maxHeartbeats 2000000 in
theorem rop_plus_best (a b : SV) (w : World) (N : Nat) (ha : a.ok w) (hb : b.ok w) (hs : a.s = 5) (hss : a.s = b.s) (hN : a.n + b.n + 1 ≤ N) (hN2 : N ≤ 1099511627776) (hxa : a.x ≤ ONE) (hxb : b.x ≤ ONE) (Ma : Hid (a.may = 0)) (Mb : Hid (b.may = 0)) :
    Calls Tryz.prog 41 #[a.v, b.v, .bool false] w fun e w' => SP w w' e (plusC a.con b.con) 0 N := by
  have h3 := Lib.hid (three ha hb _ rfl)
  have FA := Lib.hid h3.out.1
  have FB := Lib.hid h3.out.2.1
  have FR := Lib.hid h3.out.2.2.1
  have BB := Lib.hid h3.out.2.2.2
  have t1 : (a.s == 1) = false := by rw [hs]; rfl
  have t3 : (a.s == 3) = false := by rw [hs]; rfl
  have t2 : (a.s == 2) = false := by rw [hs]; rfl
  have t4 : (a.s == 4) = false := by rw [hs]; rfl
  have t5 : (a.s == 5) = true := by rw [hs]; rfl
  have tS : (a.s != b.s) = false := by rw [hss]; simp
  have tS2 : (a.s == b.s) = true := by rw [hss]; simp
  have hC := Lib.hid (show plusC a.con b.con = ⟨a.s, some 0, 0, max a.x b.x⟩ by unfold plusC; rw [show a.con.s = a.s from rfl, hs]; rfl)
  have hN3 : N ≤ 35184372088832 := by omega
  have hmx := fun ts T w => run_max ts T (Nat.le_trans hxa (by decide)) (Nat.le_trans hxb (by decide)) w
  have hlt64 : max a.x b.x < W64 := Nat.lt_of_le_of_lt (Nat.max_le.2 ⟨hxa, hxb⟩) (show ONE < W64 by decide)
  have hok := Lib.hid (fun w => dbl_ok a.s (max a.x b.x) w hlt64)
  have hcan := Lib.hid (dbl_canon a.s (max a.x b.x))
  clear hlt64
  clear ha hb hs hss hN hN2 hN3 h3 hxa hxb
  unfold SV.v
  go_enter Tryz.func41, Tryz.ntmps41
  go_wp2_with (first
    | (go_at_call 22; (with_reducible refine (rmay_is a _ FA.out.ok Ma).mono ?_); rintro e w0 ⟨rfl, hbw0⟩; have BB := Lib.hid (below_go BB.out hbw0); have FA := Lib.hid (FA.out.go hbw0); have FB := Lib.hid (FB.out.go hbw0); have FR := Lib.hid (FR.out.go hbw0); obtain ⟨p0, p1, p2, p3, p4, p5, _⟩ := FA.out; obtain ⟨q0, q1, q2, q3, q4, q5, _⟩ := FB.out; obtain ⟨⟨r0, r1, r2, r3, r4, r5, _⟩, hvb, f0, f1, f2, f3, f4⟩ := FR.out)
    | (go_at_call 22; (with_reducible refine (rmay_is b _ FB.out.ok Mb).mono ?_); rintro e w1 ⟨rfl, hbw1⟩; have BB := Lib.hid (below_go BB.out hbw1); have FA := Lib.hid (FA.out.go hbw1); have FB := Lib.hid (FB.out.go hbw1); have FR := Lib.hid (FR.out.go hbw1); obtain ⟨p0, p1, p2, p3, p4, p5, _⟩ := FA.out; obtain ⟨q0, q1, q2, q3, q4, q5, _⟩ := FB.out; obtain ⟨⟨r0, r1, r2, r3, r4, r5, _⟩, hvb, f0, f1, f2, f3, f4⟩ := FR.out; have hlt : w.heap.size + 2 < w1.heap.size := r5; have hlt0 : w.heap.size < w1.heap.size := (by omega); have hlt1 : w.heap.size + 1 < w1.heap.size := (by omega)))
  obtain ⟨v0, v1, v2, v3, v4⟩ := cells5 (show Var w1 (w.heap.size + 1 + 1) (SV.lev 0 0) from FR.out) (.cells #[.int .i64 a.s, .bool false, .slice none 0 0, .int .i64 0, .float .f64 (max a.x b.x)] 27) (.int .i64 a.s) (.bool false) (.slice none 0 0) (.int .i64 0) (.float .f64 (max a.x b.x))
  exact bodyPost_ret (v := .tuple #[(SV.dbl a.s (max a.x b.x)).v, .int .i64 0]) (by simp [results, Tryz.results41, go_sem, v0, v1, v2, v3, v4]) rfl
    (SP.mk' (SV.dbl a.s (max a.x b.x)) (((hok.out w1).set5 hvb _ _ _ _ _ _ _).al _) (by rw [hC.out]; rfl) hcan.out (Nat.zero_le _) (below_al (below_5 BB.out (by omega) _ _ _ _ _) _))
set_option maxRecDepth 100000 in
set_option maxHeartbeats 2000000 in
theorem rop_times_best (a b : SV) (w : World) (N : Nat) (ha : a.ok w) (hb : b.ok w) (hs : a.s = 5) (hss : a.s = b.s) (hN : a.n + b.n + 1 ≤ N) (hN2 : N ≤ 1099511627776) (hxa : a.x ≤ ONE) (hxb : b.x ≤ ONE) (Ma : Hid (a.may = 0)) (Mb : Hid (b.may = 0)) :
    Calls Tryz.prog 41 #[a.v, b.v, .bool true] w fun e w' => SP w w' e (timesC a.con b.con) 0 N := by
  have h3 := Lib.hid (three ha hb _ rfl)
  have FA := Lib.hid h3.out.1
  have FB := Lib.hid h3.out.2.1
  have FR := Lib.hid h3.out.2.2.1
  have BB := Lib.hid h3.out.2.2.2
  have t1 : (a.s == 1) = false := by rw [hs]; rfl
  have t3 : (a.s == 3) = false := by rw [hs]; rfl
  have t2 : (a.s == 2) = false := by rw [hs]; rfl
  have t4 : (a.s == 4) = false := by rw [hs]; rfl
  have t5 : (a.s == 5) = true := by rw [hs]; rfl
  have tS : (a.s != b.s) = false := by rw [hss]; simp
  have tS2 : (a.s == b.s) = true := by rw [hss]; simp
  have hC := Lib.hid (show timesC a.con b.con = ⟨a.s, some 0, 0, mulR a.x b.x⟩ by unfold timesC; rw [show a.con.s = a.s from rfl, hs]; rfl)
  have hN3 : N ≤ 35184372088832 := by omega
  have hmx := fun ts T w => run_max ts T (Nat.le_trans hxa (by decide)) (Nat.le_trans hxb (by decide)) w
  have em : ∀ w : World, (binOp .mul 25 (.float .f64 a.x) (.float .f64 b.x)).run Tryz.prog w = .ok (.float .f64 (mulR a.x b.x)) w := fun w => run_float_arith w .mul 25 .f64 _ _ _ (mul_fin (Nat.lt_of_le_of_lt hxa (by decide)) (Nat.lt_of_le_of_lt hxb (by decide)))
  have hlt64 : mulR a.x b.x < W64 := Nat.lt_of_le_of_lt (mulR_le (Nat.lt_of_le_of_lt hxa (by decide)) hxb) (Nat.lt_of_le_of_lt hxa (by decide))
  have hok := Lib.hid (fun w => dbl_ok a.s (mulR a.x b.x) w hlt64)
  have hcan := Lib.hid (dbl_canon a.s (mulR a.x b.x))
  clear hlt64
  clear ha hb hs hss hN hN2 hN3 h3 hxa hxb
  unfold SV.v
  go_enter Tryz.func41, Tryz.ntmps41
  go_wp2_with (first
    | (go_at_call 22; (with_reducible refine (rmay_is a _ FA.out.ok Ma).mono ?_); rintro e w0 ⟨rfl, hbw0⟩; have BB := Lib.hid (below_go BB.out hbw0); have FA := Lib.hid (FA.out.go hbw0); have FB := Lib.hid (FB.out.go hbw0); have FR := Lib.hid (FR.out.go hbw0); obtain ⟨p0, p1, p2, p3, p4, p5, _⟩ := FA.out; obtain ⟨q0, q1, q2, q3, q4, q5, _⟩ := FB.out; obtain ⟨⟨r0, r1, r2, r3, r4, r5, _⟩, hvb, f0, f1, f2, f3, f4⟩ := FR.out)
    | (go_at_call 22; (with_reducible refine (rmay_is b _ FB.out.ok Mb).mono ?_); rintro e w1 ⟨rfl, hbw1⟩; have BB := Lib.hid (below_go BB.out hbw1); have FA := Lib.hid (FA.out.go hbw1); have FB := Lib.hid (FB.out.go hbw1); have FR := Lib.hid (FR.out.go hbw1); obtain ⟨p0, p1, p2, p3, p4, p5, _⟩ := FA.out; obtain ⟨q0, q1, q2, q3, q4, q5, _⟩ := FB.out; obtain ⟨⟨r0, r1, r2, r3, r4, r5, _⟩, hvb, f0, f1, f2, f3, f4⟩ := FR.out; have hlt : w.heap.size + 2 < w1.heap.size := r5; have hlt0 : w.heap.size < w1.heap.size := (by omega); have hlt1 : w.heap.size + 1 < w1.heap.size := (by omega)))
  obtain ⟨v0, v1, v2, v3, v4⟩ := cells5 (show Var w1 (w.heap.size + 1 + 1) (SV.lev 0 0) from FR.out) (.cells #[.int .i64 a.s, .bool false, .slice none 0 0, .int .i64 0, .float .f64 (mulR a.x b.x)] 27) (.int .i64 a.s) (.bool false) (.slice none 0 0) (.int .i64 0) (.float .f64 (mulR a.x b.x))
  exact bodyPost_ret (v := .tuple #[(SV.dbl a.s (mulR a.x b.x)).v, .int .i64 0]) (by simp [results, Tryz.results41, go_sem, v0, v1, v2, v3, v4]) rfl
    (SP.mk' (SV.dbl a.s (mulR a.x b.x)) (((hok.out w1).set5 hvb _ _ _ _ _ _ _).al _) (by rw [hC.out]; rfl) hcan.out (Nat.zero_le _) (below_al (below_5 BB.out (by omega) _ _ _ _ _) _))
set_option maxRecDepth 100000 in
set_option maxHeartbeats 2000000 in
theorem rop_plus_cost (a b : SV) (w : World) (N : Nat) (ha : a.ok w) (hb : b.ok w) (hs : a.s = 6) (hss : a.s = b.s) (hN : a.n + b.n + 1 ≤ N) (hN2 : N ≤ 1099511627776) (hxa : a.x ≤ INF) (hxb : b.x ≤ INF) (Ma : Hid (a.may = 0)) (Mb : Hid (b.may = 0)) :
    Calls Tryz.prog 41 #[a.v, b.v, .bool false] w fun e w' => SP w w' e (plusC a.con b.con) 0 N := by
  have h3 := Lib.hid (three ha hb _ rfl)
  have FA := Lib.hid h3.out.1
  have FB := Lib.hid h3.out.2.1
  have FR := Lib.hid h3.out.2.2.1
  have BB := Lib.hid h3.out.2.2.2
  have t1 : (a.s == 1) = false := by rw [hs]; rfl
  have t3 : (a.s == 3) = false := by rw [hs]; rfl
  have t2 : (a.s == 2) = false := by rw [hs]; rfl
  have t4 : (a.s == 4) = false := by rw [hs]; rfl
  have t5 : (a.s == 5) = false := by rw [hs]; rfl
  have t6 : (a.s == 6) = true := by rw [hs]; rfl
  have tS : (a.s != b.s) = false := by rw [hss]; simp
  have tS2 : (a.s == b.s) = true := by rw [hss]; simp
  have hC := Lib.hid (show plusC a.con b.con = ⟨a.s, some 0, 0, min a.x b.x⟩ by unfold plusC; rw [show a.con.s = a.s from rfl, hs]; rfl)
  have hN3 : N ≤ 35184372088832 := by omega
  have hmx := fun ts T w => run_min ts T hxa hxb w
  have hlt64 : min a.x b.x < W64 := Nat.lt_of_le_of_lt (Nat.le_trans (Nat.min_le_left _ _) hxa) (show INF < W64 by decide)
  have hok := Lib.hid (fun w => dbl_ok a.s (min a.x b.x) w hlt64)
  have hcan := Lib.hid (dbl_canon a.s (min a.x b.x))
  clear hlt64
  clear ha hb hs hss hN hN2 hN3 h3 hxa hxb
  unfold SV.v
  go_enter Tryz.func41, Tryz.ntmps41
  go_wp2_with (first
    | (go_at_call 22; (with_reducible refine (rmay_is a _ FA.out.ok Ma).mono ?_); rintro e w0 ⟨rfl, hbw0⟩; have BB := Lib.hid (below_go BB.out hbw0); have FA := Lib.hid (FA.out.go hbw0); have FB := Lib.hid (FB.out.go hbw0); have FR := Lib.hid (FR.out.go hbw0); obtain ⟨p0, p1, p2, p3, p4, p5, _⟩ := FA.out; obtain ⟨q0, q1, q2, q3, q4, q5, _⟩ := FB.out; obtain ⟨⟨r0, r1, r2, r3, r4, r5, _⟩, hvb, f0, f1, f2, f3, f4⟩ := FR.out)
    | (go_at_call 22; (with_reducible refine (rmay_is b _ FB.out.ok Mb).mono ?_); rintro e w1 ⟨rfl, hbw1⟩; have BB := Lib.hid (below_go BB.out hbw1); have FA := Lib.hid (FA.out.go hbw1); have FB := Lib.hid (FB.out.go hbw1); have FR := Lib.hid (FR.out.go hbw1); obtain ⟨p0, p1, p2, p3, p4, p5, _⟩ := FA.out; obtain ⟨q0, q1, q2, q3, q4, q5, _⟩ := FB.out; obtain ⟨⟨r0, r1, r2, r3, r4, r5, _⟩, hvb, f0, f1, f2, f3, f4⟩ := FR.out; have hlt : w.heap.size + 2 < w1.heap.size := r5; have hlt0 : w.heap.size < w1.heap.size := (by omega); have hlt1 : w.heap.size + 1 < w1.heap.size := (by omega)))
  obtain ⟨v0, v1, v2, v3, v4⟩ := cells5 (show Var w1 (w.heap.size + 1 + 1) (SV.lev 0 0) from FR.out) (.cells #[.int .i64 a.s, .bool false, .slice none 0 0, .int .i64 0, .float .f64 (min a.x b.x)] 27) (.int .i64 a.s) (.bool false) (.slice none 0 0) (.int .i64 0) (.float .f64 (min a.x b.x))
  exact bodyPost_ret (v := .tuple #[(SV.dbl a.s (min a.x b.x)).v, .int .i64 0]) (by simp [results, Tryz.results41, go_sem, v0, v1, v2, v3, v4]) rfl
    (SP.mk' (SV.dbl a.s (min a.x b.x)) (((hok.out w1).set5 hvb _ _ _ _ _ _ _).al _) (by rw [hC.out]; rfl) hcan.out (Nat.zero_le _) (below_al (below_5 BB.out (by omega) _ _ _ _ _) _))
set_option maxRecDepth 100000 in
set_option maxHeartbeats 2000000 in
theorem rop_times_cost (a b : SV) (w : World) (N : Nat) (ha : a.ok w) (hb : b.ok w) (hs : a.s = 6) (hss : a.s = b.s) (hN : a.n + b.n + 1 ≤ N) (hN2 : N ≤ 1099511627776) (hxa : a.x ≤ INF) (hxb : b.x ≤ INF) (Ma : Hid (a.may = 0)) (Mb : Hid (b.may = 0)) :
    Calls Tryz.prog 41 #[a.v, b.v, .bool true] w fun e w' => SP w w' e (timesC a.con b.con) 0 N := by
  have h3 := Lib.hid (three ha hb _ rfl)
  have FA := Lib.hid h3.out.1
  have FB := Lib.hid h3.out.2.1
  have FR := Lib.hid h3.out.2.2.1
  have BB := Lib.hid h3.out.2.2.2
  have t1 : (a.s == 1) = false := by rw [hs]; rfl
  have t3 : (a.s == 3) = false := by rw [hs]; rfl
  have t2 : (a.s == 2) = false := by rw [hs]; rfl
  have t4 : (a.s == 4) = false := by rw [hs]; rfl
  have t5 : (a.s == 5) = false := by rw [hs]; rfl
  have t6 : (a.s == 6) = true := by rw [hs]; rfl
  have tS : (a.s != b.s) = false := by rw [hss]; simp
  have tS2 : (a.s == b.s) = true := by rw [hss]; simp
  have hC := Lib.hid (show timesC a.con b.con = ⟨a.s, some 0, 0, addR a.x b.x⟩ by unfold timesC; rw [show a.con.s = a.s from rfl, hs]; rfl)
  have hN3 : N ≤ 35184372088832 := by omega
  have hmx := fun ts T w => run_min ts T hxa hxb w
  have em : ∀ w : World, (binOp .add 25 (.float .f64 a.x) (.float .f64 b.x)).run Tryz.prog w = .ok (.float .f64 (addR a.x b.x)) w := fun w => run_float_arith w .add 25 .f64 _ _ _ (add_fin hxa hxb)
  have hlt64 : addR a.x b.x < W64 := Nat.lt_of_le_of_lt (addR_le a.x b.x) (by decide)
  have hok := Lib.hid (fun w => dbl_ok a.s (addR a.x b.x) w hlt64)
  have hcan := Lib.hid (dbl_canon a.s (addR a.x b.x))
  clear hlt64
  clear ha hb hs hss hN hN2 hN3 h3 hxa hxb
  unfold SV.v
  go_enter Tryz.func41, Tryz.ntmps41
  go_wp2_with (first
    | (go_at_call 22; (with_reducible refine (rmay_is a _ FA.out.ok Ma).mono ?_); rintro e w0 ⟨rfl, hbw0⟩; have BB := Lib.hid (below_go BB.out hbw0); have FA := Lib.hid (FA.out.go hbw0); have FB := Lib.hid (FB.out.go hbw0); have FR := Lib.hid (FR.out.go hbw0); obtain ⟨p0, p1, p2, p3, p4, p5, _⟩ := FA.out; obtain ⟨q0, q1, q2, q3, q4, q5, _⟩ := FB.out; obtain ⟨⟨r0, r1, r2, r3, r4, r5, _⟩, hvb, f0, f1, f2, f3, f4⟩ := FR.out)
    | (go_at_call 22; (with_reducible refine (rmay_is b _ FB.out.ok Mb).mono ?_); rintro e w1 ⟨rfl, hbw1⟩; have BB := Lib.hid (below_go BB.out hbw1); have FA := Lib.hid (FA.out.go hbw1); have FB := Lib.hid (FB.out.go hbw1); have FR := Lib.hid (FR.out.go hbw1); obtain ⟨p0, p1, p2, p3, p4, p5, _⟩ := FA.out; obtain ⟨q0, q1, q2, q3, q4, q5, _⟩ := FB.out; obtain ⟨⟨r0, r1, r2, r3, r4, r5, _⟩, hvb, f0, f1, f2, f3, f4⟩ := FR.out; have hlt : w.heap.size + 2 < w1.heap.size := r5; have hlt0 : w.heap.size < w1.heap.size := (by omega); have hlt1 : w.heap.size + 1 < w1.heap.size := (by omega)))
  obtain ⟨v0, v1, v2, v3, v4⟩ := cells5 (show Var w1 (w.heap.size + 1 + 1) (SV.lev 0 0) from FR.out) (.cells #[.int .i64 a.s, .bool false, .slice none 0 0, .int .i64 0, .float .f64 (addR a.x b.x)] 27) (.int .i64 a.s) (.bool false) (.slice none 0 0) (.int .i64 0) (.float .f64 (addR a.x b.x))
  exact bodyPost_ret (v := .tuple #[(SV.dbl a.s (addR a.x b.x)).v, .int .i64 0]) (by simp [results, Tryz.results41, go_sem, v0, v1, v2, v3, v4]) rfl
    (SP.mk' (SV.dbl a.s (addR a.x b.x)) (((hok.out w1).set5 hvb _ _ _ _ _ _ _).al _) (by rw [hC.out]; rfl) hcan.out (Nat.zero_le _) (below_al (below_5 BB.out (by omega) _ _ _ _ _) _))
theorem rop_plus (a b : SV) (w : World) (N : Nat) (ha : a.ok w) (hb : b.ok w) (hN : a.n + b.n + 1 ≤ N) (hN2 : N ≤ 1099511627776) :
    Calls Tryz.prog 41 #[a.v, b.v, .bool false] w fun e w' => SP w w' e (if bothE a b = 0 then plusC a.con b.con else noneC) (bothE a b) N := by
  by_cases h : bothE a b = 0
  · rw [if_pos h, h]
    obtain ⟨m1, m2, m3⟩ := bothE_zero.1 h
    have M1 := Lib.hid m1
    have M2 := Lib.hid m2
    rcases known_cases (may_named m1) with s | s | s | s | s | s
    · exact rop_plus_count a b w N ha hb s m3 hN hN2 M1 M2
    · exact rop_plus_bool a b w N ha hb s m3 hN hN2 M1 M2
    · cases hT : decide (cmpM (mean b.b b.xs) (mean a.b a.xs) < 0)
      · exact rop_plus_trop_f a b w N ha hb s m3 hN hN2 hT M1 M2
      · exact rop_plus_trop_t a b w N ha hb s m3 hN hN2 hT M1 M2
    · exact rop_plus_chain a b w N ha hb s m3 hN hN2 M1 M2
    · have h1 := dbl_of_may m1 (by rw [s]; rfl) (by rw [s]; rfl)
      have h2 := dbl_of_may m2 (by rw [← m3, s]; rfl) (by rw [← m3, s]; rfl)
      rw [s] at h1
      rw [← m3, s] at h2
      exact rop_plus_best a b w N ha hb s m3 hN hN2 h1 h2 M1 M2
    · have h1 := dbl_of_may m1 (by rw [s]; rfl) (by rw [s]; rfl)
      have h2 := dbl_of_may m2 (by rw [← m3, s]; rfl) (by rw [← m3, s]; rfl)
      rw [s] at h1
      rw [← m3, s] at h2
      exact rop_plus_cost a b w N ha hb s m3 hN hN2 h1 h2 M1 M2
  · rw [if_neg h]
    by_cases e1 : a.may = 0
    · by_cases e2 : b.may = 0
      · have e3 : ¬ a.s = b.s := fun e => h (bothE_zero.2 ⟨e1, e2, e⟩)
        have e4 : bothE a b = 9 := by unfold bothE; rw [e1, e2]; simp [e3]
        rw [e4]
        exact rop_no3 a b w N false ha hb (Lib.hid e1) (Lib.hid e2) (by simpa using e3) (by simpa using e3)
      · have e4 : bothE a b = b.may := by unfold bothE; rw [e1]; simp [e2]
        rw [e4]
        exact rop_no2 a b w N false ha hb _ (by simpa using e2) (Lib.hid e1) (Lib.hid rfl)
    · have e4 : bothE a b = a.may := by unfold bothE; simp [e1]
      rw [e4]
      exact rop_no1 a b w N false ha hb _ (by simpa using e1) (Lib.hid rfl)
theorem rop_times (a b : SV) (w : World) (N : Nat) (ha : a.ok w) (hb : b.ok w) (hN : a.n + b.n + 1 ≤ N) (hN2 : N ≤ 1099511627776) :
    Calls Tryz.prog 41 #[a.v, b.v, .bool true] w fun e w' => SP w w' e (if bothE a b = 0 then timesC a.con b.con else noneC) (bothE a b) N := by
  by_cases h : bothE a b = 0
  · rw [if_pos h, h]
    obtain ⟨m1, m2, m3⟩ := bothE_zero.1 h
    have M1 := Lib.hid m1
    have M2 := Lib.hid m2
    rcases known_cases (may_named m1) with s | s | s | s | s | s
    · exact rop_times_count a b w N ha hb s m3 hN hN2 M1 M2
    · exact rop_times_bool a b w N ha hb s m3 hN hN2 M1 M2
    · cases hT : decide (cmpM (mean b.b b.xs) (mean a.b a.xs) < 0)
      · exact rop_times_trop_f a b w N ha hb s m3 hN hN2 hT M1 M2
      · exact rop_times_trop_t a b w N ha hb s m3 hN hN2 hT M1 M2
    · exact rop_times_chain a b w N ha hb s m3 hN hN2 M1 M2
    · have h1 := dbl_of_may m1 (by rw [s]; rfl) (by rw [s]; rfl)
      have h2 := dbl_of_may m2 (by rw [← m3, s]; rfl) (by rw [← m3, s]; rfl)
      rw [s] at h1
      rw [← m3, s] at h2
      exact rop_times_best a b w N ha hb s m3 hN hN2 h1 h2 M1 M2
    · have h1 := dbl_of_may m1 (by rw [s]; rfl) (by rw [s]; rfl)
      have h2 := dbl_of_may m2 (by rw [← m3, s]; rfl) (by rw [← m3, s]; rfl)
      rw [s] at h1
      rw [← m3, s] at h2
      exact rop_times_cost a b w N ha hb s m3 hN hN2 h1 h2 M1 M2
  · rw [if_neg h]
    by_cases e1 : a.may = 0
    · by_cases e2 : b.may = 0
      · have e3 : ¬ a.s = b.s := fun e => h (bothE_zero.2 ⟨e1, e2, e⟩)
        have e4 : bothE a b = 9 := by unfold bothE; rw [e1, e2]; simp [e3]
        rw [e4]
        exact rop_no3 a b w N true ha hb (Lib.hid e1) (Lib.hid e2) (by simpa using e3) (by simpa using e3)
      · have e4 : bothE a b = b.may := by unfold bothE; rw [e1]; simp [e2]
        rw [e4]
        exact rop_no2 a b w N true ha hb _ (by simpa using e2) (Lib.hid e1) (Lib.hid rfl)
    · have e4 : bothE a b = a.may := by unfold bothE; simp [e1]
      rw [e4]
      exact rop_no1 a b w N true ha hb _ (by simpa using e1) (Lib.hid rfl)
end Go.Proofs.YtdkmmnehlmaebaaGreatDoor.Se
