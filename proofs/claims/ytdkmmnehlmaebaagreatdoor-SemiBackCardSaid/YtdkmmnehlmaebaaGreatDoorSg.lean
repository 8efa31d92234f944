
/- The walk of 'Plus'. Conditions: the values can be read. -/
import Derived.Test.YtdkmmnehlmaebaaGreatDoorSf
namespace Go.Proofs.YtdkmmnehlmaebaaGreatDoor.Se
open Go.RowKit Go.NT Go.FT Go.Lib Na

def minM (a b : Option Int) : Option Int := if cmpM b a < 0 then b else a
def plusC (c d : Con) : Con :=
  if c.s == 1 then ⟨c.s, addM c.m d.m, 0, 0⟩
  else if c.s == 3 then ⟨c.s, minM c.m d.m, 0, 0⟩
  else if c.s == 5 then ⟨c.s, some 0, 0, max c.x d.x⟩
  else if c.s == 6 then ⟨c.s, some 0, 0, min c.x d.x⟩
  else ⟨c.s, some 0, max c.lv d.lv, 0⟩
def timesC (c d : Con) : Con :=
  if c.s == 1 then ⟨c.s, mulM c.m d.m, 0, 0⟩
  else if c.s == 3 then ⟨c.s, addM c.m d.m, 0, 0⟩
  else if c.s == 5 then ⟨c.s, some 0, 0, mulR c.x d.x⟩
  else if c.s == 6 then ⟨c.s, some 0, 0, addR c.x d.x⟩
  else ⟨c.s, some 0, min c.lv d.lv, 0⟩
theorem Var.al {w : World} {g : Nat} {a : SV} (h : Var w g a) (o : Obj) : Var (w.alloc o) g a := h.go (below_al (Below.refl _ _) o)
/-- Another variable's cell does not matter. -/
theorem Var.far {w : World} {g g' : Nat} (h : Var w g (SV.lev 0 0)) (hg : g < g') (k : Nat) (u : Value) : Var (w.setCell ⟨g', k, none⟩ u) g (SV.lev 0 0) :=
  h.to ((Below.refl g' w).setCell (p := ⟨g', k, none⟩) (Nat.le_refl _) u) hg (lev_ok _ _ _)
/-- Two values in variables, and a result's. -/
theorem three {w : World} {a b : SV} (ha : a.ok w) (hb : b.ok w) : ∀ W, W = ((w.alloc (.cells #[.int .i64 a.s, .bool a.b, .slice a.A a.n a.c, .int .i64 a.lv, .float .f64 a.x] 27)).alloc (.cells #[.int .i64 b.s, .bool b.b, .slice b.A b.n b.c, .int .i64 b.lv, .float .f64 b.x] 27)).alloc (.cells #[.int .i64 0, .bool false, .slice none 0 0, .int .i64 0, .float .f64 0] 27) →
    Five W w.heap.size a ∧ Five W (w.heap.size + 1) b ∧ Var W (w.heap.size + 2) (SV.lev 0 0) ∧ Below w.heap.size w W := by
  intro W hW
  subst hW
  have hA := five_new w a ha
  have hB := five_new _ b (hb.al (.cells #[.int .i64 a.s, .bool a.b, .slice a.A a.n a.c, .int .i64 a.lv, .float .f64 a.x] 27))
  have hV := var_new ((w.alloc (.cells #[.int .i64 a.s, .bool a.b, .slice a.A a.n a.c, .int .i64 a.lv, .float .f64 a.x] 27)).alloc (.cells #[.int .i64 b.s, .bool b.b, .slice b.A b.n b.c, .int .i64 b.lv, .float .f64 b.x] 27)) (SV.lev 0 0) (lev_ok _ _ _)
  have e1 : (w.alloc (.cells #[.int .i64 a.s, .bool a.b, .slice a.A a.n a.c, .int .i64 a.lv, .float .f64 a.x] 27)).heap.size = w.heap.size + 1 := by simp
  have e2 : ((w.alloc (.cells #[.int .i64 a.s, .bool a.b, .slice a.A a.n a.c, .int .i64 a.lv, .float .f64 a.x] 27)).alloc (.cells #[.int .i64 b.s, .bool b.b, .slice b.A b.n b.c, .int .i64 b.lv, .float .f64 b.x] 27)).heap.size = w.heap.size + 2 := by simp
  rw [e1] at hB
  rw [e2] at hV
  exact ⟨(hA.al _).al _, hB.al _, hV, below_al3 w _ _ _⟩
theorem dbl_of_may {a : SV} (h : a.may = 0) (hn : natB a.s = false) (hl : levB a.s = false) : a.x ≤ dblM a.s := by
  have hk := may_named h
  unfold SV.may at h
  rw [hk, hn, hl] at h
  unfold dblE at h
  cases hd : decide (a.x ≤ dblM a.s)
  · rw [hd] at h; simp at h
  · exact of_decide_eq_true hd
set_option maxRecDepth 100000 in
set_option maxHeartbeats 1000000 in
theorem plus_no (a b : SV) (w : World) (N : Nat) (ha : a.ok w) (hb : b.ok w) (k : Int) (hk : (k != 0) = true) (HM : Hid (bothE a b = k)) :
    Calls Tryz.prog 12 #[a.v, b.v] w fun e w' => SP w w' e noneC k N := by
  have h3 := Lib.hid (three ha hb _ rfl)
  clear ha hb
  unfold SV.v
  go_enter Tryz.func12, Tryz.ntmps12
  go_wp2_with (go_at_call 37; (with_reducible refine (both_any a b _ h3.out.1.ok h3.out.2.1.ok).mono ?_); rw [HM.out]; rintro e w1 ⟨rfl, hb1⟩; have HB := Lib.hid (below_go h3.out.2.2.2 hb1); obtain ⟨⟨r0, r1, r2, r3, r4, r5, _⟩, hvb, f0, f1, f2, f3, f4⟩ := h3.out.2.2.1.go hb1)
  exact bodyPost_ret (v := .tuple #[(SV.lev 0 0).v, .int .i64 k]) (by simp [results, Tryz.results12, go_sem, SV.lev, r0, r1, r2, r3, r4]) rfl
    (SP.mk' (SV.lev 0 0) (lev_ok _ _ _) rfl (lev_canon _ _) (Nat.zero_le _) (below_5 HB.out (by omega) _ _ _ _ _))
/-- The cheaper of two clean numbers. -/
theorem pick_nat {a b : SV} {N : Nat} (hka : a.canon) (hkb : b.canon) (T : Bool) (hT : T = decide (cmpM (mean b.b b.xs) (mean a.b a.xs) < 0)) (hN : max a.n b.n ≤ N) (w2 : World) (hx : NV w2 a.A a.n a.c a.xs) (hy : NV w2 b.A b.n b.c b.xs) :
    ∃ (rb : Bool) (rA : Option Addr) (rn rc : Nat) (rs : List Int), rb = (if T = true then b.b else a.b) ∧ rA = (if T = true then b.A else a.A) ∧ rn = (if T = true then b.n else a.n) ∧ rc = (if T = true then b.c else a.c) ∧ NV w2 rA rn rc rs ∧ Hid (mean rb rs = minM (mean a.b a.xs) (mean b.b b.xs)) ∧ Hid (Norm rs) ∧ Hid (rb = true → rs = []) ∧ Hid (rn ≤ N) := by
  cases T
  · refine ⟨a.b, a.A, a.n, a.c, a.xs, rfl, rfl, rfl, rfl, hx, Lib.hid ?_, Lib.hid hka.1, Lib.hid hka.2, Lib.hid (by omega)⟩
    unfold minM
    rw [if_neg (of_decide_eq_false hT.symm)]
  · refine ⟨b.b, b.A, b.n, b.c, b.xs, rfl, rfl, rfl, rfl, hy, Lib.hid ?_, Lib.hid hkb.1, Lib.hid hkb.2, Lib.hid (by omega)⟩
    unfold minM
    rw [if_pos (of_decide_eq_true hT.symm)]
set_option maxRecDepth 100000 in
set_option maxHeartbeats 2000000 in
theorem plus_count (a b : SV) (w : World) (N : Nat) (ha : a.ok w) (hb : b.ok w) (hs : a.s = 1) (hN : max a.n b.n + 1 ≤ N) (hN2 : N ≤ 1099511627776) (HM : Hid (bothE a b = 0)) :
    Calls Tryz.prog 12 #[a.v, b.v] w fun e w' => SP w w' e (plusC a.con b.con) 0 N := by
  have h3 := Lib.hid (three ha hb _ rfl)
  have t1 : (a.s == 1) = true := by rw [hs]; rfl
  have hC := Lib.hid (show plusC a.con b.con = ⟨a.s, addM (mean a.b a.xs) (mean b.b b.xs), 0, 0⟩ by unfold plusC; rw [show a.con.s = a.s from rfl, t1]; rfl)
  have hN3 : N ≤ 35184372088832 := by omega
  have hP := Lib.hid (fun (b : Bool) (A : Option Addr) (n c : Nat) (xs : List Int) => show purC (SV.nat a.s b A n c xs).con = ⟨a.s, mean b xs, 0, 0⟩ by unfold purC; rw [show (SV.nat a.s b A n c xs).con.s = 1 from hs]; rw [hs]; rfl)
  have hNn := Lib.hid hN
  have hna : a.n ≤ 1099511627776 := by omega
  have hnb : b.n ≤ 1099511627776 := by omega
  clear ha hb hN hN2 hs
  unfold SV.v
  go_enter Tryz.func12, Tryz.ntmps12
  go_wp2_with (first
    | (go_at_call 37; (with_reducible refine (both_any a b _ h3.out.1.ok h3.out.2.1.ok).mono ?_); rw [HM.out]; rintro e w1 ⟨rfl, hb1⟩; have HB := Lib.hid (below_go h3.out.2.2.2 hb1); have HA1 := Lib.hid (h3.out.1.go hb1); have HB1 := Lib.hid (h3.out.2.1.go hb1); have HV1 := Lib.hid (h3.out.2.2.1.go hb1); obtain ⟨p0, p1, p2, p3, p4, p5, _⟩ := HA1.out; obtain ⟨q0, q1, q2, q3, q4, q5, _⟩ := HB1.out; have HX := Lib.hid (HA1.out.ok.1.below (below_al (Below.refl _ _) (.cells #[.int .i64 a.s, .bool false, .slice none 0 0, .int .i64 0, .float .f64 0] 27))); have HY := Lib.hid (HB1.out.ok.1.below (below_al (Below.refl _ _) (.cells #[.int .i64 a.s, .bool false, .slice none 0 0, .int .i64 0, .float .f64 0] 27))))
    | (go_at_call 38; (with_reducible refine (add_any a.b b.b a.A b.A a.n b.n a.c b.c N a.xs b.xs _ HX.out HY.out hna hnb hNn.out).mono ?_); rintro e w2 ⟨rb, rA, rn, rc, rs, rfl, hv, hm, hk, hi, hn, hb2⟩; have HO := Lib.hid ((var_new w1 (SV.lev a.s 0) (lev_ok _ _ _)).go hb2); have HV2 := Lib.hid ((HV1.out.al _).go hb2); have HB2 := Lib.hid (below_go (below_al HB.out _) hb2); obtain ⟨⟨o0, o1, o2, o3, o4, o5, _⟩, ovb, g0, g1, g2, g3, g4⟩ := HO.out; have HR := Lib.hid (((nat_ok (b := rb) a.s hv).set ovb 1 (.bool rb)).set (ovb.set 1 rfl) 2 (.slice rA rn rc)); have HK := Lib.hid (show natB (SV.nat a.s rb rA rn rc rs).s = true → (SV.nat a.s rb rA rn rc rs).canon from fun _ => ⟨hk.out, hi.out⟩); have HL := Lib.hid (show natB (SV.nat a.s rb rA rn rc rs).s = true → (SV.nat a.s rb rA rn rc rs).n ≤ N from fun _ => hn.out); obtain ⟨⟨r0, r1, r2, r3, r4, r5, _⟩, hvb, f0, f1, f2, f3, f4⟩ := HV2.out; have hlt : w.heap.size + 2 < w1.heap.size := HV1.out.1.2.2.2.2.2.1; have HV3 := Lib.hid ((HV2.out.far hlt 1 (.bool rb)).far hlt 2 (.slice rA rn rc)); have HB3 := Lib.hid ((HB2.out.setCell (p := ⟨w1.heap.size, 1, none⟩) (Nat.le_of_lt (by omega)) (.bool rb)).setCell (p := ⟨w1.heap.size, 2, none⟩) (Nat.le_of_lt (by omega)) (.slice rA rn rc)))
    | (go_at_call 40; (with_reducible refine (own_any (SV.nat a.s rb rA rn rc rs) _ N HR.out HK.out HL.out hN3).mono ?_); rintro e w3 ⟨r, rfl, ho, hC3, hc3, hn3, hb3⟩; obtain ⟨⟨r0, r1, r2, r3, r4, r5, _⟩, hvb, f0, f1, f2, f3, f4⟩ := HV3.out.go hb3))
  exact bodyPost_ret (v := .tuple #[r.v, .int .i64 0]) (by simp [results, Tryz.results12, go_sem, r0, r1, r2, r3, r4]) rfl
    (SP.mk' r (ho.set5 hvb _ _ _ _ _ _ _) (by rw [hC3.out, hP.out, hm.out, hC.out]) hc3.out hn3.out (below_5 (below_go HB3.out hb3) (by omega) _ _ _ _ _))
set_option maxRecDepth 100000 in
set_option maxHeartbeats 2000000 in
theorem plus_trop (a b : SV) (w : World) (N : Nat) (ha : a.ok w) (hb : b.ok w) (hs : a.s = 3) (hN : max a.n b.n ≤ N) (hN2 : N ≤ 1099511627776) (hka : a.canon) (hkb : b.canon) (HM : Hid (bothE a b = 0)) :
    Calls Tryz.prog 12 #[a.v, b.v] w fun e w' => SP w w' e (plusC a.con b.con) 0 N := by
  have h3 := Lib.hid (three ha hb _ rfl)
  have t1 : (a.s == 1) = false := by rw [hs]; rfl
  have t3 : (a.s == 3) = true := by rw [hs]; rfl
  have hC := Lib.hid (show plusC a.con b.con = ⟨a.s, minM (mean a.b a.xs) (mean b.b b.xs), 0, 0⟩ by unfold plusC; rw [show a.con.s = a.s from rfl, t1, t3]; rfl)
  have hN3 : N ≤ 35184372088832 := by omega
  have hP := Lib.hid (fun (b : Bool) (A : Option Addr) (n c : Nat) (xs : List Int) => show purC (SV.nat a.s b A n c xs).con = ⟨a.s, mean b xs, 0, 0⟩ by unfold purC; rw [show (SV.nat a.s b A n c xs).con.s = 3 from hs]; rw [hs]; rfl)
  have hNn := Lib.hid hN
  have hna : a.n ≤ 1099511627776 := by omega
  have hnb : b.n ≤ 1099511627776 := by omega
  obtain ⟨T, hT0⟩ : ∃ T : Bool, T = decide (cmpM (mean b.b b.xs) (mean a.b a.xs) < 0) := ⟨_, rfl⟩
  have HT := Lib.hid hT0.symm
  have HPick := pick_nat hka hkb T hT0 hN
  clear hT0 hka hkb
  clear ha hb hN hN2 hs
  unfold SV.v
  go_enter Tryz.func12, Tryz.ntmps12
  go_wp2_with (first
    | (go_at_call 37; (with_reducible refine (both_any a b _ h3.out.1.ok h3.out.2.1.ok).mono ?_); rw [HM.out]; rintro e w1 ⟨rfl, hb1⟩; have HB := Lib.hid (below_go h3.out.2.2.2 hb1); have HA1 := Lib.hid (h3.out.1.go hb1); have HB1 := Lib.hid (h3.out.2.1.go hb1); have HV1 := Lib.hid (h3.out.2.2.1.go hb1); obtain ⟨p0, p1, p2, p3, p4, p5, _⟩ := HA1.out; obtain ⟨q0, q1, q2, q3, q4, q5, _⟩ := HB1.out; have HX := Lib.hid (HA1.out.ok.1.below (below_al (Below.refl _ _) (.cells #[.int .i64 a.s, .bool false, .slice none 0 0, .int .i64 0, .float .f64 0] 27))); have HY := Lib.hid (HB1.out.ok.1.below (below_al (Below.refl _ _) (.cells #[.int .i64 a.s, .bool false, .slice none 0 0, .int .i64 0, .float .f64 0] 27))))
    | (go_at_call 39; (with_reducible refine (cheaper_any a.b b.b a.A b.A a.n b.n a.c b.c a.xs b.xs _ HX.out HY.out T HT).mono ?_); rintro e w2 ⟨rfl, hb2⟩; have HPK := HPick w2 (HX.out.below hb2) (HY.out.below hb2); obtain ⟨rb, rA, rn, rc, rs, hrb, hrA, hrn, hrc, hv, hm, hk, hi, hn⟩ := HPK; rw [← hrb, ← hrA, ← hrn, ← hrc]; clear hrb hrA hrn hrc; have HO := Lib.hid ((var_new w1 (SV.lev a.s 0) (lev_ok _ _ _)).go hb2); have HV2 := Lib.hid ((HV1.out.al _).go hb2); have HB2 := Lib.hid (below_go (below_al HB.out _) hb2); obtain ⟨⟨o0, o1, o2, o3, o4, o5, _⟩, ovb, g0, g1, g2, g3, g4⟩ := HO.out; have HR := Lib.hid (((nat_ok (b := rb) a.s hv).set ovb 1 (.bool rb)).set (ovb.set 1 rfl) 2 (.slice rA rn rc)); have HK := Lib.hid (show natB (SV.nat a.s rb rA rn rc rs).s = true → (SV.nat a.s rb rA rn rc rs).canon from fun _ => ⟨hk.out, hi.out⟩); have HL := Lib.hid (show natB (SV.nat a.s rb rA rn rc rs).s = true → (SV.nat a.s rb rA rn rc rs).n ≤ N from fun _ => hn.out); obtain ⟨⟨r0, r1, r2, r3, r4, r5, _⟩, hvb, f0, f1, f2, f3, f4⟩ := HV2.out; have hlt : w.heap.size + 2 < w1.heap.size := HV1.out.1.2.2.2.2.2.1; have HV3 := Lib.hid ((HV2.out.far hlt 1 (.bool rb)).far hlt 2 (.slice rA rn rc)); have HB3 := Lib.hid ((HB2.out.setCell (p := ⟨w1.heap.size, 1, none⟩) (Nat.le_of_lt (by omega)) (.bool rb)).setCell (p := ⟨w1.heap.size, 2, none⟩) (Nat.le_of_lt (by omega)) (.slice rA rn rc)))
    | (go_at_call 40; (with_reducible refine (own_any (SV.nat a.s rb rA rn rc rs) _ N HR.out HK.out HL.out hN3).mono ?_); rintro e w3 ⟨r, rfl, ho, hC3, hc3, hn3, hb3⟩; obtain ⟨⟨r0, r1, r2, r3, r4, r5, _⟩, hvb, f0, f1, f2, f3, f4⟩ := HV3.out.go hb3))
  exact bodyPost_ret (v := .tuple #[r.v, .int .i64 0]) (by simp [results, Tryz.results12, go_sem, r0, r1, r2, r3, r4]) rfl
    (SP.mk' r (ho.set5 hvb _ _ _ _ _ _ _) (by rw [hC3.out, hP.out, hm.out, hC.out]) hc3.out hn3.out (below_5 (below_go HB3.out hb3) (by omega) _ _ _ _ _))
set_option maxRecDepth 100000 in
set_option maxHeartbeats 2000000 in
theorem plus_best (a b : SV) (w : World) (N : Nat) (ha : a.ok w) (hb : b.ok w) (hs : a.s = 5) (hN2 : N ≤ 1099511627776) (hxa : a.x ≤ ONE) (hxb : b.x ≤ ONE) (HM : Hid (bothE a b = 0)) :
    Calls Tryz.prog 12 #[a.v, b.v] w fun e w' => SP w w' e (plusC a.con b.con) 0 N := by
  have h3 := Lib.hid (three ha hb _ rfl)
  have t1 : (a.s == 1) = false := by rw [hs]; rfl
  have t3 : (a.s == 3) = false := by rw [hs]; rfl
  have t5 : (a.s == 5) = true := by rw [hs]; rfl
  have hC := Lib.hid (show plusC a.con b.con = ⟨a.s, some 0, 0, max a.x b.x⟩ by unfold plusC; rw [show a.con.s = a.s from rfl, t1, t3, t5]; rfl)
  have hN3 : N ≤ 35184372088832 := by omega
  have hP := Lib.hid (show purC (SV.dbl a.s (max a.x b.x)).con = ⟨a.s, some 0, 0, max a.x b.x⟩ by unfold purC; rw [show (SV.dbl a.s (max a.x b.x)).con.s = a.s from rfl, hs]; rfl)
  have hmx := fun ts T w => run_max ts T (Nat.le_trans hxa (by decide)) (Nat.le_trans hxb (by decide)) w
  have hlt64 : max a.x b.x < W64 := Nat.lt_of_le_of_lt (Nat.max_le.2 ⟨hxa, hxb⟩) (show ONE < W64 by decide)
  have hok := Lib.hid (fun w => dbl_ok a.s (max a.x b.x) w hlt64)
  have hcan := Lib.hid (dbl_canon a.s (max a.x b.x))
  clear hlt64
  have hNo := Lib.hid (fun h : natB (SV.dbl a.s (max a.x b.x)).s = true => (show (SV.dbl a.s (max a.x b.x)).n ≤ N from Nat.zero_le _))
  have hcn := Lib.hid (fun _ : natB (SV.dbl a.s (max a.x b.x)).s = true => hcan.out)
  clear ha hb hs hxa hxb
  unfold SV.v
  go_enter Tryz.func12, Tryz.ntmps12
  go_wp2_with (first
    | (go_at_call 37; (with_reducible refine (both_any a b _ h3.out.1.ok h3.out.2.1.ok).mono ?_); rw [HM.out]; rintro e w1 ⟨rfl, hb1⟩; have HB := Lib.hid (below_go h3.out.2.2.2 hb1); have HA1 := Lib.hid (h3.out.1.go hb1); have HB1 := Lib.hid (h3.out.2.1.go hb1); have HV1 := Lib.hid (h3.out.2.2.1.go hb1); obtain ⟨p0, p1, p2, p3, p4, p5, _⟩ := HA1.out; obtain ⟨q0, q1, q2, q3, q4, q5, _⟩ := HB1.out; obtain ⟨⟨r0, r1, r2, r3, r4, r5, _⟩, hvb, f0, f1, f2, f3, f4⟩ := HV1.out; have hlt : w.heap.size + 2 < w1.heap.size := r5)
    | (go_at_call 40; (with_reducible refine (own_any (SV.dbl a.s (max a.x b.x)) _ N (hok.out _) hcn.out hNo.out hN3).mono ?_); rintro e w3 ⟨r, rfl, ho, hC3, hc3, hn3, hb3⟩; have HB3 := Lib.hid (below_go (below_al HB.out _) hb3); obtain ⟨⟨r0, r1, r2, r3, r4, r5, _⟩, hvb, f0, f1, f2, f3, f4⟩ := (HV1.out.al _).go hb3))
  exact bodyPost_ret (v := .tuple #[r.v, .int .i64 0]) (by simp [results, Tryz.results12, go_sem, r0, r1, r2, r3, r4]) rfl
    (SP.mk' r (ho.set5 hvb _ _ _ _ _ _ _) (by rw [hC3.out, hP.out, hC.out]) hc3.out hn3.out (below_5 HB3.out (by omega) _ _ _ _ _))
set_option maxRecDepth 100000 in
set_option maxHeartbeats 2000000 in
theorem plus_cost (a b : SV) (w : World) (N : Nat) (ha : a.ok w) (hb : b.ok w) (hs : a.s = 6) (hN2 : N ≤ 1099511627776) (hxa : a.x ≤ INF) (hxb : b.x ≤ INF) (HM : Hid (bothE a b = 0)) :
    Calls Tryz.prog 12 #[a.v, b.v] w fun e w' => SP w w' e (plusC a.con b.con) 0 N := by
  have h3 := Lib.hid (three ha hb _ rfl)
  have t1 : (a.s == 1) = false := by rw [hs]; rfl
  have t3 : (a.s == 3) = false := by rw [hs]; rfl
  have t5 : (a.s == 5) = false := by rw [hs]; rfl
  have t6 : (a.s == 6) = true := by rw [hs]; rfl
  have hC := Lib.hid (show plusC a.con b.con = ⟨a.s, some 0, 0, min a.x b.x⟩ by unfold plusC; rw [show a.con.s = a.s from rfl, t1, t3, t5, t6]; rfl)
  have hN3 : N ≤ 35184372088832 := by omega
  have hP := Lib.hid (show purC (SV.dbl a.s (min a.x b.x)).con = ⟨a.s, some 0, 0, min a.x b.x⟩ by unfold purC; rw [show (SV.dbl a.s (min a.x b.x)).con.s = a.s from rfl, hs]; rfl)
  have hmx := fun ts T w => run_min ts T hxa hxb w
  have hlt64 : min a.x b.x < W64 := Nat.lt_of_le_of_lt (Nat.le_trans (Nat.min_le_left _ _) hxa) (show INF < W64 by decide)
  have hok := Lib.hid (fun w => dbl_ok a.s (min a.x b.x) w hlt64)
  have hcan := Lib.hid (dbl_canon a.s (min a.x b.x))
  clear hlt64
  have hNo := Lib.hid (fun h : natB (SV.dbl a.s (min a.x b.x)).s = true => (show (SV.dbl a.s (min a.x b.x)).n ≤ N from Nat.zero_le _))
  have hcn := Lib.hid (fun _ : natB (SV.dbl a.s (min a.x b.x)).s = true => hcan.out)
  clear ha hb hs hxa hxb
  unfold SV.v
  go_enter Tryz.func12, Tryz.ntmps12
  go_wp2_with (first
    | (go_at_call 37; (with_reducible refine (both_any a b _ h3.out.1.ok h3.out.2.1.ok).mono ?_); rw [HM.out]; rintro e w1 ⟨rfl, hb1⟩; have HB := Lib.hid (below_go h3.out.2.2.2 hb1); have HA1 := Lib.hid (h3.out.1.go hb1); have HB1 := Lib.hid (h3.out.2.1.go hb1); have HV1 := Lib.hid (h3.out.2.2.1.go hb1); obtain ⟨p0, p1, p2, p3, p4, p5, _⟩ := HA1.out; obtain ⟨q0, q1, q2, q3, q4, q5, _⟩ := HB1.out; obtain ⟨⟨r0, r1, r2, r3, r4, r5, _⟩, hvb, f0, f1, f2, f3, f4⟩ := HV1.out; have hlt : w.heap.size + 2 < w1.heap.size := r5)
    | (go_at_call 40; (with_reducible refine (own_any (SV.dbl a.s (min a.x b.x)) _ N (hok.out _) hcn.out hNo.out hN3).mono ?_); rintro e w3 ⟨r, rfl, ho, hC3, hc3, hn3, hb3⟩; have HB3 := Lib.hid (below_go (below_al HB.out _) hb3); obtain ⟨⟨r0, r1, r2, r3, r4, r5, _⟩, hvb, f0, f1, f2, f3, f4⟩ := (HV1.out.al _).go hb3))
  exact bodyPost_ret (v := .tuple #[r.v, .int .i64 0]) (by simp [results, Tryz.results12, go_sem, r0, r1, r2, r3, r4]) rfl
    (SP.mk' r (ho.set5 hvb _ _ _ _ _ _ _) (by rw [hC3.out, hP.out, hC.out]) hc3.out hn3.out (below_5 HB3.out (by omega) _ _ _ _ _))
set_option maxRecDepth 100000 in
set_option maxHeartbeats 2000000 in
theorem plus_lev (a b : SV) (w : World) (N : Nat) (ha : a.ok w) (hb : b.ok w) (hs : a.s = 2 ∨ a.s = 4) (hN2 : N ≤ 1099511627776) (HM : Hid (bothE a b = 0)) :
    Calls Tryz.prog 12 #[a.v, b.v] w fun e w' => SP w w' e (plusC a.con b.con) 0 N := by
  have h3 := Lib.hid (three ha hb _ rfl)
  have t1 : (a.s == 1) = false := by rcases hs with h | h <;> rw [h] <;> rfl
  have t3 : (a.s == 3) = false := by rcases hs with h | h <;> rw [h] <;> rfl
  have t5 : (a.s == 5) = false := by rcases hs with h | h <;> rw [h] <;> rfl
  have t6 : (a.s == 6) = false := by rcases hs with h | h <;> rw [h] <;> rfl
  have hC := Lib.hid (show plusC a.con b.con = ⟨a.s, some 0, max a.lv b.lv, 0⟩ by unfold plusC; rw [show a.con.s = a.s from rfl, t1, t3, t5, t6]; rfl)
  have hN3 : N ≤ 35184372088832 := by omega
  have hP := Lib.hid (show purC (SV.lev a.s (max a.lv b.lv)).con = ⟨a.s, some 0, max a.lv b.lv, 0⟩ by unfold purC; rw [show (SV.lev a.s (max a.lv b.lv)).con.s = a.s from rfl]; rcases hs with h | h <;> rw [h] <;> rfl)
  have hmx := fun ts T w => run_imax ts T a.lv b.lv w
  have hok := Lib.hid (fun w => lev_ok a.s (max a.lv b.lv) w)
  have hcan := Lib.hid (lev_canon a.s (max a.lv b.lv))
  have hNo := Lib.hid (fun h : natB (SV.lev a.s (max a.lv b.lv)).s = true => (show (SV.lev a.s (max a.lv b.lv)).n ≤ N from Nat.zero_le _))
  have hcn := Lib.hid (fun _ : natB (SV.lev a.s (max a.lv b.lv)).s = true => hcan.out)
  clear ha hb hs
  unfold SV.v
  go_enter Tryz.func12, Tryz.ntmps12
  go_wp2_with (first
    | (go_at_call 37; (with_reducible refine (both_any a b _ h3.out.1.ok h3.out.2.1.ok).mono ?_); rw [HM.out]; rintro e w1 ⟨rfl, hb1⟩; have HB := Lib.hid (below_go h3.out.2.2.2 hb1); have HA1 := Lib.hid (h3.out.1.go hb1); have HB1 := Lib.hid (h3.out.2.1.go hb1); have HV1 := Lib.hid (h3.out.2.2.1.go hb1); obtain ⟨p0, p1, p2, p3, p4, p5, _⟩ := HA1.out; obtain ⟨q0, q1, q2, q3, q4, q5, _⟩ := HB1.out; obtain ⟨⟨r0, r1, r2, r3, r4, r5, _⟩, hvb, f0, f1, f2, f3, f4⟩ := HV1.out; have hlt : w.heap.size + 2 < w1.heap.size := r5)
    | (go_at_call 40; (with_reducible refine (own_any (SV.lev a.s (max a.lv b.lv)) _ N (hok.out _) hcn.out hNo.out hN3).mono ?_); rintro e w3 ⟨r, rfl, ho, hC3, hc3, hn3, hb3⟩; have HB3 := Lib.hid (below_go (below_al HB.out _) hb3); obtain ⟨⟨r0, r1, r2, r3, r4, r5, _⟩, hvb, f0, f1, f2, f3, f4⟩ := (HV1.out.al _).go hb3))
  exact bodyPost_ret (v := .tuple #[r.v, .int .i64 0]) (by simp [results, Tryz.results12, go_sem, r0, r1, r2, r3, r4]) rfl
    (SP.mk' r (ho.set5 hvb _ _ _ _ _ _ _) (by rw [hC3.out, hP.out, hC.out]) hc3.out hn3.out (below_5 HB3.out (by omega) _ _ _ _ _))
end Go.Proofs.YtdkmmnehlmaebaaGreatDoor.Se
