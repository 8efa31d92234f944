
/- The walks of 'cheaper', 'own', 'Same', 'IsZero'. Conditions: the values can be read. -/
import Derived.Test.YtdkmmnehlmaebaaGreatDoorSd
import Derived.Deep.RegionHeld3
namespace Go.Proofs.YtdkmmnehlmaebaaGreatDoor.Se
open Go.RowKit Go.NT Go.FT Go.FX Go.Lib Na

theorem SV.ok.reads {w : World} {a : SV} (h : a.ok w) : Na.Reads w w.heap.size 1 a.A a.n (a.xs.map (Value.int .u32)) := h.1.1
theorem far5 {w : World} {g g' : Nat} (h : g' ≠ g) (k : Nat) (u0 u1 u2 u3 u4 : Value) : (((((w.setCell ⟨g', 0, none⟩ u0).setCell ⟨g', 1, none⟩ u1).setCell ⟨g', 2, none⟩ u2).setCell ⟨g', 3, none⟩ u3).setCell ⟨g', 4, none⟩ u4).cell? ⟨g, k, none⟩ = w.cell? ⟨g, k, none⟩ := by
  rw [World.cell?_setCell_far _ _ _ _ h, World.cell?_setCell_far _ _ _ _ h, World.cell?_setCell_far _ _ _ _ h, World.cell?_setCell_far _ _ _ _ h, World.cell?_setCell_far _ _ _ _ h]
set_option maxHeartbeats 1000000 in
theorem cheaper_any (b b' : Bool) (A A' : Option Addr) (n n' c c' : Nat) (xs ys : List Int) (w : World) (hx : NV w A n c xs) (hy : NV w A' n' c' ys) (T : Bool) (hT : Hid (decide (cmpM (mean b' ys) (mean b xs) < 0) = T)) :
    Calls Tryz.prog 39 #[.agg #[.bool b, .slice A n c], .agg #[.bool b', .slice A' n' c']] w fun e w' =>
      e = .returned (.agg #[.bool (if T then b' else b), .slice (if T then A' else A) (if T then n' else n) (if T then c' else c)]) ∧ Below w.heap.size w w' := by
  obtain ⟨K, hK0⟩ : ∃ K, K = cmpM (mean b' ys) (mean b xs) := ⟨_, rfl⟩
  have hK := Lib.hid hK0
  rw [← hK0] at hT
  clear hK0
  have h0 := below_al3 w (.cells #[.bool b, .slice A n c] 24) (.cells #[.bool b', .slice A' n' c'] 24) (.cells #[.bool false, .slice none 0 0] 24)
  have hx3 := Lib.hid (hx.below h0)
  have hy3 := Lib.hid (hy.below h0)
  obtain ⟨W3, hW⟩ : ∃ W3, W3 = ((w.alloc (.cells #[.bool b, .slice A n c] 24)).alloc (.cells #[.bool b', .slice A' n' c'] 24)).alloc (.cells #[.bool false, .slice none 0 0] 24) := ⟨_, rfl⟩
  have p0 : W3.cell? ⟨w.heap.size, 0, none⟩ = some (.bool b) := by rw [hW]; go_simp
  have p1 : W3.cell? ⟨w.heap.size, 1, none⟩ = some (.slice A n c) := by rw [hW]; go_simp
  have q0 : W3.cell? ⟨w.heap.size + 1, 0, none⟩ = some (.bool b') := by rw [hW]; go_simp
  have q1 : W3.cell? ⟨w.heap.size + 1, 1, none⟩ = some (.slice A' n' c') := by rw [hW]; go_simp
  have r0 : W3.cell? ⟨w.heap.size + 2, 0, none⟩ = some (.bool false) := by rw [hW]; go_simp
  have r1 : W3.cell? ⟨w.heap.size + 2, 1, none⟩ = some (.slice none 0 0) := by rw [hW]; go_simp
  have s0 : W3.frozen? ⟨w.heap.size + 2, 0, none⟩ = false := by rw [hW]; go_simp
  have s1 : W3.frozen? ⟨w.heap.size + 2, 1, none⟩ = false := by rw [hW]; go_simp
  have hs : W3.heap.size = w.heap.size + 3 := by rw [hW]; simp
  have hgo := Lib.hid (fun (w1 : World) (hb : Below W3.heap.size W3 w1) =>
    And.intro ((hb.cell (p := ⟨w.heap.size, 0, none⟩) (by rw [hs]; show w.heap.size < _; omega)).trans p0) (And.intro ((hb.cell (p := ⟨w.heap.size, 1, none⟩) (by rw [hs]; show w.heap.size < _; omega)).trans p1)
    (And.intro ((hb.cell (p := ⟨w.heap.size + 1, 0, none⟩) (by rw [hs]; show w.heap.size + 1 < _; omega)).trans q0) (And.intro ((hb.cell (p := ⟨w.heap.size + 1, 1, none⟩) (by rw [hs]; show w.heap.size + 1 < _; omega)).trans q1)
    (And.intro ((hb.cell (p := ⟨w.heap.size + 2, 0, none⟩) (by rw [hs]; show w.heap.size + 2 < _; omega)).trans r0) (And.intro ((hb.cell (p := ⟨w.heap.size + 2, 1, none⟩) (by rw [hs]; show w.heap.size + 2 < _; omega)).trans r1)
    (And.intro ((hb.frozen (p := ⟨w.heap.size + 2, 0, none⟩) (by rw [hs]; show w.heap.size + 2 < _; omega)).trans s0) ((hb.frozen (p := ⟨w.heap.size + 2, 1, none⟩) (by rw [hs]; show w.heap.size + 2 < _; omega)).trans s1))))))))
  clear p0 p1 q0 q1 r0 r1 s0 s1 hs
  rw [← hW] at h0 hx3 hy3
  subst hW
  cases T
  all_goals
    have hT' := hT.out
    clear hT
    go_enter Tryz.func39, Tryz.ntmps39
    go_wp2_with (go_at_call 46; (with_reducible refine (compare_any b' b A' A n' n c' c ys xs _ hy3.out hx3.out).mono ?_); rw [← hK.out]; rintro e w1 ⟨rfl, hb1⟩; obtain ⟨p0, p1, q0, q1, r0, r1, s0, s1⟩ := hgo.out w1 hb1)
  · exact bodyPost_ret (v := .agg #[.bool b, .slice A n c]) (by simp [results, Tryz.results39, go_sem, r0, r1]) rfl ⟨rfl, ((below_go h0 hb1).setCell (by show _ ≤ w.heap.size + 2; omega) _).setCell (by show _ ≤ w.heap.size + 2; omega) _⟩
  · exact bodyPost_ret (v := .agg #[.bool b', .slice A' n' c']) (by simp [results, Tryz.results39, go_sem, r0, r1]) rfl ⟨rfl, ((below_go h0 hb1).setCell (by show _ ≤ w.heap.size + 2; omega) _).setCell (by show _ ≤ w.heap.size + 2; omega) _⟩

/-- The named field alone. -/
def purC (c : Con) : Con := if natB c.s then ⟨c.s, c.m, 0, 0⟩ else if levB c.s then ⟨c.s, some 0, c.lv, 0⟩ else ⟨c.s, some 0, 0, c.x⟩
set_option maxRecDepth 100000 in
set_option maxHeartbeats 1000000 in
theorem own_any (a : SV) (w : World) (N : Nat) (ha : a.ok w) (hk : natB a.s = true → a.canon) (hn : natB a.s = true → a.n ≤ N) (hN : N ≤ 35184372088832) : Calls Tryz.prog 40 #[a.v] w fun e w' => SR w w' e (purC a.con) N := by
  have h0 := fun o o' : Obj => below_al (below_al (Below.refl w.heap.size w) o) o'
  cases h1 : natB a.s
  · cases h2 : levB a.s
    · have hC := Lib.hid (show purC a.con = ⟨a.s, some 0, 0, a.x⟩ by unfold purC; rw [show a.con.s = a.s from rfl, h1, h2]; rfl)
      have H1 := Lib.hid h1
      have H2 := Lib.hid h2
      have hx := Lib.hid ha.2
      clear h1 h2 ha hk hn
      unfold SV.v
      go_enter Tryz.func40, Tryz.ntmps40
      go_wp2_with (first | (go_at_call 49; (with_reducible refine (isNat_any a.s _).mono ?_); rw [H1.out]; rintro e w' ⟨rfl, rfl⟩) | (go_at_call 51; (with_reducible refine (isLevel_any a.s _).mono ?_); rw [H2.out]; rintro e w' ⟨rfl, rfl⟩))
      rw [hC.out]
      exact bodyPost_ret (v := SV.v (SV.dbl a.s a.x)) (by simp [results, Tryz.results40, go_sem, SV.dbl]) rfl (SR.mk' (SV.dbl a.s a.x) (dbl_ok _ _ _ hx.out) rfl (dbl_canon _ _) (Nat.zero_le _) (h0 _ _))
    · have hC := Lib.hid (show purC a.con = ⟨a.s, some 0, a.lv, 0⟩ by unfold purC; rw [show a.con.s = a.s from rfl, h1, h2]; rfl)
      have H1 := Lib.hid h1
      have H2 := Lib.hid h2
      clear h1 h2 ha hk hn
      unfold SV.v
      go_enter Tryz.func40, Tryz.ntmps40
      go_wp2_with (first | (go_at_call 49; (with_reducible refine (isNat_any a.s _).mono ?_); rw [H1.out]; rintro e w' ⟨rfl, rfl⟩) | (go_at_call 51; (with_reducible refine (isLevel_any a.s _).mono ?_); rw [H2.out]; rintro e w' ⟨rfl, rfl⟩))
      rw [hC.out]
      exact bodyPost_ret (v := SV.v (SV.lev a.s a.lv)) (by simp [results, Tryz.results40, go_sem, SV.lev]) rfl (SR.mk' (SV.lev a.s a.lv) (lev_ok _ _ _) rfl (lev_canon _ _) (Nat.zero_le _) (h0 _ _))
  · have hC := Lib.hid (show purC a.con = ⟨a.s, mean a.b a.xs, 0, 0⟩ by unfold purC; rw [show a.con.s = a.s from rfl, h1]; rfl)
    have H1 := Lib.hid h1
    have hv := Lib.hid ha.1
    have hnn := hn h1
    have hkk := Lib.hid (hk h1)
    have hF := (five_new w a ha).al (.cells #[.int .i64 0, .bool false, .slice none 0 0, .int .i64 0, .float .f64 0] 27)
    have hG : Var ((w.alloc (.cells #[.int .i64 a.s, .bool a.b, .slice a.A a.n a.c, .int .i64 a.lv, .float .f64 a.x] 27)).alloc (.cells #[.int .i64 0, .bool false, .slice none 0 0, .int .i64 0, .float .f64 0] 27)) (w.heap.size + 1) (SV.lev 0 0) := by
      have := var_new (w.alloc (.cells #[.int .i64 a.s, .bool a.b, .slice a.A a.n a.c, .int .i64 a.lv, .float .f64 a.x] 27)) (SV.lev 0 0) (lev_ok _ _ _)
      rwa [show (w.alloc (.cells #[.int .i64 a.s, .bool a.b, .slice a.A a.n a.c, .int .i64 a.lv, .float .f64 a.x] 27)).heap.size = w.heap.size + 1 by simp] at this
    have hF' := Lib.hid hF
    obtain ⟨p0, p1, p2, p3, p4, p5, p6⟩ := hF
    replace hG := Lib.hid hG
    clear h1 ha hk hn p6 p5
    unfold SV.v
    go_enter Tryz.func40, Tryz.ntmps40
    go_wp2_with (go_at_call 49; (with_reducible refine (isNat_any a.s _).mono ?_); rw [H1.out]; rintro e w' ⟨rfl, rfl⟩)
    have h00 := Lib.hid (h0 (.cells #[.int .i64 a.s, .bool a.b, .slice a.A a.n a.c, .int .i64 a.lv, .float .f64 a.x] 27) (.cells #[.int .i64 0, .bool false, .slice none 0 0, .int .i64 0, .float .f64 0] 27))
    clear h0
    generalize ((w.alloc (.cells #[.int .i64 a.s, .bool a.b, .slice a.A a.n a.c, .int .i64 a.lv, .float .f64 a.x] 27)).alloc (.cells #[.int .i64 0, .bool false, .slice none 0 0, .int .i64 0, .float .f64 0] 27)) = W at *
    have HC := Lib.hid (clone_any a.A a.n a.c a.xs W.drew hF'.out.drew.ok.reads (Nat.le_refl _) (Nat.le_trans hnn hN))
    have HG := Lib.hid (fun w1 (hb1 : Below W.drew.heap.size W.drew w1) => And.intro (hG.out.drew.go hb1) (And.intro (hF'.out.drew.go hb1) (below_go (below_dr h00.out) hb1)))
    have hne := Nat.succ_ne_self w.heap.size
    clear hF' hG h00
    go_region_held3 (fun w' => w'.cell? ⟨w.heap.size, 0, none⟩ = some (.int .i64 a.s) ∧ w'.cell? ⟨w.heap.size, 1, none⟩ = some (.bool a.b) ∧ w'.cell? ⟨w.heap.size, 2, none⟩ = some (.slice a.A a.n a.c)) (first | with_reducible exact ⟨p0, p1, p2⟩ | with_reducible exact ⟨(far5 hne _ _ _ _ _ _).trans p0, (far5 hne _ _ _ _ _ _).trans p1, (far5 hne _ _ _ _ _ _).trans p2⟩ | exact ⟨p0, p1, p2⟩) ((go_at_call 70; (with_reducible refine HC.out.mono ?_); rintro e w1 ⟨A', c', rfl, hown, hcc, hb1⟩; obtain ⟨⟨⟨r0, r1, r2, r3, r4, r5, _⟩, hvb, f0, f1, f2, f3, f4⟩, ⟨p0, p1, p2, p3, p4, p5, p6⟩, h1⟩ := HG.out w1 hb1))
    all_goals
      go_wp2_with fail
      rw [hC.out]
      have ho := (nat_ok (b := a.b) a.s (show NV w1 A' a.n c' a.xs from ⟨Na.Reads.of_own hown, hcc, hv.out.2.2.1, hv.out.2.2.2⟩)).set5 hvb a.s a.b A' a.n c' 0 0
      exact bodyPost_ret (v := SV.v (SV.nat a.s a.b A' a.n c' a.xs)) (by simp [results, Tryz.results40, go_sem, SV.nat, r0, r1, r2, r3, r4]) rfl
        (SR.mk' (SV.nat a.s a.b A' a.n c' a.xs) ho rfl hkk.out hnn (below_5 h1 (by omega) _ _ _ _ _))
/-- Are two contents the same, of one semiring? -/
def sameC (c d : Con) : Bool := if natB c.s then decide (c.m = d.m) else if levB c.s then c.lv == d.lv else same c.x d.x
def sameE (a b : SV) : Bool := (bothE a b == 0) && sameC a.con b.con
set_option maxHeartbeats 1000000 in
theorem same_sv (a b : SV) (w : World) (ha : a.ok w) (hb : b.ok w) : Calls Tryz.prog 23 #[a.v, b.v] w fun e w' => e = .returned (.bool (sameE a b)) ∧ Below w.heap.size w w' := by
  have hA := five_new w a ha
  have hB := five_new _ b (hb.al (.cells #[.int .i64 a.s, .bool a.b, .slice a.A a.n a.c, .int .i64 a.lv, .float .f64 a.x] 27))
  replace hA := hA.al (.cells #[.int .i64 b.s, .bool b.b, .slice b.A b.n b.c, .int .i64 b.lv, .float .f64 b.x] 27)
  have h0 := below_al (below_al (Below.refl w.heap.size w) (.cells #[.int .i64 a.s, .bool a.b, .slice a.A a.n a.c, .int .i64 a.lv, .float .f64 a.x] 27)) (.cells #[.int .i64 b.s, .bool b.b, .slice b.A b.n b.c, .int .i64 b.lv, .float .f64 b.x] 27)
  have hg : (w.alloc (.cells #[.int .i64 a.s, .bool a.b, .slice a.A a.n a.c, .int .i64 a.lv, .float .f64 a.x] 27)).heap.size = w.heap.size + 1 := by simp
  rw [hg] at hB
  have hx := Lib.hid ha.2
  have hy := Lib.hid hb.2
  clear hg ha hb
  have HA := Lib.hid hA
  have HB := Lib.hid hB
  clear hA hB
  have hS := Lib.hid (show sameE a b = ((bothE a b == 0) && sameC a.con b.con) from rfl)
  obtain ⟨M, hM0⟩ : ∃ M, M = bothE a b := ⟨_, rfl⟩
  rw [← hM0] at hS
  have HM := Lib.hid hM0
  clear hM0
  cases e1 : M != 0
  · have e2 : (M == 0) = true := by simpa [bne] using e1
    rw [e2, Bool.true_and] at hS
    clear e2
    cases e3 : natB a.s
    · cases e4 : levB a.s
      · have HE : Hid (sameE a b = same a.x b.x) := Lib.hid (by rw [hS.out]; unfold sameC; rw [show a.con.s = a.s from rfl, e3, e4]; rfl)
        have H3 := Lib.hid e3
        have H4 := Lib.hid e4
        clear e3 e4 hS
        unfold SV.v
        go_enter Tryz.func23, Tryz.ntmps23
        go_wp2_with (first
          | (go_at_call 37; (with_reducible refine (both_any a b _ HA.out.ok HB.out.ok).mono ?_); rw [← HM.out]; rintro e w1 ⟨rfl, hb1⟩; have HA1 := HA.out.go hb1; have HB1 := HB.out.go hb1; obtain ⟨p0, p1, p2, p3, p4, _⟩ := HA1; obtain ⟨q0, q1, q2, q3, q4, _⟩ := HB1; have H1 := Lib.hid (below_go h0 hb1))
          | (go_at_call 49; (with_reducible refine (isNat_any a.s _).mono ?_); rw [H3.out]; rintro e w' ⟨rfl, rfl⟩)
          | (go_at_call 51; (with_reducible refine (isLevel_any a.s _).mono ?_); rw [H4.out]; rintro e w' ⟨rfl, rfl⟩)
          | (go_at_call 57; (with_reducible refine (Go.Proofs.YtdkmmnehlmaebaaGreatDoor.same_any a.x b.x _ hx.out hy.out).mono ?_); rintro e w' ⟨rfl, rfl⟩))
        go_ret
        exact ⟨by rw [HE.out]; rfl, H1.out⟩
      · have HE : Hid (sameE a b = (a.lv == b.lv)) := Lib.hid (by rw [hS.out]; unfold sameC; rw [show a.con.s = a.s from rfl, e3, e4]; rfl)
        have H3 := Lib.hid e3
        have H4 := Lib.hid e4
        clear e3 e4 hS
        unfold SV.v
        go_enter Tryz.func23, Tryz.ntmps23
        go_wp2_with (first
          | (go_at_call 37; (with_reducible refine (both_any a b _ HA.out.ok HB.out.ok).mono ?_); rw [← HM.out]; rintro e w1 ⟨rfl, hb1⟩; have HA1 := HA.out.go hb1; have HB1 := HB.out.go hb1; obtain ⟨p0, p1, p2, p3, p4, _⟩ := HA1; obtain ⟨q0, q1, q2, q3, q4, _⟩ := HB1; have H1 := Lib.hid (below_go h0 hb1))
          | (go_at_call 49; (with_reducible refine (isNat_any a.s _).mono ?_); rw [H3.out]; rintro e w' ⟨rfl, rfl⟩)
          | (go_at_call 51; (with_reducible refine (isLevel_any a.s _).mono ?_); rw [H4.out]; rintro e w' ⟨rfl, rfl⟩))
        go_ret
        exact ⟨by rw [HE.out]; rfl, H1.out⟩
    · have HE : Hid (sameE a b = decide (mean a.b a.xs = mean b.b b.xs)) := Lib.hid (by rw [hS.out]; unfold sameC; rw [show a.con.s = a.s from rfl, e3]; rfl)
      have H3 := Lib.hid e3
      clear e3 hS
      unfold SV.v
      go_enter Tryz.func23, Tryz.ntmps23
      go_wp2_with (first
        | (go_at_call 37; (with_reducible refine (both_any a b _ HA.out.ok HB.out.ok).mono ?_); rw [← HM.out]; rintro e w1 ⟨rfl, hb1⟩; have HA1 := HA.out.go hb1; have HB1 := HB.out.go hb1; have hva := Lib.hid HA1.ok.1; have hvb := Lib.hid HB1.ok.1; obtain ⟨p0, p1, p2, p3, p4, _⟩ := HA1; obtain ⟨q0, q1, q2, q3, q4, _⟩ := HB1; have H1 := Lib.hid (below_go h0 hb1))
        | (go_at_call 49; (with_reducible refine (isNat_any a.s _).mono ?_); rw [H3.out]; rintro e w' ⟨rfl, rfl⟩)
        | (go_at_call 56; (with_reducible refine (Na.same_any a.b b.b a.A b.A a.n b.n a.c b.c a.xs b.xs _ hva.out hvb.out).mono ?_); rintro e w2 ⟨rfl, hb2⟩; have H1 := Lib.hid (below_go H1.out hb2)))
      go_ret
      exact ⟨by rw [HE.out]; rfl, H1.out⟩
  · have e2 : (M == 0) = false := by simpa [bne] using e1
    rw [e2, Bool.false_and] at hS
    clear e2
    unfold SV.v
    go_enter Tryz.func23, Tryz.ntmps23
    go_wp2_with (go_at_call 37; (with_reducible refine (both_any a b _ HA.out.ok HB.out.ok).mono ?_); rw [← HM.out]; rintro e w1 ⟨rfl, hb1⟩; have H1 := Lib.hid (below_go h0 hb1))
    go_ret
    exact ⟨by rw [hS.out]; rfl, H1.out⟩
end Go.Proofs.YtdkmmnehlmaebaaGreatDoor.Se
