/- The law's own exact; its two closures. Conditions: the values can be read, and may be. -/
import Derived.Test.YtdkmmnehlmaebaaGreatDoorRg
namespace Go.Proofs.YtdkmmnehlmaebaaGreatDoor.Se
open Go.RowKit Go.NT Go.FT Go.FX Go.Lib Na

theorem neq_c {x : Nat} (hx : x ≤ INF) {c : Nat} (hc : c ≤ INF) : (FloatKind.f64.format.order x c != some .eq) = decide (x ≠ c) := by
  have : FloatKind.f64.format.order x c = some (compare x c) := order_fin hx hc
  rw [this, cmp_ne]
theorem below4 (w : World) (o1 o2 o3 o4 : Obj) : Below w.heap.size w ((((w.alloc o1).alloc o2).alloc o3).alloc o4) := below_al (below_al (below_al (below_al (Below.refl _ _) o1) o2) o3) o4
set_option maxRecDepth 100000 in
set_option maxHeartbeats 4000000 in
theorem exact_best (a b c : SV) (w : World) (hs : a.s = 5) (hxa : a.x ≤ ONE) (hxb : b.x ≤ ONE) (hxc : c.x ≤ ONE) :
    Calls Tryz.prog 27 #[a.v, b.v, c.v] w fun e w' => ∃ B : Bool, e = .returned (.bool B) ∧ (B = true → a.x ∈ chances ∧ b.x ∈ chances ∧ c.x ∈ chances) ∧ Below w.heap.size w w' := by
  have t5 : (a.s == 5) = true := by rw [hs]; rfl
  have hO : ONE ≤ INF := by decide
  have hc : ∀ k, k < 3 → ((((w.alloc (.cells #[.int .i64 a.s, .bool a.b, .slice a.A a.n a.c, .int .i64 a.lv, .float .f64 a.x] 27)).alloc (.cells #[.int .i64 b.s, .bool b.b, .slice b.A b.n b.c, .int .i64 b.lv, .float .f64 b.x] 27)).alloc (.cells #[.int .i64 c.s, .bool c.b, .slice c.A c.n c.c, .int .i64 c.lv, .float .f64 c.x] 27)).alloc (.cells #[.float .f64 a.x, .float .f64 b.x, .float .f64 c.x] 25)).cell? ⟨w.heap.size + 1 + 1 + 1, k, none⟩ = some (.float .f64 ([a.x, b.x, c.x].getD k 0)) := by
    intro k hk
    match k, hk with
    | 0, _ => go_simp
    | 1, _ => go_simp
    | 2, _ => go_simp
  have hl : ∀ k, k < 3 → [a.x, b.x, c.x].getD k 0 ≤ INF := by
    intro k hk
    match k, hk with
    | 0, _ => exact Nat.le_trans hxa hO
    | 1, _ => exact Nat.le_trans hxb hO
    | 2, _ => exact Nat.le_trans hxc hO
  have hB := Lib.hid (below4 w (.cells #[.int .i64 a.s, .bool a.b, .slice a.A a.n a.c, .int .i64 a.lv, .float .f64 a.x] 27) (.cells #[.int .i64 b.s, .bool b.b, .slice b.A b.n b.c, .int .i64 b.lv, .float .f64 b.x] 27) (.cells #[.int .i64 c.s, .bool c.b, .slice c.A c.n c.c, .int .i64 c.lv, .float .f64 c.x] 27) (.cells #[.float .f64 a.x, .float .f64 b.x, .float .f64 c.x] 25))
  have HC := Lib.hid hc
  have HL := Lib.hid hl
  have hfin := Lib.hid (fun (h : ∀ j, j < 3 → [a.x, b.x, c.x].getD j 0 ∈ chances) => show a.x ∈ chances ∧ b.x ∈ chances ∧ c.x ∈ chances from ⟨h 0 (by omega), h 1 (by omega), h 2 (by omega)⟩)
  clear hs hxa hxb hxc hO hc hl
  unfold SV.v
  go_enter Tryz.func27, Tryz.ntmps27
  go_wp2_with fail
  generalize [a.x, b.x, c.x] = xs at *
  go_loop [8] (fun v => ∃ k : Nat, k ≤ 3 ∧ v = .int .i64 k ∧ Hid (∀ j, j < k → xs.getD j 0 ∈ chances)) (fun v => 3 - (RowKit.intOf v).toNat)
  case atStart => exact ⟨0, Nat.zero_le _, rfl, Lib.hid (fun j h => absurd h (by omega))⟩
  case round =>
    obtain ⟨k, hk, rfl, hp⟩ := hrel
    by_cases hlt : k < 3
    · have hcl := HC.out k hlt
      have hlk := HL.out k hlt
      have hlt' : (k : Int) < 3 := by omega
      have hk0 : (0 : Int) ≤ (k : Int) := by omega
      have hst := Lib.hid (fun (h : xs.getD k 0 ∈ chances) => show ∀ j, j < k + 1 → xs.getD j 0 ∈ chances from fun j hj => by
        by_cases e : j = k
        · subst e; exact h
        · exact hp.out j (by omega))
      generalize xs.getD k 0 = x at *
      have T0 := neq_c hlk (c := 0) (by decide)
      have T1 := neq_c hlk (c := 4607182418800017408) (by decide)
      have T2 := neq_c hlk (c := 4602678819172646912) (by decide)
      have T3 := neq_c hlk (c := 4598175219545276416) (by decide)
      have T4 := neq_c hlk (c := 4593671619917905920) (by decide)
      clear hlk
      by_cases e0 : x = 0
      · have t10 := T0.trans (decide_eq_false (fun h => h e0))
        have hm := Lib.hid (hst.out (by rw [e0]; simp [chances]))
        clear T0 T1 T2 T3 T4 hst e0
        go_wp2_with fail
        exact ⟨⟨k + 1, by omega, by go_num, hm⟩, by simp [RowKit.intOf]; omega⟩
      by_cases e1 : x = 4607182418800017408
      · have t10 := T0.trans (decide_eq_true e0)
        have t11 := T1.trans (decide_eq_false (fun h => h e1))
        have hm := Lib.hid (hst.out (by rw [e1]; simp [chances]))
        clear T0 T1 T2 T3 T4 hst e0 e1
        go_wp2_with fail
        exact ⟨⟨k + 1, by omega, by go_num, hm⟩, by simp [RowKit.intOf]; omega⟩
      by_cases e2 : x = 4602678819172646912
      · have t10 := T0.trans (decide_eq_true e0)
        have t11 := T1.trans (decide_eq_true e1)
        have t12 := T2.trans (decide_eq_false (fun h => h e2))
        have hm := Lib.hid (hst.out (by rw [e2]; simp [chances]))
        clear T0 T1 T2 T3 T4 hst e0 e1 e2
        go_wp2_with fail
        exact ⟨⟨k + 1, by omega, by go_num, hm⟩, by simp [RowKit.intOf]; omega⟩
      by_cases e3 : x = 4598175219545276416
      · have t10 := T0.trans (decide_eq_true e0)
        have t11 := T1.trans (decide_eq_true e1)
        have t12 := T2.trans (decide_eq_true e2)
        have t13 := T3.trans (decide_eq_false (fun h => h e3))
        have hm := Lib.hid (hst.out (by rw [e3]; simp [chances]))
        clear T0 T1 T2 T3 T4 hst e0 e1 e2 e3
        go_wp2_with fail
        exact ⟨⟨k + 1, by omega, by go_num, hm⟩, by simp [RowKit.intOf]; omega⟩
      by_cases e4 : x = 4593671619917905920
      · have t10 := T0.trans (decide_eq_true e0)
        have t11 := T1.trans (decide_eq_true e1)
        have t12 := T2.trans (decide_eq_true e2)
        have t13 := T3.trans (decide_eq_true e3)
        have t14 := T4.trans (decide_eq_false (fun h => h e4))
        have hm := Lib.hid (hst.out (by rw [e4]; simp [chances]))
        clear T0 T1 T2 T3 T4 hst e0 e1 e2 e3 e4
        go_wp2_with fail
        exact ⟨⟨k + 1, by omega, by go_num, hm⟩, by simp [RowKit.intOf]; omega⟩
      · have t10 := T0.trans (decide_eq_true e0)
        have t11 := T1.trans (decide_eq_true e1)
        have t12 := T2.trans (decide_eq_true e2)
        have t13 := T3.trans (decide_eq_true e3)
        have t14 := T4.trans (decide_eq_true e4)
        clear T0 T1 T2 T3 T4 hst e0 e1 e2 e3 e4
        go_wp2_with fail
        go_ret
        exact Or.inl ⟨rfl, hB.out⟩
    · obtain rfl : k = 3 := by omega
      go_wp2_with fail
      go_ret
      exact Or.inr ⟨rfl, hfin.out hp.out, hB.out⟩
set_option maxRecDepth 100000 in
set_option maxHeartbeats 4000000 in
theorem exact_cost (a b c : SV) (w : World) (hs : a.s = 6) (hxa : a.x ≤ INF) (hxb : b.x ≤ INF) (hxc : c.x ≤ INF) :
    Calls Tryz.prog 27 #[a.v, b.v, c.v] w fun e w' => ∃ B : Bool, e = .returned (.bool B) ∧ (B = true → addR a.x (addR b.x c.x) = addR (addR a.x b.x) c.x) ∧ Below w.heap.size w w' := by
  have t5 : (a.s == 5) = false := by rw [hs]; rfl
  have t6 : (a.s == 6) = true := by rw [hs]; rfl
  have hI : INF < W64 := by decide
  have hr : Rd ((((w.alloc (.cells #[.int .i64 a.s, .bool a.b, .slice a.A a.n a.c, .int .i64 a.lv, .float .f64 a.x] 27)).alloc (.cells #[.int .i64 b.s, .bool b.b, .slice b.A b.n b.c, .int .i64 b.lv, .float .f64 b.x] 27)).alloc (.cells #[.int .i64 c.s, .bool c.b, .slice c.A c.n c.c, .int .i64 c.lv, .float .f64 c.x] 27)).alloc (.cells #[.float .f64 a.x, .float .f64 b.x, .float .f64 c.x] 25)) (w.heap.size + 4) (some ⟨w.heap.size + 1 + 1 + 1, 0, none⟩) [a.x, b.x, c.x] := by
    intro k hk
    refine ⟨_, rfl, by show w.heap.size + 1 + 1 + 1 < w.heap.size + 4; omega, ?_⟩
    match k, hk with
    | 0, _ => go_simp
    | 1, _ => go_simp
    | 2, _ => go_simp
  have hE : Calls Tryz.prog 58 #[.slice (some ⟨w.heap.size + 1 + 1 + 1, 0, none⟩) 3 3] ((((w.alloc (.cells #[.int .i64 a.s, .bool a.b, .slice a.A a.n a.c, .int .i64 a.lv, .float .f64 a.x] 27)).alloc (.cells #[.int .i64 b.s, .bool b.b, .slice b.A b.n b.c, .int .i64 b.lv, .float .f64 b.x] 27)).alloc (.cells #[.int .i64 c.s, .bool c.b, .slice c.A c.n c.c, .int .i64 c.lv, .float .f64 c.x] 27)).alloc (.cells #[.float .f64 a.x, .float .f64 b.x, .float .f64 c.x] 25)) fun e w' => e = .returned (.bool (exRL [a.x, b.x, c.x])) ∧ ((((w.alloc (.cells #[.int .i64 a.s, .bool a.b, .slice a.A a.n a.c, .int .i64 a.lv, .float .f64 a.x] 27)).alloc (.cells #[.int .i64 b.s, .bool b.b, .slice b.A b.n b.c, .int .i64 b.lv, .float .f64 b.x] 27)).alloc (.cells #[.int .i64 c.s, .bool c.b, .slice c.A c.n c.c, .int .i64 c.lv, .float .f64 c.x] 27)).alloc (.cells #[.float .f64 a.x, .float .f64 b.x, .float .f64 c.x] 25)) = w' :=
    refExact_any _ 3 [a.x, b.x, c.x] _ hr (by intro x hx; simp at hx; rcases hx with rfl | rfl | rfl <;> omega) (by simp)
  have HE := Lib.hid hE
  have hB := Lib.hid (below4 w (.cells #[.int .i64 a.s, .bool a.b, .slice a.A a.n a.c, .int .i64 a.lv, .float .f64 a.x] 27) (.cells #[.int .i64 b.s, .bool b.b, .slice b.A b.n b.c, .int .i64 b.lv, .float .f64 b.x] 27) (.cells #[.int .i64 c.s, .bool c.b, .slice c.A c.n c.c, .int .i64 c.lv, .float .f64 c.x] 27) (.cells #[.float .f64 a.x, .float .f64 b.x, .float .f64 c.x] 25))
  have hfin := Lib.hid (fun (h : exRL [a.x, b.x, c.x] = true) => ex_prices hxa hxb hxc h)
  clear hs hxa hxb hxc hI hr hE
  generalize exRL [a.x, b.x, c.x] = R at *
  unfold SV.v
  go_enter Tryz.func27, Tryz.ntmps27
  go_wp2_with (go_at_call 58; (with_reducible refine HE.out.mono ?_); rintro e w' ⟨rfl, rfl⟩)
  go_ret
  exact ⟨R, rfl, hfin.out, hB.out⟩
set_option maxRecDepth 100000 in
set_option maxHeartbeats 4000000 in
theorem exact_other (a b c : SV) (w : World) (t5 : (a.s == 5) = false) (t6 : (a.s == 6) = false) :
    Calls Tryz.prog 27 #[a.v, b.v, c.v] w fun e w' => e = .returned (.bool true) ∧ Below w.heap.size w w' := by
  have hB := Lib.hid (below_al (below_al (below_al (Below.refl w.heap.size w) (.cells #[.int .i64 a.s, .bool a.b, .slice a.A a.n a.c, .int .i64 a.lv, .float .f64 a.x] 27)) (.cells #[.int .i64 b.s, .bool b.b, .slice b.A b.n b.c, .int .i64 b.lv, .float .f64 b.x] 27)) (.cells #[.int .i64 c.s, .bool c.b, .slice c.A c.n c.c, .int .i64 c.lv, .float .f64 c.x] 27))
  unfold SV.v
  go_enter Tryz.func27, Tryz.ntmps27
  go_wp2_with fail
  go_ret
  exact ⟨rfl, hB.out⟩
theorem exact_any (a b c : SV) (w : World) (ma : Hid (a.may = 0)) (mb : Hid (b.may = 0)) (mc : Hid (c.may = 0)) (h1 : Hid (b.s = a.s)) (h2 : Hid (c.s = a.s)) :
    Calls Tryz.prog 27 #[a.v, b.v, c.v] w fun e w' => ∃ B : Bool, e = .returned (.bool B) ∧ Hid (B = true → Ex a.con b.con c.con) ∧ Below w.heap.size w w' := by
  cases t5 : a.s == 5
  · cases t6 : a.s == 6
    · refine (exact_other a b c w t5 t6).mono ?_
      rintro e w' ⟨rfl, hb⟩
      refine ⟨true, rfl, Lib.hid (fun _ => ⟨fun h => ?_, fun h => ?_⟩), hb⟩
      · rw [show a.s = 5 from h] at t5; cases t5
      · rw [show a.s = 6 from h] at t6; cases t6
    · have hs : a.s = 6 := by simpa using t6
      have k1 := dbl_of_may ma.out (by rw [hs]; rfl) (by rw [hs]; rfl)
      have k2 := dbl_of_may mb.out (by rw [h1.out, hs]; rfl) (by rw [h1.out, hs]; rfl)
      have k3 := dbl_of_may mc.out (by rw [h2.out, hs]; rfl) (by rw [h2.out, hs]; rfl)
      rw [hs] at k1
      rw [h1.out, hs] at k2
      rw [h2.out, hs] at k3
      refine (exact_cost a b c w hs k1 k2 k3).mono ?_
      rintro e w' ⟨B, rfl, hx, hb⟩
      exact ⟨B, rfl, Lib.hid (fun h => ⟨fun h5 => absurd (show a.s = 5 from h5) (by rw [hs]; decide), fun _ => hx h⟩), hb⟩
  · have hs : a.s = 5 := by simpa using t5
    have k1 := dbl_of_may ma.out (by rw [hs]; rfl) (by rw [hs]; rfl)
    have k2 := dbl_of_may mb.out (by rw [h1.out, hs]; rfl) (by rw [h1.out, hs]; rfl)
    have k3 := dbl_of_may mc.out (by rw [h2.out, hs]; rfl) (by rw [h2.out, hs]; rfl)
    rw [hs] at k1
    rw [h1.out, hs] at k2
    rw [h2.out, hs] at k3
    refine (exact_best a b c w hs k1 k2 k3).mono ?_
    rintro e w' ⟨B, rfl, hx, hb⟩
    exact ⟨B, rfl, Lib.hid (fun h => ⟨fun _ => mulR_assoc (hx h).1 (hx h).2.1 (hx h).2.2, fun h6 => absurd (show a.s = 6 from h6) (by rw [hs]; decide)⟩), hb⟩
set_option maxRecDepth 100000 in
set_option maxHeartbeats 4000000 in
theorem plusK (a b : SV) (w : World) (N : Nat) (ha : a.ok w) (hb : b.ok w) (hN : max a.n b.n + 1 ≤ N) (hN2 : N ≤ 1099511627776) (h : Hid (bothE a b = 0)) :
    Calls Tryz.prog 28 #[a.v, b.v] w fun e w' => SR w w' e (plusC a.con b.con) N := by
  have h3 := Lib.hid (three ha hb _ rfl)
  have hp := Lib.hid (fun W (h1 : a.ok W) (h2 : b.ok W) => plus_at a b W N h1 h2 hN hN2 h)
  generalize plusC a.con b.con = C at *
  clear ha hb hN hN2 h
  unfold SV.v
  go_enter Tryz.func28, Tryz.ntmps28
  go_wp2_with (go_at_call 12; (with_reducible refine (hp.out _ h3.out.1.ok h3.out.2.1.ok).mono ?_); rintro e w1 ⟨r, rfl, ho, hC, hc, hn, hb1⟩; have HB := Lib.hid (below_al (below_go h3.out.2.2.2 hb1) (.cells #[.int .i64 r.s, .bool r.b, .slice r.A r.n r.c, .int .i64 r.lv, .float .f64 r.x] 27)); have hV := Lib.hid ((h3.out.2.2.1.go hb1).al (.cells #[.int .i64 r.s, .bool r.b, .slice r.A r.n r.c, .int .i64 r.lv, .float .f64 r.x] 27)); have hR := Lib.hid (five_new w1 r ho); obtain ⟨q0, q1, q2, q3, q4, q5, _⟩ := hR.out; obtain ⟨⟨r0, r1, r2, r3, r4, r5, _⟩, hvb, f0, f1, f2, f3, f4⟩ := hV.out)
  exact bodyPost_ret (v := r.v) (by simp [results, Tryz.results28, go_sem, r0, r1, r2, r3, r4]) rfl
    (SR.mk' r ((ho.al _).set5 hvb _ _ _ _ _ _ _) hC.out hc.out hn.out (below_5 HB.out (by omega) _ _ _ _ _))
set_option maxRecDepth 100000 in
set_option maxHeartbeats 4000000 in
theorem timesK (a b : SV) (w : World) (N : Nat) (ha : a.ok w) (hb : b.ok w) (hN : a.n + b.n + 1 ≤ N) (hN2 : N ≤ 1099511627776) (h : Hid (bothE a b = 0)) :
    Calls Tryz.prog 29 #[a.v, b.v] w fun e w' => SR w w' e (timesC a.con b.con) N := by
  have h3 := Lib.hid (three ha hb _ rfl)
  have hp := Lib.hid (fun W (h1 : a.ok W) (h2 : b.ok W) => times_at a b W N h1 h2 hN hN2 h)
  generalize timesC a.con b.con = C at *
  clear ha hb hN hN2 h
  unfold SV.v
  go_enter Tryz.func29, Tryz.ntmps29
  go_wp2_with (go_at_call 14; (with_reducible refine (hp.out _ h3.out.1.ok h3.out.2.1.ok).mono ?_); rintro e w1 ⟨r, rfl, ho, hC, hc, hn, hb1⟩; have HB := Lib.hid (below_al (below_go h3.out.2.2.2 hb1) (.cells #[.int .i64 r.s, .bool r.b, .slice r.A r.n r.c, .int .i64 r.lv, .float .f64 r.x] 27)); have hV := Lib.hid ((h3.out.2.2.1.go hb1).al (.cells #[.int .i64 r.s, .bool r.b, .slice r.A r.n r.c, .int .i64 r.lv, .float .f64 r.x] 27)); have hR := Lib.hid (five_new w1 r ho); obtain ⟨q0, q1, q2, q3, q4, q5, _⟩ := hR.out; obtain ⟨⟨r0, r1, r2, r3, r4, r5, _⟩, hvb, f0, f1, f2, f3, f4⟩ := hV.out)
  exact bodyPost_ret (v := r.v) (by simp [results, Tryz.results29, go_sem, r0, r1, r2, r3, r4]) rfl
    (SR.mk' r ((ho.al _).set5 hvb _ _ _ _ _ _ _) hC.out hc.out hn.out (below_5 HB.out (by omega) _ _ _ _ _))
end Go.Proofs.YtdkmmnehlmaebaaGreatDoor.Se
