import Derived.Test.YtdkmmnehlmaebaaGreatDoorSj

/- The walks of 'small', of the text of a count. Conditions: the values' lengths can be read; the table of powers is laid. -/
namespace Go.Proofs.YtdkmmnehlmaebaaGreatDoor.Se
open Go.RowKit Go.NT Go.FT Go.Lib Na

set_option maxRecDepth 100000 in
set_option maxHeartbeats 1000000 in
theorem small_any (g : Nat) (L C : Nat → Nat) (F : Nat → Option Addr) (N c : Nat) (w : World) (hN : N ≤ 4) (hc : N ≤ c)
    (hcell : ∀ i, i < N → w.cell? ⟨g, i * 5 + 2, none⟩ = some (.slice (F i) (L i) (C i))) (hL : ∀ i, L i ≤ 9223372036854775807) :
    Calls Tryz.prog 6 #[.slice (some ⟨g, 0, none⟩) N c] w fun e w' => e = .returned (.bool (decide (∀ i, i < N → L i ≤ 60))) ∧ w' = w := by
  have hL' := Lib.hid hL
  have hcell' := Lib.hid hcell
  clear hL hcell
  go_enter Tryz.func6, Tryz.ntmps6
  go_wp2_with fail
  go_loop [3] (fun v => ∃ k : Nat, k ≤ N ∧ v = .int .i64 k ∧ Hid (∀ i, i < k → L i ≤ 60)) (fun v => N - (RowKit.intOf v).toNat)
  case atStart => exact ⟨0, Nat.zero_le _, rfl, Lib.hid (fun i h => absurd h (by omega))⟩
  case round =>
    obtain ⟨k, hk, rfl, hp⟩ := hrel
    by_cases hlt : k < N
    · have hcl := hcell'.out k hlt
      have hlk := hL'.out k
      have hlt' : (k : Int) < N := by omega
      by_cases hbig : 60 < L k
      · have hf : Hid (decide (∀ i, i < N → L i ≤ 60) = false) := Lib.hid (decide_eq_false (fun h => by have := h k hlt; omega))
        generalize L k = m at *
        have hbig' : (60 : Int) < m := by omega
        go_wp2_with fail
        go_ret
        exact ⟨by rw [hf.out]; rfl, rfl⟩
      · have hst : Hid (∀ i, i < k + 1 → L i ≤ 60) := Lib.hid (fun i hi => by
          by_cases e : i = k
          · subst e; omega
          · exact hp.out i (by omega))
        generalize L k = m at *
        have hbig' : ¬ (60 : Int) < m := by omega
        go_wp2_with fail
        exact ⟨⟨k + 1, by omega, by go_num, hst⟩, by simp [RowKit.intOf]; omega⟩
    · obtain rfl : k = N := by omega
      have hf : Hid (decide (∀ i, i < k → L i ≤ 60) = true) := Lib.hid (decide_eq_true hp.out)
      go_wp2_with fail
      go_ret
      exact ⟨by rw [hf.out]; rfl, rfl⟩
set_option maxRecDepth 100000 in
set_option maxHeartbeats 1000000 in
theorem text_nat (a : SV) (w : World) (ha : a.ok w) (hn : a.n ≤ 1099511627776) (ht : Tab w) (HM : Hid (a.may = 0)) (HN : Hid (natB a.s = true)) :
    Calls Tryz.prog 30 #[a.v] w fun e w' => e = .returned (strV (textM (mean a.b a.xs))) ∧ Below w.heap.size w w' := by
  have h0 := Lib.hid (below_al (Below.refl w.heap.size w) (.cells #[.int .i64 a.s, .bool a.b, .slice a.A a.n a.c, .int .i64 a.lv, .float .f64 a.x] 27))
  have hF := Lib.hid (five_new w a ha)
  have hT := Lib.hid (ht.below h0.out)
  clear ha ht
  unfold SV.v
  go_enter Tryz.func30, Tryz.ntmps30
  go_wp2_with (first
    | (go_at_call 21; (with_reducible refine (may_sv a _ hF.out.ok).mono ?_); rw [HM.out]; rintro e w1 ⟨rfl, hb1⟩; have HF := Lib.hid (hF.out.go hb1); have H1 := Lib.hid (below_go h0.out hb1); have HT := Lib.hid (hT.out.below hb1); have HX := Lib.hid HF.out.ok.1; obtain ⟨p0, p1, p2, p3, p4, p5, _⟩ := HF.out)
    | (go_at_call 49; (with_reducible refine (isNat_any a.s _).mono ?_); rw [HN.out]; rintro e w' ⟨rfl, rfl⟩)
    | (go_at_call 59; (with_reducible refine (Na.text_any a.b a.A a.n a.c a.xs _ HX.out hn HT.out).mono ?_); rintro e w2 ⟨rfl, hb2⟩; have H2 := Lib.hid (below_go H1.out hb2)))
  go_ret
  exact ⟨rfl, H2.out⟩
end Go.Proofs.YtdkmmnehlmaebaaGreatDoor.Se


/- The walk of 'awake'. Conditions: the table of powers is laid. -/
namespace Go.Proofs.YtdkmmnehlmaebaaGreatDoor.Se
open Go.RowKit Go.NT Go.FT Go.Lib Na

theorem one_count (w : World) : Calls Tryz.prog 10 #[.int .i64 1] w fun e w' => SP w w' e (oneC 1) 0 2 := one_any 1 w 2 (Nat.le_refl _)
theorem zero_none (w : World) : Calls Tryz.prog 8 #[.int .i64 0] w fun e w' => SP w w' e noneC 9 0 := zero_any 0 w 0
theorem star_one (r : SV) (w : World) (ho : r.ok w) (hk : r.canon) (hc : r.con = oneC 1) : Calls Tryz.prog 16 #[r.v] w fun e w' => SP w w' e ⟨1, none, 0, 0⟩ 0 2 := by
  have hm : r.may = 0 := by rw [may_canon ho hk, hc]; exact may_oneC rfl
  have h := star_sv r w 2 (Nat.le_refl _) ho
  rw [if_pos hm, hm, hc] at h
  exact h
theorem inf_of_con {r : SV} {C : Con} (h : r.con = C) (hm : C.m = none) : r.b = true := by
  have := congrArg Con.m h
  rw [hm] at this
  cases hb : r.b
  · unfold SV.con mean at this; rw [hb] at this; cases this
  · rfl
theorem t1 : decI 1 = [49] := by
  unfold decI
  simp [decDigits]
theorem may_one {r : SV} {w : World} (ho : r.ok w) (hk : r.canon) (hc : r.con = oneC 1) : r.may = 0 := by rw [may_canon ho hk, hc]; exact may_oneC rfl
theorem nat_one {r : SV} (hc : r.con = oneC 1) : natB r.s = true := by have h := congrArg Con.s hc; have h2 : r.s = 1 := h; rw [h2]; rfl
theorem text_one {r : SV} (hc : r.con = oneC 1) : strV (textM (mean r.b r.xs)) = .string ⟨#[49]⟩ := by
  have h := congrArg Con.m hc
  have h2 : mean r.b r.xs = some 1 := h
  rw [h2]
  show strV (decI 1) = _
  rw [t1]
  rfl
set_option maxRecDepth 100000 in
set_option maxHeartbeats 1000000 in
theorem awake_any (w : World) (ht : Tab w) : Calls Tryz.prog 7 #[] w fun e w' => e = .returned (.bool true) ∧ Below w.heap.size w w' := by
  have HT := Lib.hid ht
  clear ht
  go_enter Tryz.func7, Tryz.ntmps7
  go_wp2_with (first
    | (go_at_call 10; (with_reducible refine (one_count _).mono ?_); rintro e w1 ⟨r, rfl, ho, hC, hc, hn, hb1⟩; have H1 := Lib.hid (below_al hb1 (.cells #[.int .i64 r.s, .bool r.b, .slice r.A r.n r.c, .int .i64 r.lv, .float .f64 r.x] 27)); have F1 := Lib.hid (five_new w1 r ho); obtain ⟨p0, p1, p2, p3, p4, p5, _⟩ := F1.out; have HRN := Lib.hid (Nat.le_trans hn.out (show 2 ≤ 1099511627776 by decide)); have HRM := Lib.hid (may_one ho hc.out hC.out); have HRS := Lib.hid (nat_one hC.out); have HRT := Lib.hid (text_one hC.out))
    | (go_at_call 16; (with_reducible refine (star_one r _ F1.out.ok hc.out hC.out).mono ?_); rintro e w2 ⟨s, rfl, so, sC, sc, sn, hb2⟩; have H2 := Lib.hid (below_al (below_go H1.out hb2) (.cells #[.int .i64 s.s, .bool s.b, .slice s.A s.n s.c, .int .i64 s.lv, .float .f64 s.x] 27)); have F2 := Lib.hid ((F1.out.go hb2).al (.cells #[.int .i64 s.s, .bool s.b, .slice s.A s.n s.c, .int .i64 s.lv, .float .f64 s.x] 27)); have G2 := Lib.hid (five_new w2 s so); have hsb := Lib.hid (inf_of_con sC.out rfl))
    | (go_at_call 8; (with_reducible refine (zero_none _).mono ?_); rintro e w3 ⟨z, rfl, zo, zC, zc, zn, hb3⟩; have H3 := Lib.hid (below_al (below_go H2.out hb3) (.cells #[.int .i64 z.s, .bool z.b, .slice z.A z.n z.c, .int .i64 z.lv, .float .f64 z.x] 27)); have F3 := Lib.hid ((F2.out.go hb3).al (.cells #[.int .i64 z.s, .bool z.b, .slice z.A z.n z.c, .int .i64 z.lv, .float .f64 z.x] 27)); have G3 := Lib.hid ((G2.out.go hb3).al (.cells #[.int .i64 z.s, .bool z.b, .slice z.A z.n z.c, .int .i64 z.lv, .float .f64 z.x] 27)); obtain ⟨q0, q1, q2, q3, q4, q5, _⟩ := F3.out; obtain ⟨s0, s1, s2, s3, s4, s5, _⟩ := G3.out; rw [hsb.out] at s1; have HX := Lib.hid (show NV _ r.A r.n r.c r.xs from F3.out.ok.1); have HT3 := Lib.hid (HT.out.below H3.out))
    | (go_at_call 30; (with_reducible refine (text_nat r _ F3.out.ok HRN.out HT3.out HRM HRS).mono ?_); rw [HRT.out]; rintro e w4 ⟨rfl, hb4⟩; have H4 := Lib.hid (below_go H3.out hb4)))
  go_ret
  exact ⟨rfl, H4.out⟩
end Go.Proofs.YtdkmmnehlmaebaaGreatDoor.Se


/- The plain laws on values' contents. Conditions: none. -/
namespace Go.Proofs.YtdkmmnehlmaebaaGreatDoor.Se
open Go.RowKit Go.NT Go.FT Go.FX Go.Lib Na

/-- What may be, of a content. -/
def Val (c : Con) : Prop :=
  knownB c.s = true ∧ (∀ v, c.m = some v → 0 ≤ v) ∧ (levB c.s = true → 0 ≤ c.lv ∧ c.lv ≤ topV c.s) ∧ (natB c.s = false → levB c.s = false → c.x ≤ dblM c.s)
theorem cmpM_self (m : Option Int) : cmpM m m = 0 := by cases m <;> simp [cmpM, cmpI_self]
theorem minM_self (m : Option Int) : minM m m = m := by unfold minM; split <;> rfl
theorem minM_zero {m : Option Int} (h : ∀ v, m = some v → 0 ≤ v) : minM (some 0) m = some 0 := by
  unfold minM
  cases m with
  | none => rfl
  | some v =>
    have := h v rfl
    rw [if_neg]
    show ¬ cmpI v 0 < 0
    unfold cmpI
    rw [if_neg (by omega)]
    split <;> omega
theorem addM_zero (m : Option Int) : addM m (some 0) = m := by cases m <;> simp [addM]
theorem star_plain {c : Con} (h : Val c) : sameC (plusC (oneC c.s) (timesC c (starC c))) (starC c) = true := by
  obtain ⟨s, m, lv, x⟩ := c
  obtain ⟨hk, hm, hl, hd⟩ := h
  simp only at hk hm hl hd ⊢
  rcases known_cases hk with rfl | rfl | rfl | rfl | rfl | rfl
  · by_cases e : m = some 0
    · subst e; rfl
    · have e1 : starC ⟨1, m, lv, x⟩ = ⟨1, none, 0, 0⟩ := by unfold starC; simp [e]
      rw [e1]
      have e2 : mulM m none = none := by
        cases m with
        | none => rfl
        | some v => show (if v = 0 then some 0 else none) = none; rw [if_neg (fun h => e (by rw [h]))]
      show decide (addM (some 1) (mulM m none) = none) = true
      rw [e2]; rfl
  · have := hl rfl
    have h2 : topV 2 = 1 := rfl
    rw [h2] at this
    show (max 1 (min lv 1) == (1 : Int)) = true
    rw [beq_iff_eq]; omega
  · show decide (minM (some 0) (addM m (some 0)) = some 0) = true
    rw [addM_zero, minM_zero hm]; rfl
  · have := hl rfl
    have h2 : topV 4 = 7 := rfl
    rw [h2] at this
    show (max 7 (min lv 7) == (7 : Int)) = true
    rw [beq_iff_eq]; omega
  · have h1 : x ≤ ONE := hd rfl rfl
    have hO : ONE < INF := by decide
    have e1 : starC ⟨5, m, lv, x⟩ = ⟨5, some 0, 0, ONE⟩ := rfl
    have e2 : oneC 5 = ⟨5, some 0, 0, ONE⟩ := rfl
    have e3 : ∀ y, timesC ⟨5, m, lv, x⟩ ⟨5, some 0, 0, y⟩ = ⟨5, some 0, 0, mulR x y⟩ := fun _ => rfl
    have e4 : ∀ y z, plusC ⟨5, some 0, 0, y⟩ ⟨5, some 0, 0, z⟩ = ⟨5, some 0, 0, max y z⟩ := fun _ _ => rfl
    have e5 : ∀ y z, sameC ⟨5, some 0, 0, y⟩ ⟨5, some 0, 0, z⟩ = same y z := fun _ _ => rfl
    rw [e1, e2, e3, e4, e5, mulR_one (Nat.lt_of_le_of_lt h1 hO), Nat.max_eq_left h1]
    exact same_rfl
  · have h1 : x ≤ INF := hd rfl rfl
    show same (min 0 (addR x 0)) 0 = true
    rw [Nat.zero_min]; exact same_rfl
theorem twice_plain {c : Con} (h : knownB c.s = true) (h1 : (c.s == 1) = false) : sameC (plusC c c) c = true := by
  obtain ⟨s, m, lv, x⟩ := c
  simp only at h h1 ⊢
  rcases known_cases h with rfl | rfl | rfl | rfl | rfl | rfl
  · cases h1
  · show (max lv lv == lv) = true
    rw [beq_iff_eq]; omega
  · show decide (minM m m = m) = true
    rw [minM_self]; exact decide_eq_true rfl
  · show (max lv lv == lv) = true
    rw [beq_iff_eq]; omega
  · show same (max x x) x = true
    rw [Nat.max_self]; exact same_rfl
  · show same (min x x) x = true
    rw [Nat.min_self]; exact same_rfl
end Go.Proofs.YtdkmmnehlmaebaaGreatDoor.Se


/- The walks of the document's 'May' and 'MayValue'. Conditions: the values can be read. -/
namespace Go.Proofs.YtdkmmnehlmaebaaGreatDoor.Na
open Go.RowKit Go.NT Go.Lib

set_option maxHeartbeats 1000000 in
theorem rmay_any (b : Bool) (A : Option Addr) (n c : Nat) (xs : List Int) (w : World) (h : NV w A n c xs) :
    Calls Tryz.prog 54 #[.agg #[.bool b, .slice A n c]] w fun e w' => e = .returned (.bool (if b then ((n : Int) == 0) else (((strip xs).length : Int) == (n : Int)))) ∧ Below w.heap.size w w' := by
  obtain ⟨h1, h2, h3, h4⟩ := h
  have hl := h1.len
  cases b with
  | true =>
    clear hl
    go_enter Tryz.func54, Tryz.ntmps54
    go_wp2_with fail
    go_ret
    exact ⟨rfl, below_al (Below.refl _ _) _⟩
  | false =>
    by_cases hn : n = 0
    · subst hn
      obtain rfl : xs = [] := List.eq_nil_of_length_eq_zero hl
      clear hl h1
      go_enter Tryz.func54, Tryz.ntmps54
      go_wp2_with fail
      go_ret
      exact ⟨rfl, below_al (Below.refl _ _) _⟩
    · obtain ⟨ad, rfl, hb, hcell⟩ := (h1.alloc (Nat.le_refl _) (.cells #[.bool false, .slice A n c] 24)).get (show n - 1 < n by omega)
      have hz := strip_take_z (xs := xs) (m := n) (by omega) (by omega)
      have hnz := strip_take_nz (xs := xs) (m := n) (by omega) (by omega)
      rw [List.take_of_length_le (by omega)] at hz hnz
      have h0 : 0 < n := by omega
      have hn0 : ((n : Int) == 0) = false := by simpa using hn
      have hq : ((xs.getD (n - 1) 0 == 0) = true ∧ (((strip xs).length : Int) == (n : Int)) = false) ∨ ((xs.getD (n - 1) 0 == 0) = false ∧ (((strip xs).length : Int) == (n : Int)) = true) := by
        by_cases e : xs.getD (n - 1) 0 = 0
        · left
          have := (strip_take (xs.take (n - 1))).2
          have h5 := hz e
          rw [List.length_take] at this
          refine ⟨by simpa using e, ?_⟩
          rw [h5]
          simp only [beq_eq_false_iff_ne, ne_eq]
          omega
        · right
          refine ⟨by simpa using e, ?_⟩
          rw [hnz e, hl]; simp
      have HQ := Lib.hid hq
      clear hq hz hnz hl hn
      generalize xs.getD (n - 1) 0 = x at *
      go_enter Tryz.func54, Tryz.ntmps54
      rcases HQ.out with ⟨q1, q2⟩ | ⟨q1, q2⟩
      all_goals
        have Q2 := Lib.hid q2
        clear q2 HQ
        go_wp2_with fail
        go_ret
        exact ⟨by show Ending.returned (.bool (!(x == 0))) = Ending.returned (.bool (((strip xs).length : Int) == (n : Int))); rw [Q2.out, q1]; rfl, below_al (Below.refl _ _) _⟩
end Go.Proofs.YtdkmmnehlmaebaaGreatDoor.Na


/- The walk of the document's 'MayValue'. Conditions: the values can be read. -/
namespace Go.Proofs.YtdkmmnehlmaebaaGreatDoor.Se
open Go.RowKit Go.NT Go.FT Go.FX Go.Lib Na

theorem rmv_unknown (a : SV) (w : World) (HK : Hid (knownB a.s = false)) :
    Calls Tryz.prog 22 #[a.v] w fun e w' => e = .returned (.int .i64 9) ∧ Below w.heap.size w w' := by
  have hno : ∀ k : Int, knownB k = true → (a.s == k) = false := fun k hk => by
    cases e : a.s == k
    · rfl
    · have := HK.out; rw [eq_of_beq e, hk] at this; cases this
  have t1 := hno 1 rfl
  have t3 := hno 3 rfl
  have t2 := hno 2 rfl
  have t4 := hno 4 rfl
  have t5 := hno 5 rfl
  have t6 := hno 6 rfl
  clear hno
  unfold SV.v
  go_enter Tryz.func22, Tryz.ntmps22
  go_wp2_with fail
  go_ret
  exact ⟨rfl, below_al (Below.refl _ _) _⟩
theorem rmv_nat (a : SV) (w : World) (ha : a.ok w) (hs : a.s = 1 ∨ a.s = 3) :
    Calls Tryz.prog 22 #[a.v] w fun e w' => e = .returned (.int .i64 (if natMay a.b a.n a.xs then 0 else 16)) ∧ Below w.heap.size w w' := by
  have h0 := Lib.hid (below_al (Below.refl w.heap.size w) (.cells #[.int .i64 a.s, .bool a.b, .slice a.A a.n a.c, .int .i64 a.lv, .float .f64 a.x] 27))
  have HX := Lib.hid (ha.1.below h0.out)
  have HR : Hid (∀ w1, NV w1 a.A a.n a.c a.xs → Calls Tryz.prog 54 #[.agg #[.bool a.b, .slice a.A a.n a.c]] w1 fun e w' => e = .returned (.bool (natMay a.b a.n a.xs)) ∧ Below w1.heap.size w1 w') := Lib.hid (fun w1 h => Na.rmay_any a.b a.A a.n a.c a.xs w1 h)
  clear ha
  generalize natMay a.b a.n a.xs = M at *
  rcases hs with hs | hs
  · have t1 : (a.s == 1) = true := by rw [hs]; rfl
    clear hs
    cases M
    all_goals
      unfold SV.v
      go_enter Tryz.func22, Tryz.ntmps22
      go_wp2_with (go_at_call 54; (with_reducible refine (HR.out _ HX.out).mono ?_); rintro e w1 ⟨rfl, hb1⟩)
      go_ret
      exact ⟨rfl, below_go h0.out hb1⟩
  · have t1 : (a.s == 1) = false := by rw [hs]; rfl
    have t3 : (a.s == 3) = true := by rw [hs]; rfl
    clear hs
    cases M
    all_goals
      unfold SV.v
      go_enter Tryz.func22, Tryz.ntmps22
      go_wp2_with (go_at_call 54; (with_reducible refine (HR.out _ HX.out).mono ?_); rintro e w1 ⟨rfl, hb1⟩)
      go_ret
      exact ⟨rfl, below_go h0.out hb1⟩
theorem rmv_bool (a : SV) (w : World) (hs : a.s = 2) :
    Calls Tryz.prog 22 #[a.v] w fun e w' => e = .returned (.int .i64 (if decide (0 ≤ a.lv) && decide (a.lv ≤ topV a.s) then 0 else 16)) ∧ Below w.heap.size w w' := by
  have t1 : (a.s == 1) = false := by rw [hs]; rfl
  have t3 : (a.s == 3) = false := by rw [hs]; rfl
  have t2 : (a.s == 2) = true := by rw [hs]; rfl
  have hT : topV a.s = 1 := by rw [hs]; rfl
  rw [hT]
  have HE : Hid ((decide (0 ≤ a.lv) && decide (a.lv ≤ 1)) = (a.lv == 0 || a.lv == 1)) := Lib.hid (by
    rw [Bool.eq_iff_iff]; simp only [Bool.and_eq_true, decide_eq_true_eq, Bool.or_eq_true, beq_iff_eq]; omega)
  rw [HE.out]
  clear hs hT HE
  cases h1 : a.lv == 0
  · cases h2 : a.lv == 1
    all_goals
      unfold SV.v
      go_enter Tryz.func22, Tryz.ntmps22
      go_wp2_with fail
      go_ret
      exact ⟨rfl, below_al (Below.refl _ _) _⟩
  · unfold SV.v
    go_enter Tryz.func22, Tryz.ntmps22
    go_wp2_with fail
    go_ret
    exact ⟨rfl, below_al (Below.refl _ _) _⟩
theorem rmv_chain (a : SV) (w : World) (hs : a.s = 4) :
    Calls Tryz.prog 22 #[a.v] w fun e w' => e = .returned (.int .i64 (if decide (0 ≤ a.lv) && decide (a.lv ≤ topV a.s) then 0 else 16)) ∧ Below w.heap.size w w' := by
  have t1 : (a.s == 1) = false := by rw [hs]; rfl
  have t3 : (a.s == 3) = false := by rw [hs]; rfl
  have t2 : (a.s == 2) = false := by rw [hs]; rfl
  have t4 : (a.s == 4) = true := by rw [hs]; rfl
  have hT : topV a.s = 7 := by rw [hs]; rfl
  rw [hT]
  clear hs hT
  cases h1 : decide (0 ≤ a.lv)
  · unfold SV.v
    go_enter Tryz.func22, Tryz.ntmps22
    go_wp2_with fail
    go_ret
    exact ⟨rfl, below_al (Below.refl _ _) _⟩
  · cases h2 : decide (a.lv ≤ 7)
    all_goals
      unfold SV.v
      go_enter Tryz.func22, Tryz.ntmps22
      go_wp2_with fail
      go_ret
      exact ⟨rfl, below_al (Below.refl _ _) _⟩
end Go.Proofs.YtdkmmnehlmaebaaGreatDoor.Se


/- The walk of the document's 'MayValue' at doubles, and at any value. Conditions: the values can be read. -/
namespace Go.Proofs.YtdkmmnehlmaebaaGreatDoor.Se
open Go.RowKit Go.NT Go.FT Go.FX Go.Lib Na

theorem can_ok {x : Nat} (h : okB x INF = true) : can x = x := by
  have hI : INF < SGN := by decide
  have hS : SGN % SGN = 0 := by decide
  have : isN x = false := by
    unfold isN
    rcases of_decide_eq_true h with h | h
    · exact decide_eq_false (by rw [Nat.mod_eq_of_lt (by omega)]; omega)
    · subst h; rw [hS]; exact decide_eq_false (by omega)
  unfold can
  rw [this]; rfl
theorem sgn_test {x : Nat} (h : okB x INF = true) : decide ((x : Int) < 9223372036854775808) = decide (x ≤ INF) := by
  have hI : INF < SGN := by decide
  have hS : SGN = 9223372036854775808 := by decide
  rw [decide_eq_decide]
  rcases of_decide_eq_true h with h | h
  · constructor
    · intro _; exact h
    · intro _; omega
  · constructor
    · intro _; omega
    · intro _; omega
theorem dblE_at {s : Int} {x m : Nat} {b : Bool} (hm : dblM s = m) (h : decide (x ≤ m) = b) : dblE s x = if b then 0 else 16 := by unfold dblE; rw [hm, h]
set_option maxHeartbeats 1000000 in
theorem rmv_cost (a : SV) (w : World) (hx : a.x < W64) (hs : a.s = 6) :
    Calls Tryz.prog 22 #[a.v] w fun e w' => e = .returned (.int .i64 (dblE a.s a.x)) ∧ Below w.heap.size w w' := by
  have t1 : (a.s == 1) = false := by rw [hs]; rfl
  have t3 : (a.s == 3) = false := by rw [hs]; rfl
  have t2 : (a.s == 2) = false := by rw [hs]; rfl
  have t4 : (a.s == 4) = false := by rw [hs]; rfl
  have t5 : (a.s == 5) = false := by rw [hs]; rfl
  have t6 : (a.s == 6) = true := by rw [hs]; rfl
  have hM : dblM a.s = INF := by rw [hs]; rfl
  cases h : okB a.x INF
  · have h1 : (FloatKind.f64.format.order a.x 0 == some .gt || FloatKind.f64.format.order a.x 0 == some .eq) = false := (ge_zero hx).trans h
    have HE := Lib.hid (dblE_no (s := a.s) (x := a.x) (by rw [hM]; exact h))
    clear hs hM h hx
    unfold SV.v
    go_enter Tryz.func22, Tryz.ntmps22
    go_wp2_with fail
    go_ret
    exact ⟨by rw [HE.out]; rfl, below_al (Below.refl _ _) _⟩
  · have h1 : (FloatKind.f64.format.order a.x 0 == some .gt || FloatKind.f64.format.order a.x 0 == some .eq) = true := (ge_zero hx).trans h
    have hb := sgn_test h
    have HB := Lib.hid (fun w => rbits_any a.x w hx)
    rw [can_ok h] at HB
    cases hd : decide (a.x ≤ INF)
    all_goals
      rw [hd] at hb
      have HE := Lib.hid (dblE_at hM hd)
      clear hd
      clear hs hM h hx
      unfold SV.v
      go_enter Tryz.func22, Tryz.ntmps22
      go_wp2_with (go_at_call 55; (with_reducible refine (HB.out _).mono ?_); rintro e w1 ⟨rfl, rfl⟩)
      go_ret
      exact ⟨by rw [HE.out]; rfl, below_al (Below.refl _ _) _⟩
set_option maxHeartbeats 1000000 in
theorem rmv_best (a : SV) (w : World) (hx : a.x < W64) (hs : a.s = 5) :
    Calls Tryz.prog 22 #[a.v] w fun e w' => e = .returned (.int .i64 (dblE a.s a.x)) ∧ Below w.heap.size w w' := by
  have t1 : (a.s == 1) = false := by rw [hs]; rfl
  have t3 : (a.s == 3) = false := by rw [hs]; rfl
  have t2 : (a.s == 2) = false := by rw [hs]; rfl
  have t4 : (a.s == 4) = false := by rw [hs]; rfl
  have t5 : (a.s == 5) = true := by rw [hs]; rfl
  have hM : dblM a.s = ONE := by rw [hs]; rfl
  cases h : okB a.x INF
  · have h1 : (FloatKind.f64.format.order a.x 0 == some .gt || FloatKind.f64.format.order a.x 0 == some .eq) = false := (ge_zero hx).trans h
    have h4 : okB a.x ONE = false := by
      cases e : okB a.x ONE
      · rfl
      · rw [okB_mono e (by decide)] at h; cases h
    have HE := Lib.hid (dblE_no (s := a.s) (x := a.x) (by rw [hM]; exact h4))
    clear hs hM h hx h4
    unfold SV.v
    go_enter Tryz.func22, Tryz.ntmps22
    go_wp2_with fail
    go_ret
    exact ⟨by rw [HE.out]; rfl, below_al (Below.refl _ _) _⟩
  · have h1 : (FloatKind.f64.format.order a.x 0 == some .gt || FloatKind.f64.format.order a.x 0 == some .eq) = true := (ge_zero hx).trans h
    cases h4 : okB a.x ONE
    · have h2 : (FloatKind.f64.format.order a.x 4607182418800017408 == some .lt || FloatKind.f64.format.order a.x 4607182418800017408 == some .eq) = false := (le_most h (by decide)).trans h4
      have HE := Lib.hid (dblE_no (s := a.s) (x := a.x) (by rw [hM]; exact h4))
      clear hs hM h hx h4
      unfold SV.v
      go_enter Tryz.func22, Tryz.ntmps22
      go_wp2_with fail
      go_ret
      exact ⟨by rw [HE.out]; rfl, below_al (Below.refl _ _) _⟩
    · have h2 : (FloatKind.f64.format.order a.x 4607182418800017408 == some .lt || FloatKind.f64.format.order a.x 4607182418800017408 == some .eq) = true := (le_most h (by decide)).trans h4
      have hb := sgn_test h
      have hq : decide (a.x ≤ INF) = decide (a.x ≤ ONE) := by
        have hI : INF < SGN := by decide
        have hO : ONE < INF := by decide
        rw [decide_eq_decide]
        rcases of_decide_eq_true h4 with h | h
        · omega
        · omega
      rw [hq] at hb
      have HB := Lib.hid (fun w => rbits_any a.x w hx)
      rw [can_ok h] at HB
      clear hq
      cases hd : decide (a.x ≤ ONE)
      all_goals
        rw [hd] at hb
        have HE := Lib.hid (dblE_at hM hd)
        clear hd
        clear hs hM h hx h4
        unfold SV.v
        go_enter Tryz.func22, Tryz.ntmps22
        go_wp2_with (go_at_call 55; (with_reducible refine (HB.out _).mono ?_); rintro e w1 ⟨rfl, rfl⟩)
        go_ret
        exact ⟨by rw [HE.out]; rfl, below_al (Below.refl _ _) _⟩
theorem rmv_sv (a : SV) (w : World) (ha : a.ok w) : Calls Tryz.prog 22 #[a.v] w fun e w' => e = .returned (.int .i64 a.may) ∧ Below w.heap.size w w' := by
  unfold SV.may
  cases hk : knownB a.s
  · exact rmv_unknown a w (Lib.hid hk)
  · rcases known_cases hk with s | s | s | s | s | s
    · rw [show natB a.s = true by rw [s]; rfl]; exact rmv_nat a w ha (.inl s)
    · rw [show natB a.s = false by rw [s]; rfl, show levB a.s = true by rw [s]; rfl]; exact rmv_bool a w s
    · rw [show natB a.s = true by rw [s]; rfl]; exact rmv_nat a w ha (.inr s)
    · rw [show natB a.s = false by rw [s]; rfl, show levB a.s = true by rw [s]; rfl]; exact rmv_chain a w s
    · rw [show natB a.s = false by rw [s]; rfl, show levB a.s = false by rw [s]; rfl]; exact rmv_best a w ha.2 s
    · rw [show natB a.s = false by rw [s]; rfl, show levB a.s = false by rw [s]; rfl]; exact rmv_cost a w ha.2 s
end Go.Proofs.YtdkmmnehlmaebaaGreatDoor.Se
