/- The law SemiBack. Conditions: the library's tables are laid; the values can be read. -/
import Derived.Test.YtdkmmnehlmaebaaGreatDoorBb
namespace Go.Proofs.YtdkmmnehlmaebaaGreatDoor.Se
open Go.RowKit Go.NT Go.FT Go.FX Go.Lib Na

theorem decI_inj {u v : Int} (hu : 0 ≤ u) (hv : 0 ≤ v) (h : decI u = decI v) : u = v := by
  have h1 := dval_dec u.toNat
  have h2 := dval_dec v.toNat
  have h3 : decDigits u.toNat = decDigits v.toNat := h
  rw [h3, h2] at h1
  omega
theorem itoa_inj {u v : Int} (hu : 0 ≤ u ∧ u ≤ 7) (hv : 0 ≤ v ∧ v ≤ 7) (h : itoa u = itoa v) : u = v := by
  have h1 := (atoi_lev hu.1 hu.2).1
  have h2 := (atoi_lev hv.1 hv.2).1
  rw [h, h2] at h1
  injection h1 with h1
  exact h1.symm
theorem txtM_inj {m k : Option Int} (hm : ∀ v, m = some v → 0 ≤ v) (hk : ∀ v, k = some v → 0 ≤ v) (h : txtM m = txtM k) : m = k := by
  cases m with
  | none =>
    cases k with
    | none => rfl
    | some v => exact absurd (by rw [show decI v = [105, 110, 102] from h.symm]; rfl) (dec_first (v := v))
  | some u =>
    cases k with
    | none => exact absurd (by rw [show decI u = [105, 110, 102] from h]; rfl) (dec_first (v := u))
    | some v => rw [decI_inj (hm u rfl) (hk v rfl) h]
theorem txt_same {a b : SV} {w w' : World} (ha : a.ok w) (hb : b.ok w') (m1 : a.may = 0) (m2 : b.may = 0) (hs : a.s = b.s) : decide (a.txt = b.txt) = sameE a b := by
  have va := val_of_may ha m1
  have vb := val_of_may hb m2
  have e : sameE a b = sameC a.con b.con := by unfold sameE; rw [bothE_zero.2 ⟨m1, m2, hs⟩]; rfl
  rw [e]
  unfold SV.txt sameC
  rw [← hs, show a.con.s = a.s from rfl]
  cases h1 : natB a.s
  · cases h2 : levB a.s
    · rw [if_neg Bool.false_ne_true, if_neg Bool.false_ne_true, if_neg Bool.false_ne_true, if_neg Bool.false_ne_true, if_neg Bool.false_ne_true, if_neg Bool.false_ne_true]
      exact T_eq_same ha.2 hb.2
    · rw [if_neg Bool.false_ne_true, if_pos rfl, if_neg Bool.false_ne_true, if_pos rfl, if_neg Bool.false_ne_true, if_pos rfl]
      have k1 := lev_of_may m1 h1 h2
      have k2 := lev_of_may m2 (by rw [← hs]; exact h1) (by rw [← hs]; exact h2)
      have k3 : topV a.s ≤ 7 := by unfold topV; split <;> decide
      have k4 : topV b.s ≤ 7 := by unfold topV; split <;> decide
      show decide (itoa a.lv = itoa b.lv) = (a.lv == b.lv)
      rw [Bool.eq_iff_iff, decide_eq_true_iff, beq_iff_eq]
      exact ⟨itoa_inj ⟨k1.1, by omega⟩ ⟨k2.1, by omega⟩, fun h => by rw [h]⟩
  · rw [if_pos rfl, if_pos rfl, if_pos rfl]
    rw [decide_eq_decide]
    exact ⟨txtM_inj va.2.1 vb.2.1, fun h => by rw [show mean a.b a.xs = mean b.b b.xs from h]⟩
theorem T_ne (x : Nat) : T x ≠ [] := by
  intro e
  cases h : isN x
  · have h2 := T_fin h
    rw [e] at h2
    have h3 := (List.append_eq_nil_iff.1 h2.symm).2
    unfold body at h3
    split at h3
    · cases h3
    · exact FX.dec_ne _ (List.append_eq_nil_iff.1 h3).1
  · rw [T_nan h] at e; cases e
theorem txt_ne {a : SV} {w : World} (ha : a.ok w) (hm : a.may = 0) : a.txt ≠ [] := by
  unfold SV.txt
  cases h1 : natB a.s
  · cases h2 : levB a.s
    · rw [if_neg Bool.false_ne_true, if_neg Bool.false_ne_true]
      exact T_ne a.x
    · rw [if_neg Bool.false_ne_true, if_pos rfl]
      have k1 := lev_of_may hm h1 h2
      have k3 : topV a.s ≤ 7 := by unfold topV; split <;> decide
      intro e
      have := (atoi_lev k1.1 (show a.lv ≤ 7 by omega)).2
      rw [e] at this; cases this
  · rw [if_pos rfl]
    cases hc : mean a.b a.xs with
    | none => intro e; cases e
    | some v =>
      have hv := (val_of_may ha hm).2.1 v hc
      intro e
      have h2 := dval_dec v.toNat
      have e2 : decDigits v.toNat = [] := e
      exact FX.dec_ne v.toNat e2
theorem texts_is {S S2 : ByteArray} {a b : SV} {w w' : World} (ha : a.ok w) (hb : b.ok w') (m1 : a.may = 0) (m2 : b.may = 0) (hs : a.s = b.s) (h1 : S.data.toList = a.txt) (h2 : S2.data.toList = b.txt) : (S.toList == S2.toList) = sameE a b := by
  rw [texts_eq h1 h2, txt_same ha hb m1 m2 hs]
theorem named (l : List UInt8) : ∃ S : ByteArray, S.data.toList = l := ⟨⟨l.toArray⟩, by simp⟩
theorem same_b (a b : SV) (w : World) (ha : a.ok w) (hb : b.ok w) {Q : Bool} (h : Hid (sameE a b = Q)) : Calls Tryz.prog 23 #[a.v, b.v] w fun e w' => e = .returned (.bool Q) ∧ Below w.heap.size w w' := by
  have := same_sv a b w ha hb
  rwa [h.out] at this
set_option maxRecDepth 100000 in
set_option maxHeartbeats 4000000 in
theorem back_big (a b : SV) (w : World) (hl : Lay w) (ha : a.ok w) (hb : b.ok w) (hs : (decide (a.n ≤ 60) && decide (b.n ≤ 60)) = false) :
    Calls Tryz.prog 5 #[a.v, b.v] w fun e w' => e = .returned (.bool true) ∧ Below w.heap.size w w' := by
  have hs' := Lib.hid hs
  have hna := ha.1.2.2.2
  have hnb := hb.1.2.2.2
  have h2 := Lib.hid (boxed2 ha hb hl.tab _ rfl)
  have Fa := Lib.hid h2.out.1
  have Fb := Lib.hid h2.out.2.1
  have BB := Lib.hid h2.out.2.2.1
  have hL0 := Lib.hid hl
  have LL := Lib.hid (hl.below h2.out.2.2.1)
  clear hs ha hb hl h2
  unfold SV.v
  go_enter Tryz.func5, Tryz.ntmps5
  go_wp2_with (first
    | (go_at_call 6; (with_reducible refine (small2 _ a b _ false hs' hna hnb (by go_simp) (by go_simp)).mono ?_); rintro e w1 ⟨rfl, rfl⟩)
    | (go_at_call 7; (with_reducible refine (Se.awake_any _ LL.out.tab).mono ?_); rintro e wz ⟨rfl, hbz⟩))
  go_ret
  exact ⟨rfl, below_go BB.out hbz⟩
set_option maxRecDepth 100000 in
set_option maxHeartbeats 4000000 in
theorem back_no (a b : SV) (w : World) (hl : Lay w) (ha : a.ok w) (hb : b.ok w) (hs : (decide (a.n ≤ 60) && decide (b.n ≤ 60)) = true) (M : Int) (hM : (M != 0) = true) (hM2 : (M == 0) = false) (Ma : Hid (a.may = M)) :
    Calls Tryz.prog 5 #[a.v, b.v] w fun e w' => e = .returned (.bool true) ∧ Below w.heap.size w w' := by
  have hs' := Lib.hid hs
  have hna := ha.1.2.2.2
  have hnb := hb.1.2.2.2
  have h2 := Lib.hid (boxed2 ha hb hl.tab _ rfl)
  have Fa := Lib.hid h2.out.1
  have Fb := Lib.hid h2.out.2.1
  have BB := Lib.hid h2.out.2.2.1
  have hL0 := Lib.hid hl
  have LL := Lib.hid (hl.below h2.out.2.2.1)
  clear hs ha hb hl h2
  unfold SV.v
  go_enter Tryz.func5, Tryz.ntmps5
  go_wp2_with (first
    | (go_at_call 6; (with_reducible refine (small2 _ a b _ true hs' hna hnb (by go_simp) (by go_simp)).mono ?_); rintro e w1 ⟨rfl, rfl⟩)
    | (go_at_call 30; (with_reducible refine (text_no a _ Fa.out.ok M hM Ma).mono ?_); rintro e wt ⟨rfl, hbwt⟩; have BB := Lib.hid (below_go BB.out hbwt); have LL := Lib.hid (hL0.out.below BB.out); have Fa := Lib.hid (Fa.out.go hbwt); have Fb := Lib.hid (Fb.out.go hbwt); obtain ⟨a0, a1, a2, a3, a4, a5, _⟩ := Fa.out; obtain ⟨b0, b1, b2, b3, b4, b5, _⟩ := Fb.out)
    | (go_at_call 21; (with_reducible refine (may_is a _ Fa.out.ok Ma).mono ?_); rintro e wm ⟨rfl, hbwm⟩; have BB := Lib.hid (below_go BB.out hbwm); have LL := Lib.hid (hL0.out.below BB.out); have Fa := Lib.hid (Fa.out.go hbwm); have Fb := Lib.hid (Fb.out.go hbwm); obtain ⟨a0, a1, a2, a3, a4, a5, _⟩ := Fa.out; obtain ⟨b0, b1, b2, b3, b4, b5, _⟩ := Fb.out)
    | (go_at_call 22; (with_reducible refine (rmay_is a _ Fa.out.ok Ma).mono ?_); rintro e wn ⟨rfl, hbwn⟩; have BB := Lib.hid (below_go BB.out hbwn); have LL := Lib.hid (hL0.out.below BB.out); have Fa := Lib.hid (Fa.out.go hbwn); have Fb := Lib.hid (Fb.out.go hbwn); obtain ⟨a0, a1, a2, a3, a4, a5, _⟩ := Fa.out; obtain ⟨b0, b1, b2, b3, b4, b5, _⟩ := Fb.out)
    | (go_at_call 7; (with_reducible refine (Se.awake_any _ LL.out.tab).mono ?_); rintro e wz ⟨rfl, hbz⟩))
  go_ret
  exact ⟨rfl, below_go BB.out hbz⟩
set_option linter.unusedSimpArgs false in
set_option maxRecDepth 100000 in
set_option maxHeartbeats 8000000 in
theorem back_far (a b : SV) (w : World) (hl : Lay w) (ha : a.ok w) (hb : b.ok w) (hs : (decide (a.n ≤ 60) && decide (b.n ≤ 60)) = true) (Ma : Hid (a.may = 0)) (t1 : ¬ a.s = b.s) :
    Calls Tryz.prog 5 #[a.v, b.v] w fun e w' => e = .returned (.bool true) ∧ Below w.heap.size w w' := by
  have hs' := Lib.hid hs
  have hna := ha.1.2.2.2
  have hnb := hb.1.2.2.2
  have h2 := Lib.hid (boxed2 ha hb hl.tab _ rfl)
  have Fa := Lib.hid h2.out.1
  have Fb := Lib.hid h2.out.2.1
  have BB := Lib.hid h2.out.2.2.1
  have hL0 := Lib.hid hl
  have LL := Lib.hid (hl.below h2.out.2.2.1)
  have hN3 := hs
  rw [Bool.and_eq_true, decide_eq_true_iff, decide_eq_true_iff] at hN3
  have ha60 : a.n ≤ 60 := hN3.1
  have hb60 : b.n ≤ 60 := hN3.2
  have an40 : a.n ≤ 1099511627776 := by omega
  have bn40 : b.n ≤ 1099511627776 := by omega
  obtain ⟨S, hS⟩ := named a.txt
  have HS := Lib.hid hS
  have hne : (S.toList == []) = false := by
    rw [ByteArray.toList_eq, hS]
    cases e : (a.txt == [])
    · rfl
    · exact absurd (eq_of_beq e) (txt_ne ha Ma.out)
  have ha0 := Lib.hid ha
  have tn : (a.s != b.s) = true := by simpa using t1
  clear hN3 hs ha hb hl h2 hS
  obtain ⟨a0, a1, a2, a3, a4, a5, _⟩ := Fa.out
  obtain ⟨b0, b1, b2, b3, b4, b5, _⟩ := Fb.out
  unfold SV.v
  go_enter Tryz.func5, Tryz.ntmps5
  go_wp2_with (first
    | (go_at_call 6; (with_reducible refine (small2 _ a b _ true hs' hna hnb (by go_simp) (by go_simp)).mono ?_); rintro e w1 ⟨rfl, rfl⟩)
    | (go_at_call 30; (with_reducible refine (text_at a _ Fa.out.ok an40 LL.out Ma HS).mono ?_); rintro e wt ⟨rfl, hbwt⟩; have BB := Lib.hid (below_go BB.out hbwt); have LL := Lib.hid (hL0.out.below BB.out); have Fa := Lib.hid (Fa.out.go hbwt); have Fb := Lib.hid (Fb.out.go hbwt); obtain ⟨a0, a1, a2, a3, a4, a5, _⟩ := Fa.out; obtain ⟨b0, b1, b2, b3, b4, b5, _⟩ := Fb.out)
    | (go_at_call 21; (with_reducible refine (may_is a _ Fa.out.ok Ma).mono ?_); rintro e wm ⟨rfl, hbwm⟩; have BB := Lib.hid (below_go BB.out hbwm); have LL := Lib.hid (hL0.out.below BB.out); have Fa := Lib.hid (Fa.out.go hbwm); have Fb := Lib.hid (Fb.out.go hbwm); obtain ⟨a0, a1, a2, a3, a4, a5, _⟩ := Fa.out; obtain ⟨b0, b1, b2, b3, b4, b5, _⟩ := Fb.out)
    | (go_at_call 31; (with_reducible refine (parse_sv a S _ w ha0.out LL.out ha60 Ma HS hne).mono ?_); rintro e w_x ⟨x, rfl, xok, xS, xn, hbw_x⟩; have Hxok := Lib.hid xok; have hxn : x.n ≤ 1099511627776 := (Nat.le_trans xn.out (by decide)); have BB := Lib.hid (below_al (below_go BB.out hbw_x) (.cells #[.int .i64 x.s, .bool x.b, .slice x.A x.n x.c, .int .i64 x.lv, .float .f64 x.x] 27)); have LL := Lib.hid (hL0.out.below BB.out); have Fa := Lib.hid ((Fa.out.go hbw_x).al (.cells #[.int .i64 x.s, .bool x.b, .slice x.A x.n x.c, .int .i64 x.lv, .float .f64 x.x] 27)); have Fb := Lib.hid ((Fb.out.go hbw_x).al (.cells #[.int .i64 x.s, .bool x.b, .slice x.A x.n x.c, .int .i64 x.lv, .float .f64 x.x] 27)); have Fx := Lib.hid (five_new _ x Hxok.out); obtain ⟨a0, a1, a2, a3, a4, a5, _⟩ := Fa.out; obtain ⟨b0, b1, b2, b3, b4, b5, _⟩ := Fb.out))
  clear a0 a1 a2 a3 a4 a5 b0 b1 b2 b3 b4 b5
  have BB := Lib.hid (below_dr BB.out)
  have LL := Lib.hid (hL0.out.below BB.out)
  have Fa := Lib.hid Fa.out.drew
  have Fb := Lib.hid Fb.out.drew
  have Fx := Lib.hid Fx.out.drew
  refine wp_region_held_drew (S := fun w' => Five w' (w.heap.size) a ∧ Five w' (w.heap.size + 1) b ∧ Five w' (w_x.heap.size) x) (by kernel_rfl) ⟨Fa.out, Fb.out, Fx.out⟩ (fun hHeld => ?_)
  refine wpAnyH_take (i := 0) (v := (.int .i64 0)) rfl (by kernel_rfl) (by kernel_rfl) (by kernel_rfl) (fun _ _ _ h => h) (Or.inl ⟨by kernel_rfl, by intro w hSw; clear hSw; go_simp⟩) (by assumption) ?_
  try simp (config := { maxSteps := 10000000 }) only [Act.put, List.getElem_toArray, List.getElem_cons_zero, List.getElem_cons_succ, List.setIfInBounds_toArray, List.set_cons_zero, List.set_cons_succ]
  refine wpAnyH_take (i := 1) (v := (.bool true)) rfl (by kernel_rfl) (by kernel_rfl) (by kernel_rfl) (fun _ _ _ h => h) (Or.inl ⟨by kernel_rfl, by intro w hSw; clear hSw; go_simp⟩) (by assumption) ?_
  try simp (config := { maxSteps := 10000000 }) only [Act.put, List.getElem_toArray, List.getElem_cons_zero, List.getElem_cons_succ, List.setIfInBounds_toArray, List.set_cons_zero, List.set_cons_succ]
  refine wpAnyH_take (i := 2) (v := (.bool true)) rfl (by kernel_rfl) (by kernel_rfl) (by kernel_rfl) (fun _ _ _ h => h) (Or.inl ⟨by kernel_rfl, by intro w hSw; clear hSw; go_simp⟩) (by assumption) ?_
  try simp (config := { maxSteps := 10000000 }) only [Act.put, List.getElem_toArray, List.getElem_cons_zero, List.getElem_cons_succ, List.setIfInBounds_toArray, List.set_cons_zero, List.set_cons_succ]
  refine wpAnyH_take (i := 3) (v := (.agg #[.int .i64 x.s, .bool x.b, .slice x.A x.n x.c, .int .i64 x.lv, .float .f64 x.x])) rfl (by kernel_rfl) (by kernel_rfl) (by kernel_rfl) (fun _ _ _ h => h) (Or.inl ⟨by kernel_rfl, by intro w hSw; (try dsimp only at hSw); obtain ⟨hl0, hl1, hl2⟩ := hSw; obtain ⟨k0, k1, k2, k3, k4, _⟩ := hl2; clear hl0 hl1; go_simp⟩) (by assumption) ?_
  try simp (config := { maxSteps := 10000000 }) only [Act.put, List.getElem_toArray, List.getElem_cons_zero, List.getElem_cons_succ, List.setIfInBounds_toArray, List.set_cons_zero, List.set_cons_succ]
  refine wpAnyH_take (i := 4) (v := (.agg #[.int .i64 a.s, .bool a.b, .slice a.A a.n a.c, .int .i64 a.lv, .float .f64 a.x])) rfl (by kernel_rfl) (by kernel_rfl) (by kernel_rfl) (fun _ _ _ h => h) (Or.inl ⟨by kernel_rfl, by intro w hSw; (try dsimp only at hSw); obtain ⟨hl0, hl1, hl2⟩ := hSw; obtain ⟨k0, k1, k2, k3, k4, _⟩ := hl0; clear hl1 hl2; go_simp⟩) (by assumption) ?_
  try simp (config := { maxSteps := 10000000 }) only [Act.put, List.getElem_toArray, List.getElem_cons_zero, List.getElem_cons_succ, List.setIfInBounds_toArray, List.set_cons_zero, List.set_cons_succ]
  refine wpAnyH_ready (rs := [5]) (by kernel_rfl) (by simp) ?_
  refine AllReadyH.cons rfl (fun K hK => ?_) AllReadyH.nil
  go_simp
  go_at_call 23
  (with_reducible refine (same_yes x a _ Fx.out.ok Fa.out.ok xS).mono ?_); rintro e wk1 ⟨rfl, hbwk1⟩; have BB := Lib.hid (below_go BB.out hbwk1); have LL := Lib.hid (hL0.out.below BB.out); have Fa := Lib.hid (Fa.out.go hbwk1); have Fb := Lib.hid (Fb.out.go hbwk1); have Fx := Lib.hid (Fx.out.go hbwk1)
  go_wp2_with fail
  refine hK.out _ _ ⟨Fa.out, Fb.out, Fx.out⟩ (fun hHeld => ?_)
  clear hK K
  try simp (config := { maxSteps := 10000000 }) only [Act.put, List.getElem_toArray, List.getElem_cons_zero, List.getElem_cons_succ, List.setIfInBounds_toArray, List.set_cons_zero, List.set_cons_succ]
  refine wpAnyH_take (i := 6) (v := (.bool true)) rfl (by kernel_rfl) (by kernel_rfl) (by kernel_rfl) (fun _ _ _ h => h) (Or.inl ⟨by kernel_rfl, by intro w hSw; clear hSw; go_simp⟩) (by assumption) ?_
  try simp (config := { maxSteps := 10000000 }) only [Act.put, List.getElem_toArray, List.getElem_cons_zero, List.getElem_cons_succ, List.setIfInBounds_toArray, List.set_cons_zero, List.set_cons_succ]
  refine wpAnyH_take (i := 7) (v := (.bool true)) rfl (by kernel_rfl) (by kernel_rfl) (by kernel_rfl) (fun _ _ _ h => h) (Or.inl ⟨by kernel_rfl, by intro w hSw; clear hSw; go_simp⟩) (by assumption) ?_
  try simp (config := { maxSteps := 10000000 }) only [Act.put, List.getElem_toArray, List.getElem_cons_zero, List.getElem_cons_succ, List.setIfInBounds_toArray, List.set_cons_zero, List.set_cons_succ]
  refine wpAnyH_take (i := 8) (v := (.pointer (some ⟨w.heap.size, 0, none⟩))) rfl (by kernel_rfl) (by kernel_rfl) (by kernel_rfl) (fun _ _ _ h => h) (Or.inl ⟨by kernel_rfl, by intro w hSw; clear hSw; go_simp⟩) (by assumption) ?_
  try simp (config := { maxSteps := 10000000 }) only [Act.put, List.getElem_toArray, List.getElem_cons_zero, List.getElem_cons_succ, List.setIfInBounds_toArray, List.set_cons_zero, List.set_cons_succ]
  refine wpAnyH_take (i := 9) (v := (.int .i64 a.s)) rfl (by kernel_rfl) (by kernel_rfl) (by kernel_rfl) (fun _ _ _ h => h) (Or.inl ⟨by kernel_rfl, by intro w hSw; (try dsimp only at hSw); obtain ⟨hl0, hl1, hl2⟩ := hSw; obtain ⟨k0, k1, k2, k3, k4, _⟩ := hl0; clear hl1 hl2; go_simp⟩) (by assumption) ?_
  try simp (config := { maxSteps := 10000000 }) only [Act.put, List.getElem_toArray, List.getElem_cons_zero, List.getElem_cons_succ, List.setIfInBounds_toArray, List.set_cons_zero, List.set_cons_succ]
  refine wpAnyH_take (i := 10) (v := (.pointer (some ⟨w.heap.size + 1, 0, none⟩))) rfl (by kernel_rfl) (by kernel_rfl) (by kernel_rfl) (fun _ _ _ h => h) (Or.inl ⟨by kernel_rfl, by intro w hSw; clear hSw; go_simp⟩) (by assumption) ?_
  try simp (config := { maxSteps := 10000000 }) only [Act.put, List.getElem_toArray, List.getElem_cons_zero, List.getElem_cons_succ, List.setIfInBounds_toArray, List.set_cons_zero, List.set_cons_succ]
  refine wpAnyH_take (i := 11) (v := (.int .i64 b.s)) rfl (by kernel_rfl) (by kernel_rfl) (by kernel_rfl) (fun _ _ _ h => h) (Or.inl ⟨by kernel_rfl, by intro w hSw; (try dsimp only at hSw); obtain ⟨hl0, hl1, hl2⟩ := hSw; obtain ⟨k0, k1, k2, k3, k4, _⟩ := hl1; clear hl0 hl2; go_simp⟩) (by assumption) ?_
  try simp (config := { maxSteps := 10000000 }) only [Act.put, List.getElem_toArray, List.getElem_cons_zero, List.getElem_cons_succ, List.setIfInBounds_toArray, List.set_cons_zero, List.set_cons_succ]
  refine wpAnyH_take (i := 12) (v := (.bool true)) rfl (by kernel_rfl) (by kernel_rfl) (by kernel_rfl) (fun _ _ _ h => h) (Or.inl ⟨by kernel_rfl, by intro w hSw; clear hSw; go_simp⟩) (by assumption) ?_
  try simp (config := { maxSteps := 10000000 }) only [Act.put, List.getElem_toArray, List.getElem_cons_zero, List.getElem_cons_succ, List.setIfInBounds_toArray, List.set_cons_zero, List.set_cons_succ]
  refine wpAnyH_take (i := 13) (v := (.bool true)) rfl (by kernel_rfl) (by kernel_rfl) (by kernel_rfl) (fun _ _ _ h => h) (Or.inl ⟨by kernel_rfl, by intro w hSw; clear hSw; go_simp⟩) (by assumption) ?_
  try simp (config := { maxSteps := 10000000 }) only [Act.put, List.getElem_toArray, List.getElem_cons_zero, List.getElem_cons_succ, List.setIfInBounds_toArray, List.set_cons_zero, List.set_cons_succ]
  refine wpAnyH_take (i := 14) (v := undef) rfl (by kernel_rfl) (by kernel_rfl) (by kernel_rfl) (fun _ _ _ h => h) (Or.inr ⟨by kernel_rfl, rfl⟩) (by assumption) ?_
  try simp (config := { maxSteps := 10000000 }) only [Act.put, List.getElem_toArray, List.getElem_cons_zero, List.getElem_cons_succ, List.setIfInBounds_toArray, List.set_cons_zero, List.set_cons_succ]
  refine wpAnyH_take (i := 15) (v := undef) rfl (by kernel_rfl) (by kernel_rfl) (by kernel_rfl) (fun _ _ _ h => h) (Or.inr ⟨by kernel_rfl, rfl⟩) (by assumption) ?_
  try simp (config := { maxSteps := 10000000 }) only [Act.put, List.getElem_toArray, List.getElem_cons_zero, List.getElem_cons_succ, List.setIfInBounds_toArray, List.set_cons_zero, List.set_cons_succ]
  refine wpAnyH_take (i := 16) (v := undef) rfl (by kernel_rfl) (by kernel_rfl) (by kernel_rfl) (fun _ _ _ h => h) (Or.inr ⟨by kernel_rfl, rfl⟩) (by assumption) ?_
  try simp (config := { maxSteps := 10000000 }) only [Act.put, List.getElem_toArray, List.getElem_cons_zero, List.getElem_cons_succ, List.setIfInBounds_toArray, List.set_cons_zero, List.set_cons_succ]
  refine wpAnyH_take (i := 17) (v := (.bool true)) rfl (by kernel_rfl) (by kernel_rfl) (by kernel_rfl) (fun _ _ _ h => h) (Or.inl ⟨by kernel_rfl, by intro w hSw; clear hSw; go_simp⟩) (by assumption) ?_
  try simp (config := { maxSteps := 10000000 }) only [Act.put, List.getElem_toArray, List.getElem_cons_zero, List.getElem_cons_succ, List.setIfInBounds_toArray, List.set_cons_zero, List.set_cons_succ]
  refine wpAnyH_take (i := 18) (v := (.bool true)) rfl (by kernel_rfl) (by kernel_rfl) (by kernel_rfl) (fun _ _ _ h => h) (Or.inl ⟨by kernel_rfl, by intro w hSw; clear hSw; go_simp⟩) (by assumption) ?_
  try simp (config := { maxSteps := 10000000 }) only [Act.put, List.getElem_toArray, List.getElem_cons_zero, List.getElem_cons_succ, List.setIfInBounds_toArray, List.set_cons_zero, List.set_cons_succ]
  refine wpAnyH_take (i := 19) (v := undef) rfl (by kernel_rfl) (by kernel_rfl) (by kernel_rfl) (fun _ _ _ h => h) (Or.inr ⟨by kernel_rfl, rfl⟩) (by assumption) ?_
  try simp (config := { maxSteps := 10000000 }) only [Act.put, List.getElem_toArray, List.getElem_cons_zero, List.getElem_cons_succ, List.setIfInBounds_toArray, List.set_cons_zero, List.set_cons_succ]
  refine wpAnyH_take (i := 20) (v := undef) rfl (by kernel_rfl) (by kernel_rfl) (by kernel_rfl) (fun _ _ _ h => h) (Or.inr ⟨by kernel_rfl, rfl⟩) (by assumption) ?_
  try simp (config := { maxSteps := 10000000 }) only [Act.put, List.getElem_toArray, List.getElem_cons_zero, List.getElem_cons_succ, List.setIfInBounds_toArray, List.set_cons_zero, List.set_cons_succ]
  refine wpAnyH_take (i := 21) (v := undef) rfl (by kernel_rfl) (by kernel_rfl) (by kernel_rfl) (fun _ _ _ h => h) (Or.inr ⟨by kernel_rfl, rfl⟩) (by assumption) ?_
  try simp (config := { maxSteps := 10000000 }) only [Act.put, List.getElem_toArray, List.getElem_cons_zero, List.getElem_cons_succ, List.setIfInBounds_toArray, List.set_cons_zero, List.set_cons_succ]
  refine wpAnyH_take (i := 22) (v := undef) rfl (by kernel_rfl) (by kernel_rfl) (by kernel_rfl) (fun _ _ _ h => h) (Or.inr ⟨by kernel_rfl, rfl⟩) (by assumption) ?_
  try simp (config := { maxSteps := 10000000 }) only [Act.put, List.getElem_toArray, List.getElem_cons_zero, List.getElem_cons_succ, List.setIfInBounds_toArray, List.set_cons_zero, List.set_cons_succ]
  refine wpAnyH_take (i := 23) (v := undef) rfl (by kernel_rfl) (by kernel_rfl) (by kernel_rfl) (fun _ _ _ h => h) (Or.inr ⟨by kernel_rfl, rfl⟩) (by assumption) ?_
  try simp (config := { maxSteps := 10000000 }) only [Act.put, List.getElem_toArray, List.getElem_cons_zero, List.getElem_cons_succ, List.setIfInBounds_toArray, List.set_cons_zero, List.set_cons_succ]
  refine wpAnyH_take (i := 24) (v := undef) rfl (by kernel_rfl) (by kernel_rfl) (by kernel_rfl) (fun _ _ _ h => h) (Or.inr ⟨by kernel_rfl, rfl⟩) (by assumption) ?_
  try simp (config := { maxSteps := 10000000 }) only [Act.put, List.getElem_toArray, List.getElem_cons_zero, List.getElem_cons_succ, List.setIfInBounds_toArray, List.set_cons_zero, List.set_cons_succ]
  refine wpAnyH_take (i := 25) (v := undef) rfl (by kernel_rfl) (by kernel_rfl) (by kernel_rfl) (fun _ _ _ h => h) (Or.inr ⟨by kernel_rfl, rfl⟩) (by assumption) ?_
  try simp (config := { maxSteps := 10000000 }) only [Act.put, List.getElem_toArray, List.getElem_cons_zero, List.getElem_cons_succ, List.setIfInBounds_toArray, List.set_cons_zero, List.set_cons_succ]
  refine wpAnyH_take (i := 26) (v := undef) rfl (by kernel_rfl) (by kernel_rfl) (by kernel_rfl) (fun _ _ _ h => h) (Or.inr ⟨by kernel_rfl, rfl⟩) (by assumption) ?_
  try simp (config := { maxSteps := 10000000 }) only [Act.put, List.getElem_toArray, List.getElem_cons_zero, List.getElem_cons_succ, List.setIfInBounds_toArray, List.set_cons_zero, List.set_cons_succ]
  refine wpAnyH_take (i := 27) (v := (.bool true)) rfl (by kernel_rfl) (by kernel_rfl) (by kernel_rfl) (fun _ _ _ h => h) (Or.inl ⟨by kernel_rfl, by intro w hSw; clear hSw; go_simp⟩) (by assumption) ?_
  try simp (config := { maxSteps := 10000000 }) only [Act.put, List.getElem_toArray, List.getElem_cons_zero, List.getElem_cons_succ, List.setIfInBounds_toArray, List.set_cons_zero, List.set_cons_succ]
  refine wpAnyH_take (i := 28) (v := (.bool true)) rfl (by kernel_rfl) (by kernel_rfl) (by kernel_rfl) (fun _ _ _ h => h) (Or.inl ⟨by kernel_rfl, by intro w hSw; clear hSw; go_simp⟩) (by assumption) ?_
  try simp (config := { maxSteps := 10000000 }) only [Act.put, List.getElem_toArray, List.getElem_cons_zero, List.getElem_cons_succ, List.setIfInBounds_toArray, List.set_cons_zero, List.set_cons_succ]
  refine wpAnyH_take (i := 29) (v := (.bool true)) rfl (by kernel_rfl) (by kernel_rfl) (by kernel_rfl) (fun _ _ _ h => h) (Or.inl ⟨by kernel_rfl, by intro w hSw; clear hSw; go_simp⟩) (by assumption) ?_
  try simp (config := { maxSteps := 10000000 }) only [Act.put, List.getElem_toArray, List.getElem_cons_zero, List.getElem_cons_succ, List.setIfInBounds_toArray, List.set_cons_zero, List.set_cons_succ]
  refine wpAnyH_ready (rs := [30]) (by kernel_rfl) (by simp) ?_
  refine AllReadyH.cons rfl (fun K hK => ?_) AllReadyH.nil
  go_simp
  go_at_call 7
  (with_reducible refine (Se.awake_any _ LL.out.tab).mono ?_); rintro e wk2 ⟨rfl, hbwk2⟩; have BB := Lib.hid (below_go BB.out hbwk2); have LL := Lib.hid (hL0.out.below BB.out); have Fa := Lib.hid (Fa.out.go hbwk2); have Fb := Lib.hid (Fb.out.go hbwk2); have Fx := Lib.hid (Fx.out.go hbwk2)
  go_wp2_with fail
  refine hK.out _ _ ⟨Fa.out, Fb.out, Fx.out⟩ (fun hHeld => ?_)
  clear hK K
  try simp (config := { maxSteps := 10000000 }) only [Act.put, List.getElem_toArray, List.getElem_cons_zero, List.getElem_cons_succ, List.setIfInBounds_toArray, List.set_cons_zero, List.set_cons_succ]
  refine wpAnyH_take (i := 31) (v := (.bool true)) rfl (by kernel_rfl) (by kernel_rfl) (by kernel_rfl) (fun _ _ _ h => h) (Or.inl ⟨by kernel_rfl, by intro w hSw; clear hSw; go_simp⟩) (by assumption) ?_
  try simp (config := { maxSteps := 10000000 }) only [Act.put, List.getElem_toArray, List.getElem_cons_zero, List.getElem_cons_succ, List.setIfInBounds_toArray, List.set_cons_zero, List.set_cons_succ]
  refine wpAnyH_take (i := 32) (v := (.bool true)) rfl (by kernel_rfl) (by kernel_rfl) (by kernel_rfl) (fun _ _ _ h => h) (Or.inl ⟨by kernel_rfl, by intro w hSw; clear hSw; go_simp⟩) (by assumption) ?_
  try simp (config := { maxSteps := 10000000 }) only [Act.put, List.getElem_toArray, List.getElem_cons_zero, List.getElem_cons_succ, List.setIfInBounds_toArray, List.set_cons_zero, List.set_cons_succ]
  refine wpAnyH_done (by kernel_rfl) ?_ _
  go_wp2_with fail
  go_ret
  exact ⟨rfl, BB.out⟩
set_option linter.unusedSimpArgs false in
set_option maxRecDepth 100000 in
set_option maxHeartbeats 8000000 in
theorem back_bad (a b : SV) (w : World) (hl : Lay w) (ha : a.ok w) (hb : b.ok w) (hs : (decide (a.n ≤ 60) && decide (b.n ≤ 60)) = true) (Ma : Hid (a.may = 0)) (t1 : a.s = b.s) (M : Int) (hM : (M != 0) = true) (hM2 : (M == 0) = false) (Mb : Hid (b.may = M)) :
    Calls Tryz.prog 5 #[a.v, b.v] w fun e w' => e = .returned (.bool true) ∧ Below w.heap.size w w' := by
  have hs' := Lib.hid hs
  have hna := ha.1.2.2.2
  have hnb := hb.1.2.2.2
  have h2 := Lib.hid (boxed2 ha hb hl.tab _ rfl)
  have Fa := Lib.hid h2.out.1
  have Fb := Lib.hid h2.out.2.1
  have BB := Lib.hid h2.out.2.2.1
  have hL0 := Lib.hid hl
  have LL := Lib.hid (hl.below h2.out.2.2.1)
  have hN3 := hs
  rw [Bool.and_eq_true, decide_eq_true_iff, decide_eq_true_iff] at hN3
  have ha60 : a.n ≤ 60 := hN3.1
  have hb60 : b.n ≤ 60 := hN3.2
  have an40 : a.n ≤ 1099511627776 := by omega
  have bn40 : b.n ≤ 1099511627776 := by omega
  obtain ⟨S, hS⟩ := named a.txt
  have HS := Lib.hid hS
  have hne : (S.toList == []) = false := by
    rw [ByteArray.toList_eq, hS]
    cases e : (a.txt == [])
    · rfl
    · exact absurd (eq_of_beq e) (txt_ne ha Ma.out)
  have ha0 := Lib.hid ha
  have tn : (a.s != b.s) = false := by rw [t1]; simp
  clear hN3 hs ha hb hl h2 hS t1
  obtain ⟨a0, a1, a2, a3, a4, a5, _⟩ := Fa.out
  obtain ⟨b0, b1, b2, b3, b4, b5, _⟩ := Fb.out
  unfold SV.v
  go_enter Tryz.func5, Tryz.ntmps5
  go_wp2_with (first
    | (go_at_call 6; (with_reducible refine (small2 _ a b _ true hs' hna hnb (by go_simp) (by go_simp)).mono ?_); rintro e w1 ⟨rfl, rfl⟩)
    | (go_at_call 30; (with_reducible refine (text_at a _ Fa.out.ok an40 LL.out Ma HS).mono ?_); rintro e wt ⟨rfl, hbwt⟩; have BB := Lib.hid (below_go BB.out hbwt); have LL := Lib.hid (hL0.out.below BB.out); have Fa := Lib.hid (Fa.out.go hbwt); have Fb := Lib.hid (Fb.out.go hbwt); obtain ⟨a0, a1, a2, a3, a4, a5, _⟩ := Fa.out; obtain ⟨b0, b1, b2, b3, b4, b5, _⟩ := Fb.out)
    | (go_at_call 21; (with_reducible refine (may_is a _ Fa.out.ok Ma).mono ?_); rintro e wm ⟨rfl, hbwm⟩; have BB := Lib.hid (below_go BB.out hbwm); have LL := Lib.hid (hL0.out.below BB.out); have Fa := Lib.hid (Fa.out.go hbwm); have Fb := Lib.hid (Fb.out.go hbwm); obtain ⟨a0, a1, a2, a3, a4, a5, _⟩ := Fa.out; obtain ⟨b0, b1, b2, b3, b4, b5, _⟩ := Fb.out)
    | (go_at_call 31; (with_reducible refine (parse_sv a S _ w ha0.out LL.out ha60 Ma HS hne).mono ?_); rintro e w_x ⟨x, rfl, xok, xS, xn, hbw_x⟩; have Hxok := Lib.hid xok; have hxn : x.n ≤ 1099511627776 := (Nat.le_trans xn.out (by decide)); have BB := Lib.hid (below_al (below_go BB.out hbw_x) (.cells #[.int .i64 x.s, .bool x.b, .slice x.A x.n x.c, .int .i64 x.lv, .float .f64 x.x] 27)); have LL := Lib.hid (hL0.out.below BB.out); have Fa := Lib.hid ((Fa.out.go hbw_x).al (.cells #[.int .i64 x.s, .bool x.b, .slice x.A x.n x.c, .int .i64 x.lv, .float .f64 x.x] 27)); have Fb := Lib.hid ((Fb.out.go hbw_x).al (.cells #[.int .i64 x.s, .bool x.b, .slice x.A x.n x.c, .int .i64 x.lv, .float .f64 x.x] 27)); have Fx := Lib.hid (five_new _ x Hxok.out); obtain ⟨a0, a1, a2, a3, a4, a5, _⟩ := Fa.out; obtain ⟨b0, b1, b2, b3, b4, b5, _⟩ := Fb.out))
  clear a0 a1 a2 a3 a4 a5 b0 b1 b2 b3 b4 b5
  have BB := Lib.hid (below_dr BB.out)
  have LL := Lib.hid (hL0.out.below BB.out)
  have Fa := Lib.hid Fa.out.drew
  have Fb := Lib.hid Fb.out.drew
  have Fx := Lib.hid Fx.out.drew
  refine wp_region_held_drew (S := fun w' => Five w' (w.heap.size) a ∧ Five w' (w.heap.size + 1) b ∧ Five w' (w_x.heap.size) x) (by kernel_rfl) ⟨Fa.out, Fb.out, Fx.out⟩ (fun hHeld => ?_)
  refine wpAnyH_take (i := 0) (v := (.int .i64 0)) rfl (by kernel_rfl) (by kernel_rfl) (by kernel_rfl) (fun _ _ _ h => h) (Or.inl ⟨by kernel_rfl, by intro w hSw; clear hSw; go_simp⟩) (by assumption) ?_
  try simp (config := { maxSteps := 10000000 }) only [Act.put, List.getElem_toArray, List.getElem_cons_zero, List.getElem_cons_succ, List.setIfInBounds_toArray, List.set_cons_zero, List.set_cons_succ]
  refine wpAnyH_take (i := 1) (v := (.bool true)) rfl (by kernel_rfl) (by kernel_rfl) (by kernel_rfl) (fun _ _ _ h => h) (Or.inl ⟨by kernel_rfl, by intro w hSw; clear hSw; go_simp⟩) (by assumption) ?_
  try simp (config := { maxSteps := 10000000 }) only [Act.put, List.getElem_toArray, List.getElem_cons_zero, List.getElem_cons_succ, List.setIfInBounds_toArray, List.set_cons_zero, List.set_cons_succ]
  refine wpAnyH_take (i := 2) (v := (.bool true)) rfl (by kernel_rfl) (by kernel_rfl) (by kernel_rfl) (fun _ _ _ h => h) (Or.inl ⟨by kernel_rfl, by intro w hSw; clear hSw; go_simp⟩) (by assumption) ?_
  try simp (config := { maxSteps := 10000000 }) only [Act.put, List.getElem_toArray, List.getElem_cons_zero, List.getElem_cons_succ, List.setIfInBounds_toArray, List.set_cons_zero, List.set_cons_succ]
  refine wpAnyH_take (i := 3) (v := (.agg #[.int .i64 x.s, .bool x.b, .slice x.A x.n x.c, .int .i64 x.lv, .float .f64 x.x])) rfl (by kernel_rfl) (by kernel_rfl) (by kernel_rfl) (fun _ _ _ h => h) (Or.inl ⟨by kernel_rfl, by intro w hSw; (try dsimp only at hSw); obtain ⟨hl0, hl1, hl2⟩ := hSw; obtain ⟨k0, k1, k2, k3, k4, _⟩ := hl2; clear hl0 hl1; go_simp⟩) (by assumption) ?_
  try simp (config := { maxSteps := 10000000 }) only [Act.put, List.getElem_toArray, List.getElem_cons_zero, List.getElem_cons_succ, List.setIfInBounds_toArray, List.set_cons_zero, List.set_cons_succ]
  refine wpAnyH_take (i := 4) (v := (.agg #[.int .i64 a.s, .bool a.b, .slice a.A a.n a.c, .int .i64 a.lv, .float .f64 a.x])) rfl (by kernel_rfl) (by kernel_rfl) (by kernel_rfl) (fun _ _ _ h => h) (Or.inl ⟨by kernel_rfl, by intro w hSw; (try dsimp only at hSw); obtain ⟨hl0, hl1, hl2⟩ := hSw; obtain ⟨k0, k1, k2, k3, k4, _⟩ := hl0; clear hl1 hl2; go_simp⟩) (by assumption) ?_
  try simp (config := { maxSteps := 10000000 }) only [Act.put, List.getElem_toArray, List.getElem_cons_zero, List.getElem_cons_succ, List.setIfInBounds_toArray, List.set_cons_zero, List.set_cons_succ]
  refine wpAnyH_ready (rs := [5]) (by kernel_rfl) (by simp) ?_
  refine AllReadyH.cons rfl (fun K hK => ?_) AllReadyH.nil
  go_simp
  go_at_call 23
  (with_reducible refine (same_yes x a _ Fx.out.ok Fa.out.ok xS).mono ?_); rintro e wk1 ⟨rfl, hbwk1⟩; have BB := Lib.hid (below_go BB.out hbwk1); have LL := Lib.hid (hL0.out.below BB.out); have Fa := Lib.hid (Fa.out.go hbwk1); have Fb := Lib.hid (Fb.out.go hbwk1); have Fx := Lib.hid (Fx.out.go hbwk1)
  go_wp2_with fail
  refine hK.out _ _ ⟨Fa.out, Fb.out, Fx.out⟩ (fun hHeld => ?_)
  clear hK K
  try simp (config := { maxSteps := 10000000 }) only [Act.put, List.getElem_toArray, List.getElem_cons_zero, List.getElem_cons_succ, List.setIfInBounds_toArray, List.set_cons_zero, List.set_cons_succ]
  refine wpAnyH_take (i := 6) (v := (.bool true)) rfl (by kernel_rfl) (by kernel_rfl) (by kernel_rfl) (fun _ _ _ h => h) (Or.inl ⟨by kernel_rfl, by intro w hSw; clear hSw; go_simp⟩) (by assumption) ?_
  try simp (config := { maxSteps := 10000000 }) only [Act.put, List.getElem_toArray, List.getElem_cons_zero, List.getElem_cons_succ, List.setIfInBounds_toArray, List.set_cons_zero, List.set_cons_succ]
  refine wpAnyH_take (i := 7) (v := (.bool true)) rfl (by kernel_rfl) (by kernel_rfl) (by kernel_rfl) (fun _ _ _ h => h) (Or.inl ⟨by kernel_rfl, by intro w hSw; clear hSw; go_simp⟩) (by assumption) ?_
  try simp (config := { maxSteps := 10000000 }) only [Act.put, List.getElem_toArray, List.getElem_cons_zero, List.getElem_cons_succ, List.setIfInBounds_toArray, List.set_cons_zero, List.set_cons_succ]
  refine wpAnyH_take (i := 8) (v := (.pointer (some ⟨w.heap.size, 0, none⟩))) rfl (by kernel_rfl) (by kernel_rfl) (by kernel_rfl) (fun _ _ _ h => h) (Or.inl ⟨by kernel_rfl, by intro w hSw; clear hSw; go_simp⟩) (by assumption) ?_
  try simp (config := { maxSteps := 10000000 }) only [Act.put, List.getElem_toArray, List.getElem_cons_zero, List.getElem_cons_succ, List.setIfInBounds_toArray, List.set_cons_zero, List.set_cons_succ]
  refine wpAnyH_take (i := 9) (v := (.int .i64 a.s)) rfl (by kernel_rfl) (by kernel_rfl) (by kernel_rfl) (fun _ _ _ h => h) (Or.inl ⟨by kernel_rfl, by intro w hSw; (try dsimp only at hSw); obtain ⟨hl0, hl1, hl2⟩ := hSw; obtain ⟨k0, k1, k2, k3, k4, _⟩ := hl0; clear hl1 hl2; go_simp⟩) (by assumption) ?_
  try simp (config := { maxSteps := 10000000 }) only [Act.put, List.getElem_toArray, List.getElem_cons_zero, List.getElem_cons_succ, List.setIfInBounds_toArray, List.set_cons_zero, List.set_cons_succ]
  refine wpAnyH_take (i := 10) (v := (.pointer (some ⟨w.heap.size + 1, 0, none⟩))) rfl (by kernel_rfl) (by kernel_rfl) (by kernel_rfl) (fun _ _ _ h => h) (Or.inl ⟨by kernel_rfl, by intro w hSw; clear hSw; go_simp⟩) (by assumption) ?_
  try simp (config := { maxSteps := 10000000 }) only [Act.put, List.getElem_toArray, List.getElem_cons_zero, List.getElem_cons_succ, List.setIfInBounds_toArray, List.set_cons_zero, List.set_cons_succ]
  refine wpAnyH_take (i := 11) (v := (.int .i64 b.s)) rfl (by kernel_rfl) (by kernel_rfl) (by kernel_rfl) (fun _ _ _ h => h) (Or.inl ⟨by kernel_rfl, by intro w hSw; (try dsimp only at hSw); obtain ⟨hl0, hl1, hl2⟩ := hSw; obtain ⟨k0, k1, k2, k3, k4, _⟩ := hl1; clear hl0 hl2; go_simp⟩) (by assumption) ?_
  try simp (config := { maxSteps := 10000000 }) only [Act.put, List.getElem_toArray, List.getElem_cons_zero, List.getElem_cons_succ, List.setIfInBounds_toArray, List.set_cons_zero, List.set_cons_succ]
  refine wpAnyH_take (i := 12) (v := (.bool false)) rfl (by kernel_rfl) (by kernel_rfl) (by kernel_rfl) (fun _ _ _ h => h) (Or.inl ⟨by kernel_rfl, by intro w hSw; clear hSw; go_simp⟩) (by assumption) ?_
  try simp (config := { maxSteps := 10000000 }) only [Act.put, List.getElem_toArray, List.getElem_cons_zero, List.getElem_cons_succ, List.setIfInBounds_toArray, List.set_cons_zero, List.set_cons_succ]
  refine wpAnyH_take (i := 13) (v := (.bool false)) rfl (by kernel_rfl) (by kernel_rfl) (by kernel_rfl) (fun _ _ _ h => h) (Or.inl ⟨by kernel_rfl, by intro w hSw; clear hSw; go_simp⟩) (by assumption) ?_
  try simp (config := { maxSteps := 10000000 }) only [Act.put, List.getElem_toArray, List.getElem_cons_zero, List.getElem_cons_succ, List.setIfInBounds_toArray, List.set_cons_zero, List.set_cons_succ]
  refine wpAnyH_take (i := 14) (v := (.agg #[.int .i64 b.s, .bool b.b, .slice b.A b.n b.c, .int .i64 b.lv, .float .f64 b.x])) rfl (by kernel_rfl) (by kernel_rfl) (by kernel_rfl) (fun _ _ _ h => h) (Or.inl ⟨by kernel_rfl, by intro w hSw; (try dsimp only at hSw); obtain ⟨hl0, hl1, hl2⟩ := hSw; obtain ⟨k0, k1, k2, k3, k4, _⟩ := hl1; clear hl0 hl2; go_simp⟩) (by assumption) ?_
  try simp (config := { maxSteps := 10000000 }) only [Act.put, List.getElem_toArray, List.getElem_cons_zero, List.getElem_cons_succ, List.setIfInBounds_toArray, List.set_cons_zero, List.set_cons_succ]
  refine wpAnyH_ready (rs := [15]) (by kernel_rfl) (by simp) ?_
  refine AllReadyH.cons rfl (fun K hK => ?_) AllReadyH.nil
  go_simp
  go_at_call 21
  (with_reducible refine (may_is b _ Fb.out.ok Mb).mono ?_); rintro e wk2 ⟨rfl, hbwk2⟩; have BB := Lib.hid (below_go BB.out hbwk2); have LL := Lib.hid (hL0.out.below BB.out); have Fa := Lib.hid (Fa.out.go hbwk2); have Fb := Lib.hid (Fb.out.go hbwk2); have Fx := Lib.hid (Fx.out.go hbwk2)
  go_wp2_with fail
  refine hK.out _ _ ⟨Fa.out, Fb.out, Fx.out⟩ (fun hHeld => ?_)
  clear hK K
  try simp (config := { maxSteps := 10000000 }) only [Act.put, List.getElem_toArray, List.getElem_cons_zero, List.getElem_cons_succ, List.setIfInBounds_toArray, List.set_cons_zero, List.set_cons_succ]
  refine wpAnyH_take (i := 16) (v := (.bool true)) rfl (by kernel_rfl) (by kernel_rfl) (by kernel_rfl) (fun _ _ _ h => h) (Or.inl ⟨by kernel_rfl, by intro w hSw; clear hSw; go_simp⟩) (by assumption) ?_
  try simp (config := { maxSteps := 10000000 }) only [Act.put, List.getElem_toArray, List.getElem_cons_zero, List.getElem_cons_succ, List.setIfInBounds_toArray, List.set_cons_zero, List.set_cons_succ]
  refine wpAnyH_take (i := 17) (v := (.bool true)) rfl (by kernel_rfl) (by kernel_rfl) (by kernel_rfl) (fun _ _ _ h => h) (Or.inl ⟨by kernel_rfl, by intro w hSw; clear hSw; go_simp⟩) (by assumption) ?_
  try simp (config := { maxSteps := 10000000 }) only [Act.put, List.getElem_toArray, List.getElem_cons_zero, List.getElem_cons_succ, List.setIfInBounds_toArray, List.set_cons_zero, List.set_cons_succ]
  refine wpAnyH_take (i := 18) (v := (.bool true)) rfl (by kernel_rfl) (by kernel_rfl) (by kernel_rfl) (fun _ _ _ h => h) (Or.inl ⟨by kernel_rfl, by intro w hSw; clear hSw; go_simp⟩) (by assumption) ?_
  try simp (config := { maxSteps := 10000000 }) only [Act.put, List.getElem_toArray, List.getElem_cons_zero, List.getElem_cons_succ, List.setIfInBounds_toArray, List.set_cons_zero, List.set_cons_succ]
  refine wpAnyH_take (i := 19) (v := undef) rfl (by kernel_rfl) (by kernel_rfl) (by kernel_rfl) (fun _ _ _ h => h) (Or.inr ⟨by kernel_rfl, rfl⟩) (by assumption) ?_
  try simp (config := { maxSteps := 10000000 }) only [Act.put, List.getElem_toArray, List.getElem_cons_zero, List.getElem_cons_succ, List.setIfInBounds_toArray, List.set_cons_zero, List.set_cons_succ]
  refine wpAnyH_take (i := 20) (v := undef) rfl (by kernel_rfl) (by kernel_rfl) (by kernel_rfl) (fun _ _ _ h => h) (Or.inr ⟨by kernel_rfl, rfl⟩) (by assumption) ?_
  try simp (config := { maxSteps := 10000000 }) only [Act.put, List.getElem_toArray, List.getElem_cons_zero, List.getElem_cons_succ, List.setIfInBounds_toArray, List.set_cons_zero, List.set_cons_succ]
  refine wpAnyH_take (i := 21) (v := undef) rfl (by kernel_rfl) (by kernel_rfl) (by kernel_rfl) (fun _ _ _ h => h) (Or.inr ⟨by kernel_rfl, rfl⟩) (by assumption) ?_
  try simp (config := { maxSteps := 10000000 }) only [Act.put, List.getElem_toArray, List.getElem_cons_zero, List.getElem_cons_succ, List.setIfInBounds_toArray, List.set_cons_zero, List.set_cons_succ]
  refine wpAnyH_take (i := 22) (v := undef) rfl (by kernel_rfl) (by kernel_rfl) (by kernel_rfl) (fun _ _ _ h => h) (Or.inr ⟨by kernel_rfl, rfl⟩) (by assumption) ?_
  try simp (config := { maxSteps := 10000000 }) only [Act.put, List.getElem_toArray, List.getElem_cons_zero, List.getElem_cons_succ, List.setIfInBounds_toArray, List.set_cons_zero, List.set_cons_succ]
  refine wpAnyH_take (i := 23) (v := undef) rfl (by kernel_rfl) (by kernel_rfl) (by kernel_rfl) (fun _ _ _ h => h) (Or.inr ⟨by kernel_rfl, rfl⟩) (by assumption) ?_
  try simp (config := { maxSteps := 10000000 }) only [Act.put, List.getElem_toArray, List.getElem_cons_zero, List.getElem_cons_succ, List.setIfInBounds_toArray, List.set_cons_zero, List.set_cons_succ]
  refine wpAnyH_take (i := 24) (v := undef) rfl (by kernel_rfl) (by kernel_rfl) (by kernel_rfl) (fun _ _ _ h => h) (Or.inr ⟨by kernel_rfl, rfl⟩) (by assumption) ?_
  try simp (config := { maxSteps := 10000000 }) only [Act.put, List.getElem_toArray, List.getElem_cons_zero, List.getElem_cons_succ, List.setIfInBounds_toArray, List.set_cons_zero, List.set_cons_succ]
  refine wpAnyH_take (i := 25) (v := undef) rfl (by kernel_rfl) (by kernel_rfl) (by kernel_rfl) (fun _ _ _ h => h) (Or.inr ⟨by kernel_rfl, rfl⟩) (by assumption) ?_
  try simp (config := { maxSteps := 10000000 }) only [Act.put, List.getElem_toArray, List.getElem_cons_zero, List.getElem_cons_succ, List.setIfInBounds_toArray, List.set_cons_zero, List.set_cons_succ]
  refine wpAnyH_take (i := 26) (v := undef) rfl (by kernel_rfl) (by kernel_rfl) (by kernel_rfl) (fun _ _ _ h => h) (Or.inr ⟨by kernel_rfl, rfl⟩) (by assumption) ?_
  try simp (config := { maxSteps := 10000000 }) only [Act.put, List.getElem_toArray, List.getElem_cons_zero, List.getElem_cons_succ, List.setIfInBounds_toArray, List.set_cons_zero, List.set_cons_succ]
  refine wpAnyH_take (i := 27) (v := (.bool true)) rfl (by kernel_rfl) (by kernel_rfl) (by kernel_rfl) (fun _ _ _ h => h) (Or.inl ⟨by kernel_rfl, by intro w hSw; clear hSw; go_simp⟩) (by assumption) ?_
  try simp (config := { maxSteps := 10000000 }) only [Act.put, List.getElem_toArray, List.getElem_cons_zero, List.getElem_cons_succ, List.setIfInBounds_toArray, List.set_cons_zero, List.set_cons_succ]
  refine wpAnyH_take (i := 28) (v := (.bool true)) rfl (by kernel_rfl) (by kernel_rfl) (by kernel_rfl) (fun _ _ _ h => h) (Or.inl ⟨by kernel_rfl, by intro w hSw; clear hSw; go_simp⟩) (by assumption) ?_
  try simp (config := { maxSteps := 10000000 }) only [Act.put, List.getElem_toArray, List.getElem_cons_zero, List.getElem_cons_succ, List.setIfInBounds_toArray, List.set_cons_zero, List.set_cons_succ]
  refine wpAnyH_take (i := 29) (v := (.bool true)) rfl (by kernel_rfl) (by kernel_rfl) (by kernel_rfl) (fun _ _ _ h => h) (Or.inl ⟨by kernel_rfl, by intro w hSw; clear hSw; go_simp⟩) (by assumption) ?_
  try simp (config := { maxSteps := 10000000 }) only [Act.put, List.getElem_toArray, List.getElem_cons_zero, List.getElem_cons_succ, List.setIfInBounds_toArray, List.set_cons_zero, List.set_cons_succ]
  refine wpAnyH_ready (rs := [30]) (by kernel_rfl) (by simp) ?_
  refine AllReadyH.cons rfl (fun K hK => ?_) AllReadyH.nil
  go_simp
  go_at_call 7
  (with_reducible refine (Se.awake_any _ LL.out.tab).mono ?_); rintro e wk3 ⟨rfl, hbwk3⟩; have BB := Lib.hid (below_go BB.out hbwk3); have LL := Lib.hid (hL0.out.below BB.out); have Fa := Lib.hid (Fa.out.go hbwk3); have Fb := Lib.hid (Fb.out.go hbwk3); have Fx := Lib.hid (Fx.out.go hbwk3)
  go_wp2_with fail
  refine hK.out _ _ ⟨Fa.out, Fb.out, Fx.out⟩ (fun hHeld => ?_)
  clear hK K
  try simp (config := { maxSteps := 10000000 }) only [Act.put, List.getElem_toArray, List.getElem_cons_zero, List.getElem_cons_succ, List.setIfInBounds_toArray, List.set_cons_zero, List.set_cons_succ]
  refine wpAnyH_take (i := 31) (v := (.bool true)) rfl (by kernel_rfl) (by kernel_rfl) (by kernel_rfl) (fun _ _ _ h => h) (Or.inl ⟨by kernel_rfl, by intro w hSw; clear hSw; go_simp⟩) (by assumption) ?_
  try simp (config := { maxSteps := 10000000 }) only [Act.put, List.getElem_toArray, List.getElem_cons_zero, List.getElem_cons_succ, List.setIfInBounds_toArray, List.set_cons_zero, List.set_cons_succ]
  refine wpAnyH_take (i := 32) (v := (.bool true)) rfl (by kernel_rfl) (by kernel_rfl) (by kernel_rfl) (fun _ _ _ h => h) (Or.inl ⟨by kernel_rfl, by intro w hSw; clear hSw; go_simp⟩) (by assumption) ?_
  try simp (config := { maxSteps := 10000000 }) only [Act.put, List.getElem_toArray, List.getElem_cons_zero, List.getElem_cons_succ, List.setIfInBounds_toArray, List.set_cons_zero, List.set_cons_succ]
  refine wpAnyH_done (by kernel_rfl) ?_ _
  go_wp2_with fail
  go_ret
  exact ⟨rfl, BB.out⟩
set_option linter.unusedSimpArgs false in
set_option maxRecDepth 100000 in
set_option maxHeartbeats 8000000 in
theorem back_good (a b : SV) (w : World) (hl : Lay w) (ha : a.ok w) (hb : b.ok w) (hs : (decide (a.n ≤ 60) && decide (b.n ≤ 60)) = true) (Ma : Hid (a.may = 0)) (t1 : a.s = b.s) (Mb : Hid (b.may = 0)) :
    Calls Tryz.prog 5 #[a.v, b.v] w fun e w' => e = .returned (.bool true) ∧ Below w.heap.size w w' := by
  have hs' := Lib.hid hs
  have hna := ha.1.2.2.2
  have hnb := hb.1.2.2.2
  have h2 := Lib.hid (boxed2 ha hb hl.tab _ rfl)
  have Fa := Lib.hid h2.out.1
  have Fb := Lib.hid h2.out.2.1
  have BB := Lib.hid h2.out.2.2.1
  have hL0 := Lib.hid hl
  have LL := Lib.hid (hl.below h2.out.2.2.1)
  have hN3 := hs
  rw [Bool.and_eq_true, decide_eq_true_iff, decide_eq_true_iff] at hN3
  have ha60 : a.n ≤ 60 := hN3.1
  have hb60 : b.n ≤ 60 := hN3.2
  have an40 : a.n ≤ 1099511627776 := by omega
  have bn40 : b.n ≤ 1099511627776 := by omega
  obtain ⟨S, hS⟩ := named a.txt
  have HS := Lib.hid hS
  have hne : (S.toList == []) = false := by
    rw [ByteArray.toList_eq, hS]
    cases e : (a.txt == [])
    · rfl
    · exact absurd (eq_of_beq e) (txt_ne ha Ma.out)
  have ha0 := Lib.hid ha
  have tn : (a.s != b.s) = false := by rw [t1]; simp
  obtain ⟨S2, hS2⟩ := named b.txt
  have HS2 := Lib.hid hS2
  obtain ⟨Q, hQ0⟩ : ∃ Q : Bool, sameE a b = Q := ⟨_, rfl⟩
  have hQ := Lib.hid hQ0
  have hT2 : (S.toList == S2.toList) = Q := (texts_is ha hb Ma.out Mb.out t1 hS hS2).trans hQ0
  have nb60 := hb60
  clear hS2 hQ0
  clear hN3 hs ha hb hl h2 hS nb60 t1
  obtain ⟨a0, a1, a2, a3, a4, a5, _⟩ := Fa.out
  obtain ⟨b0, b1, b2, b3, b4, b5, _⟩ := Fb.out
  unfold SV.v
  go_enter Tryz.func5, Tryz.ntmps5
  go_wp2_with (first
    | (go_at_call 6; (with_reducible refine (small2 _ a b _ true hs' hna hnb (by go_simp) (by go_simp)).mono ?_); rintro e w1 ⟨rfl, rfl⟩)
    | (go_at_call 30; (with_reducible refine (text_at a _ Fa.out.ok an40 LL.out Ma HS).mono ?_); rintro e wt ⟨rfl, hbwt⟩; have BB := Lib.hid (below_go BB.out hbwt); have LL := Lib.hid (hL0.out.below BB.out); have Fa := Lib.hid (Fa.out.go hbwt); have Fb := Lib.hid (Fb.out.go hbwt); obtain ⟨a0, a1, a2, a3, a4, a5, _⟩ := Fa.out; obtain ⟨b0, b1, b2, b3, b4, b5, _⟩ := Fb.out)
    | (go_at_call 21; (with_reducible refine (may_is a _ Fa.out.ok Ma).mono ?_); rintro e wm ⟨rfl, hbwm⟩; have BB := Lib.hid (below_go BB.out hbwm); have LL := Lib.hid (hL0.out.below BB.out); have Fa := Lib.hid (Fa.out.go hbwm); have Fb := Lib.hid (Fb.out.go hbwm); obtain ⟨a0, a1, a2, a3, a4, a5, _⟩ := Fa.out; obtain ⟨b0, b1, b2, b3, b4, b5, _⟩ := Fb.out)
    | (go_at_call 31; (with_reducible refine (parse_sv a S _ w ha0.out LL.out ha60 Ma HS hne).mono ?_); rintro e w_x ⟨x, rfl, xok, xS, xn, hbw_x⟩; have Hxok := Lib.hid xok; have hxn : x.n ≤ 1099511627776 := (Nat.le_trans xn.out (by decide)); have BB := Lib.hid (below_al (below_go BB.out hbw_x) (.cells #[.int .i64 x.s, .bool x.b, .slice x.A x.n x.c, .int .i64 x.lv, .float .f64 x.x] 27)); have LL := Lib.hid (hL0.out.below BB.out); have Fa := Lib.hid ((Fa.out.go hbw_x).al (.cells #[.int .i64 x.s, .bool x.b, .slice x.A x.n x.c, .int .i64 x.lv, .float .f64 x.x] 27)); have Fb := Lib.hid ((Fb.out.go hbw_x).al (.cells #[.int .i64 x.s, .bool x.b, .slice x.A x.n x.c, .int .i64 x.lv, .float .f64 x.x] 27)); have Fx := Lib.hid (five_new _ x Hxok.out); obtain ⟨a0, a1, a2, a3, a4, a5, _⟩ := Fa.out; obtain ⟨b0, b1, b2, b3, b4, b5, _⟩ := Fb.out))
  clear a0 a1 a2 a3 a4 a5 b0 b1 b2 b3 b4 b5
  have BB := Lib.hid (below_dr BB.out)
  have LL := Lib.hid (hL0.out.below BB.out)
  have Fa := Lib.hid Fa.out.drew
  have Fb := Lib.hid Fb.out.drew
  have Fx := Lib.hid Fx.out.drew
  refine wp_region_held_drew (S := fun w' => Five w' (w.heap.size) a ∧ Five w' (w.heap.size + 1) b ∧ Five w' (w_x.heap.size) x) (by kernel_rfl) ⟨Fa.out, Fb.out, Fx.out⟩ (fun hHeld => ?_)
  refine wpAnyH_take (i := 0) (v := (.int .i64 0)) rfl (by kernel_rfl) (by kernel_rfl) (by kernel_rfl) (fun _ _ _ h => h) (Or.inl ⟨by kernel_rfl, by intro w hSw; clear hSw; go_simp⟩) (by assumption) ?_
  try simp (config := { maxSteps := 10000000 }) only [Act.put, List.getElem_toArray, List.getElem_cons_zero, List.getElem_cons_succ, List.setIfInBounds_toArray, List.set_cons_zero, List.set_cons_succ]
  refine wpAnyH_take (i := 1) (v := (.bool true)) rfl (by kernel_rfl) (by kernel_rfl) (by kernel_rfl) (fun _ _ _ h => h) (Or.inl ⟨by kernel_rfl, by intro w hSw; clear hSw; go_simp⟩) (by assumption) ?_
  try simp (config := { maxSteps := 10000000 }) only [Act.put, List.getElem_toArray, List.getElem_cons_zero, List.getElem_cons_succ, List.setIfInBounds_toArray, List.set_cons_zero, List.set_cons_succ]
  refine wpAnyH_take (i := 2) (v := (.bool true)) rfl (by kernel_rfl) (by kernel_rfl) (by kernel_rfl) (fun _ _ _ h => h) (Or.inl ⟨by kernel_rfl, by intro w hSw; clear hSw; go_simp⟩) (by assumption) ?_
  try simp (config := { maxSteps := 10000000 }) only [Act.put, List.getElem_toArray, List.getElem_cons_zero, List.getElem_cons_succ, List.setIfInBounds_toArray, List.set_cons_zero, List.set_cons_succ]
  refine wpAnyH_take (i := 3) (v := (.agg #[.int .i64 x.s, .bool x.b, .slice x.A x.n x.c, .int .i64 x.lv, .float .f64 x.x])) rfl (by kernel_rfl) (by kernel_rfl) (by kernel_rfl) (fun _ _ _ h => h) (Or.inl ⟨by kernel_rfl, by intro w hSw; (try dsimp only at hSw); obtain ⟨hl0, hl1, hl2⟩ := hSw; obtain ⟨k0, k1, k2, k3, k4, _⟩ := hl2; clear hl0 hl1; go_simp⟩) (by assumption) ?_
  try simp (config := { maxSteps := 10000000 }) only [Act.put, List.getElem_toArray, List.getElem_cons_zero, List.getElem_cons_succ, List.setIfInBounds_toArray, List.set_cons_zero, List.set_cons_succ]
  refine wpAnyH_take (i := 4) (v := (.agg #[.int .i64 a.s, .bool a.b, .slice a.A a.n a.c, .int .i64 a.lv, .float .f64 a.x])) rfl (by kernel_rfl) (by kernel_rfl) (by kernel_rfl) (fun _ _ _ h => h) (Or.inl ⟨by kernel_rfl, by intro w hSw; (try dsimp only at hSw); obtain ⟨hl0, hl1, hl2⟩ := hSw; obtain ⟨k0, k1, k2, k3, k4, _⟩ := hl0; clear hl1 hl2; go_simp⟩) (by assumption) ?_
  try simp (config := { maxSteps := 10000000 }) only [Act.put, List.getElem_toArray, List.getElem_cons_zero, List.getElem_cons_succ, List.setIfInBounds_toArray, List.set_cons_zero, List.set_cons_succ]
  refine wpAnyH_ready (rs := [5]) (by kernel_rfl) (by simp) ?_
  refine AllReadyH.cons rfl (fun K hK => ?_) AllReadyH.nil
  go_simp
  go_at_call 23
  (with_reducible refine (same_yes x a _ Fx.out.ok Fa.out.ok xS).mono ?_); rintro e wk1 ⟨rfl, hbwk1⟩; have BB := Lib.hid (below_go BB.out hbwk1); have LL := Lib.hid (hL0.out.below BB.out); have Fa := Lib.hid (Fa.out.go hbwk1); have Fb := Lib.hid (Fb.out.go hbwk1); have Fx := Lib.hid (Fx.out.go hbwk1)
  go_wp2_with fail
  refine hK.out _ _ ⟨Fa.out, Fb.out, Fx.out⟩ (fun hHeld => ?_)
  clear hK K
  try simp (config := { maxSteps := 10000000 }) only [Act.put, List.getElem_toArray, List.getElem_cons_zero, List.getElem_cons_succ, List.setIfInBounds_toArray, List.set_cons_zero, List.set_cons_succ]
  refine wpAnyH_take (i := 6) (v := (.bool true)) rfl (by kernel_rfl) (by kernel_rfl) (by kernel_rfl) (fun _ _ _ h => h) (Or.inl ⟨by kernel_rfl, by intro w hSw; clear hSw; go_simp⟩) (by assumption) ?_
  try simp (config := { maxSteps := 10000000 }) only [Act.put, List.getElem_toArray, List.getElem_cons_zero, List.getElem_cons_succ, List.setIfInBounds_toArray, List.set_cons_zero, List.set_cons_succ]
  refine wpAnyH_take (i := 7) (v := (.bool true)) rfl (by kernel_rfl) (by kernel_rfl) (by kernel_rfl) (fun _ _ _ h => h) (Or.inl ⟨by kernel_rfl, by intro w hSw; clear hSw; go_simp⟩) (by assumption) ?_
  try simp (config := { maxSteps := 10000000 }) only [Act.put, List.getElem_toArray, List.getElem_cons_zero, List.getElem_cons_succ, List.setIfInBounds_toArray, List.set_cons_zero, List.set_cons_succ]
  refine wpAnyH_take (i := 8) (v := (.pointer (some ⟨w.heap.size, 0, none⟩))) rfl (by kernel_rfl) (by kernel_rfl) (by kernel_rfl) (fun _ _ _ h => h) (Or.inl ⟨by kernel_rfl, by intro w hSw; clear hSw; go_simp⟩) (by assumption) ?_
  try simp (config := { maxSteps := 10000000 }) only [Act.put, List.getElem_toArray, List.getElem_cons_zero, List.getElem_cons_succ, List.setIfInBounds_toArray, List.set_cons_zero, List.set_cons_succ]
  refine wpAnyH_take (i := 9) (v := (.int .i64 a.s)) rfl (by kernel_rfl) (by kernel_rfl) (by kernel_rfl) (fun _ _ _ h => h) (Or.inl ⟨by kernel_rfl, by intro w hSw; (try dsimp only at hSw); obtain ⟨hl0, hl1, hl2⟩ := hSw; obtain ⟨k0, k1, k2, k3, k4, _⟩ := hl0; clear hl1 hl2; go_simp⟩) (by assumption) ?_
  try simp (config := { maxSteps := 10000000 }) only [Act.put, List.getElem_toArray, List.getElem_cons_zero, List.getElem_cons_succ, List.setIfInBounds_toArray, List.set_cons_zero, List.set_cons_succ]
  refine wpAnyH_take (i := 10) (v := (.pointer (some ⟨w.heap.size + 1, 0, none⟩))) rfl (by kernel_rfl) (by kernel_rfl) (by kernel_rfl) (fun _ _ _ h => h) (Or.inl ⟨by kernel_rfl, by intro w hSw; clear hSw; go_simp⟩) (by assumption) ?_
  try simp (config := { maxSteps := 10000000 }) only [Act.put, List.getElem_toArray, List.getElem_cons_zero, List.getElem_cons_succ, List.setIfInBounds_toArray, List.set_cons_zero, List.set_cons_succ]
  refine wpAnyH_take (i := 11) (v := (.int .i64 b.s)) rfl (by kernel_rfl) (by kernel_rfl) (by kernel_rfl) (fun _ _ _ h => h) (Or.inl ⟨by kernel_rfl, by intro w hSw; (try dsimp only at hSw); obtain ⟨hl0, hl1, hl2⟩ := hSw; obtain ⟨k0, k1, k2, k3, k4, _⟩ := hl1; clear hl0 hl2; go_simp⟩) (by assumption) ?_
  try simp (config := { maxSteps := 10000000 }) only [Act.put, List.getElem_toArray, List.getElem_cons_zero, List.getElem_cons_succ, List.setIfInBounds_toArray, List.set_cons_zero, List.set_cons_succ]
  refine wpAnyH_take (i := 12) (v := (.bool false)) rfl (by kernel_rfl) (by kernel_rfl) (by kernel_rfl) (fun _ _ _ h => h) (Or.inl ⟨by kernel_rfl, by intro w hSw; clear hSw; go_simp⟩) (by assumption) ?_
  try simp (config := { maxSteps := 10000000 }) only [Act.put, List.getElem_toArray, List.getElem_cons_zero, List.getElem_cons_succ, List.setIfInBounds_toArray, List.set_cons_zero, List.set_cons_succ]
  refine wpAnyH_take (i := 13) (v := (.bool false)) rfl (by kernel_rfl) (by kernel_rfl) (by kernel_rfl) (fun _ _ _ h => h) (Or.inl ⟨by kernel_rfl, by intro w hSw; clear hSw; go_simp⟩) (by assumption) ?_
  try simp (config := { maxSteps := 10000000 }) only [Act.put, List.getElem_toArray, List.getElem_cons_zero, List.getElem_cons_succ, List.setIfInBounds_toArray, List.set_cons_zero, List.set_cons_succ]
  refine wpAnyH_take (i := 14) (v := (.agg #[.int .i64 b.s, .bool b.b, .slice b.A b.n b.c, .int .i64 b.lv, .float .f64 b.x])) rfl (by kernel_rfl) (by kernel_rfl) (by kernel_rfl) (fun _ _ _ h => h) (Or.inl ⟨by kernel_rfl, by intro w hSw; (try dsimp only at hSw); obtain ⟨hl0, hl1, hl2⟩ := hSw; obtain ⟨k0, k1, k2, k3, k4, _⟩ := hl1; clear hl0 hl2; go_simp⟩) (by assumption) ?_
  try simp (config := { maxSteps := 10000000 }) only [Act.put, List.getElem_toArray, List.getElem_cons_zero, List.getElem_cons_succ, List.setIfInBounds_toArray, List.set_cons_zero, List.set_cons_succ]
  refine wpAnyH_ready (rs := [15]) (by kernel_rfl) (by simp) ?_
  refine AllReadyH.cons rfl (fun K hK => ?_) AllReadyH.nil
  go_simp
  go_at_call 21
  (with_reducible refine (may_is b _ Fb.out.ok Mb).mono ?_); rintro e wk2 ⟨rfl, hbwk2⟩; have BB := Lib.hid (below_go BB.out hbwk2); have LL := Lib.hid (hL0.out.below BB.out); have Fa := Lib.hid (Fa.out.go hbwk2); have Fb := Lib.hid (Fb.out.go hbwk2); have Fx := Lib.hid (Fx.out.go hbwk2)
  go_wp2_with fail
  refine hK.out _ _ ⟨Fa.out, Fb.out, Fx.out⟩ (fun hHeld => ?_)
  clear hK K
  try simp (config := { maxSteps := 10000000 }) only [Act.put, List.getElem_toArray, List.getElem_cons_zero, List.getElem_cons_succ, List.setIfInBounds_toArray, List.set_cons_zero, List.set_cons_succ]
  refine wpAnyH_take (i := 16) (v := (.bool false)) rfl (by kernel_rfl) (by kernel_rfl) (by kernel_rfl) (fun _ _ _ h => h) (Or.inl ⟨by kernel_rfl, by intro w hSw; clear hSw; go_simp⟩) (by assumption) ?_
  try simp (config := { maxSteps := 10000000 }) only [Act.put, List.getElem_toArray, List.getElem_cons_zero, List.getElem_cons_succ, List.setIfInBounds_toArray, List.set_cons_zero, List.set_cons_succ]
  refine wpAnyH_take (i := 17) (v := (.bool false)) rfl (by kernel_rfl) (by kernel_rfl) (by kernel_rfl) (fun _ _ _ h => h) (Or.inl ⟨by kernel_rfl, by intro w hSw; clear hSw; go_simp⟩) (by assumption) ?_
  try simp (config := { maxSteps := 10000000 }) only [Act.put, List.getElem_toArray, List.getElem_cons_zero, List.getElem_cons_succ, List.setIfInBounds_toArray, List.set_cons_zero, List.set_cons_succ]
  refine wpAnyH_take (i := 18) (v := (.bool false)) rfl (by kernel_rfl) (by kernel_rfl) (by kernel_rfl) (fun _ _ _ h => h) (Or.inl ⟨by kernel_rfl, by intro w hSw; clear hSw; go_simp⟩) (by assumption) ?_
  try simp (config := { maxSteps := 10000000 }) only [Act.put, List.getElem_toArray, List.getElem_cons_zero, List.getElem_cons_succ, List.setIfInBounds_toArray, List.set_cons_zero, List.set_cons_succ]
  refine wpAnyH_take (i := 19) (v := (.string S)) rfl (by kernel_rfl) (by kernel_rfl) (by kernel_rfl) (fun _ _ _ h => h) (Or.inl ⟨by kernel_rfl, by intro w hSw; clear hSw; go_simp⟩) (by assumption) ?_
  try simp (config := { maxSteps := 10000000 }) only [Act.put, List.getElem_toArray, List.getElem_cons_zero, List.getElem_cons_succ, List.setIfInBounds_toArray, List.set_cons_zero, List.set_cons_succ]
  refine wpAnyH_take (i := 20) (v := (.agg #[.int .i64 b.s, .bool b.b, .slice b.A b.n b.c, .int .i64 b.lv, .float .f64 b.x])) rfl (by kernel_rfl) (by kernel_rfl) (by kernel_rfl) (fun _ _ _ h => h) (Or.inl ⟨by kernel_rfl, by intro w hSw; (try dsimp only at hSw); obtain ⟨hl0, hl1, hl2⟩ := hSw; obtain ⟨k0, k1, k2, k3, k4, _⟩ := hl1; clear hl0 hl2; go_simp⟩) (by assumption) ?_
  try simp (config := { maxSteps := 10000000 }) only [Act.put, List.getElem_toArray, List.getElem_cons_zero, List.getElem_cons_succ, List.setIfInBounds_toArray, List.set_cons_zero, List.set_cons_succ]
  refine wpAnyH_take (i := 23) (v := (.agg #[.int .i64 a.s, .bool a.b, .slice a.A a.n a.c, .int .i64 a.lv, .float .f64 a.x])) rfl (by kernel_rfl) (by kernel_rfl) (by kernel_rfl) (fun _ _ _ h => h) (Or.inl ⟨by kernel_rfl, by intro w hSw; (try dsimp only at hSw); obtain ⟨hl0, hl1, hl2⟩ := hSw; obtain ⟨k0, k1, k2, k3, k4, _⟩ := hl0; clear hl1 hl2; go_simp⟩) (by assumption) ?_
  try simp (config := { maxSteps := 10000000 }) only [Act.put, List.getElem_toArray, List.getElem_cons_zero, List.getElem_cons_succ, List.setIfInBounds_toArray, List.set_cons_zero, List.set_cons_succ]
  refine wpAnyH_take (i := 24) (v := (.agg #[.int .i64 b.s, .bool b.b, .slice b.A b.n b.c, .int .i64 b.lv, .float .f64 b.x])) rfl (by kernel_rfl) (by kernel_rfl) (by kernel_rfl) (fun _ _ _ h => h) (Or.inl ⟨by kernel_rfl, by intro w hSw; (try dsimp only at hSw); obtain ⟨hl0, hl1, hl2⟩ := hSw; obtain ⟨k0, k1, k2, k3, k4, _⟩ := hl1; clear hl0 hl2; go_simp⟩) (by assumption) ?_
  try simp (config := { maxSteps := 10000000 }) only [Act.put, List.getElem_toArray, List.getElem_cons_zero, List.getElem_cons_succ, List.setIfInBounds_toArray, List.set_cons_zero, List.set_cons_succ]
  refine wpAnyH_ready (rs := [21]) (by kernel_rfl) (by simp) ?_
  refine AllReadyH.cons rfl (fun K hK => ?_) AllReadyH.nil
  go_simp
  go_at_call 30
  (with_reducible refine (text_at b _ Fb.out.ok bn40 LL.out Mb HS2).mono ?_); rintro e wk3 ⟨rfl, hbwk3⟩; have BB := Lib.hid (below_go BB.out hbwk3); have LL := Lib.hid (hL0.out.below BB.out); have Fa := Lib.hid (Fa.out.go hbwk3); have Fb := Lib.hid (Fb.out.go hbwk3); have Fx := Lib.hid (Fx.out.go hbwk3)
  go_wp2_with fail
  refine hK.out _ _ ⟨Fa.out, Fb.out, Fx.out⟩ (fun hHeld => ?_)
  clear hK K
  try simp (config := { maxSteps := 10000000 }) only [Act.put, List.getElem_toArray, List.getElem_cons_zero, List.getElem_cons_succ, List.setIfInBounds_toArray, List.set_cons_zero, List.set_cons_succ]
  refine wpAnyH_take (i := 22) (v := (.bool Q)) rfl (by kernel_rfl) (by kernel_rfl) (by kernel_rfl) (fun _ _ _ h => h) (Or.inl ⟨by kernel_rfl, by intro w hSw; clear hSw; go_simp⟩) (by assumption) ?_
  try simp (config := { maxSteps := 10000000 }) only [Act.put, List.getElem_toArray, List.getElem_cons_zero, List.getElem_cons_succ, List.setIfInBounds_toArray, List.set_cons_zero, List.set_cons_succ]
  refine wpAnyH_ready (rs := [25]) (by kernel_rfl) (by simp) ?_
  refine AllReadyH.cons rfl (fun K hK => ?_) AllReadyH.nil
  go_simp
  go_at_call 23
  (with_reducible refine (same_b a b _ Fa.out.ok Fb.out.ok hQ).mono ?_); rintro e wk4 ⟨rfl, hbwk4⟩; have BB := Lib.hid (below_go BB.out hbwk4); have LL := Lib.hid (hL0.out.below BB.out); have Fa := Lib.hid (Fa.out.go hbwk4); have Fb := Lib.hid (Fb.out.go hbwk4); have Fx := Lib.hid (Fx.out.go hbwk4)
  go_wp2_with fail
  refine hK.out _ _ ⟨Fa.out, Fb.out, Fx.out⟩ (fun hHeld => ?_)
  clear hK K
  try simp (config := { maxSteps := 10000000 }) only [Act.put, List.getElem_toArray, List.getElem_cons_zero, List.getElem_cons_succ, List.setIfInBounds_toArray, List.set_cons_zero, List.set_cons_succ]
  refine wpAnyH_take (i := 26) (v := (.bool true)) rfl (by kernel_rfl) (by kernel_rfl) (by kernel_rfl) (fun _ _ _ h => h) (Or.inl ⟨by kernel_rfl, by intro w hSw; clear hSw; go_simp⟩) (by assumption) ?_
  try simp (config := { maxSteps := 10000000 }) only [Act.put, List.getElem_toArray, List.getElem_cons_zero, List.getElem_cons_succ, List.setIfInBounds_toArray, List.set_cons_zero, List.set_cons_succ]
  refine wpAnyH_take (i := 27) (v := (.bool true)) rfl (by kernel_rfl) (by kernel_rfl) (by kernel_rfl) (fun _ _ _ h => h) (Or.inl ⟨by kernel_rfl, by intro w hSw; clear hSw; go_simp⟩) (by assumption) ?_
  try simp (config := { maxSteps := 10000000 }) only [Act.put, List.getElem_toArray, List.getElem_cons_zero, List.getElem_cons_succ, List.setIfInBounds_toArray, List.set_cons_zero, List.set_cons_succ]
  refine wpAnyH_take (i := 28) (v := (.bool true)) rfl (by kernel_rfl) (by kernel_rfl) (by kernel_rfl) (fun _ _ _ h => h) (Or.inl ⟨by kernel_rfl, by intro w hSw; clear hSw; go_simp⟩) (by assumption) ?_
  try simp (config := { maxSteps := 10000000 }) only [Act.put, List.getElem_toArray, List.getElem_cons_zero, List.getElem_cons_succ, List.setIfInBounds_toArray, List.set_cons_zero, List.set_cons_succ]
  refine wpAnyH_take (i := 29) (v := (.bool true)) rfl (by kernel_rfl) (by kernel_rfl) (by kernel_rfl) (fun _ _ _ h => h) (Or.inl ⟨by kernel_rfl, by intro w hSw; clear hSw; go_simp⟩) (by assumption) ?_
  try simp (config := { maxSteps := 10000000 }) only [Act.put, List.getElem_toArray, List.getElem_cons_zero, List.getElem_cons_succ, List.setIfInBounds_toArray, List.set_cons_zero, List.set_cons_succ]
  refine wpAnyH_ready (rs := [30]) (by kernel_rfl) (by simp) ?_
  refine AllReadyH.cons rfl (fun K hK => ?_) AllReadyH.nil
  go_simp
  go_at_call 7
  (with_reducible refine (Se.awake_any _ LL.out.tab).mono ?_); rintro e wk5 ⟨rfl, hbwk5⟩; have BB := Lib.hid (below_go BB.out hbwk5); have LL := Lib.hid (hL0.out.below BB.out); have Fa := Lib.hid (Fa.out.go hbwk5); have Fb := Lib.hid (Fb.out.go hbwk5); have Fx := Lib.hid (Fx.out.go hbwk5)
  go_wp2_with fail
  refine hK.out _ _ ⟨Fa.out, Fb.out, Fx.out⟩ (fun hHeld => ?_)
  clear hK K
  try simp (config := { maxSteps := 10000000 }) only [Act.put, List.getElem_toArray, List.getElem_cons_zero, List.getElem_cons_succ, List.setIfInBounds_toArray, List.set_cons_zero, List.set_cons_succ]
  refine wpAnyH_take (i := 31) (v := (.bool true)) rfl (by kernel_rfl) (by kernel_rfl) (by kernel_rfl) (fun _ _ _ h => h) (Or.inl ⟨by kernel_rfl, by intro w hSw; clear hSw; go_simp⟩) (by assumption) ?_
  try simp (config := { maxSteps := 10000000 }) only [Act.put, List.getElem_toArray, List.getElem_cons_zero, List.getElem_cons_succ, List.setIfInBounds_toArray, List.set_cons_zero, List.set_cons_succ]
  refine wpAnyH_take (i := 32) (v := (.bool true)) rfl (by kernel_rfl) (by kernel_rfl) (by kernel_rfl) (fun _ _ _ h => h) (Or.inl ⟨by kernel_rfl, by intro w hSw; clear hSw; go_simp⟩) (by assumption) ?_
  try simp (config := { maxSteps := 10000000 }) only [Act.put, List.getElem_toArray, List.getElem_cons_zero, List.getElem_cons_succ, List.setIfInBounds_toArray, List.set_cons_zero, List.set_cons_succ]
  refine wpAnyH_done (by kernel_rfl) ?_ _
  go_wp2_with fail
  go_ret
  exact ⟨rfl, BB.out⟩
theorem semiBack_law (a b : SV) (w : World) (hl : Lay w) (ha : a.ok w) (hb : b.ok w) :
    Calls Tryz.prog 5 #[a.v, b.v] w fun e w' => e = .returned (.bool true) ∧ Below w.heap.size w w' := by
  cases hs : (decide (a.n ≤ 60) && decide (b.n ≤ 60))
  · exact back_big a b w hl ha hb hs
  · by_cases h1 : a.may = 0
    · by_cases t1 : a.s = b.s
      · by_cases h2 : b.may = 0
        · exact back_good a b w hl ha hb hs (Lib.hid h1) t1 (Lib.hid h2)
        · exact back_bad a b w hl ha hb hs (Lib.hid h1) t1 _ (by simpa using h2) (by simpa using h2) (Lib.hid rfl)
      · exact back_far a b w hl ha hb hs (Lib.hid h1) t1
    · exact back_no a b w hl ha hb hs _ (by simpa using h1) (by simpa using h1) (Lib.hid rfl)
end Go.Proofs.YtdkmmnehlmaebaaGreatDoor.Se
