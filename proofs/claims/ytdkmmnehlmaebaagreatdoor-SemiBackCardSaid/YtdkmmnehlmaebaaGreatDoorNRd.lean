/- The document's own Compare. Conditions: the digits can be read. -/
import Derived.Test.YtdkmmnehlmaebaaGreatDoorNRb
namespace Go.Proofs.YtdkmmnehlmaebaaGreatDoor.Na
open Go.RowKit Go.NT Go.Lib

theorem NV.drew {w : World} {A : Option Addr} {n c : Nat} {xs : List Int} (h : NV w A n c xs) : NV w.drew A n c xs := h.below (below_dr (Below.refl _ _))
/-- A number in a variable's own cells. -/
def Box (w : World) (g : Nat) (b : Bool) (A : Option Addr) (n c : Nat) (xs : List Int) : Prop :=
  w.cell? ⟨g, 0, none⟩ = some (.bool b) ∧ w.cell? ⟨g, 1, none⟩ = some (.slice A n c) ∧ g < w.heap.size ∧ NV w A n c xs
section
variable {w w' : World} {g : Nat} {b : Bool} {A : Option Addr} {n c : Nat} {xs : List Int}
theorem Box.go (h : Box w g b A n c xs) (hb : Below w.heap.size w w') : Box w' g b A n c xs :=
  ⟨(hb.cell h.2.2.1).trans h.1, (hb.cell h.2.2.1).trans h.2.1, Nat.lt_of_lt_of_le h.2.2.1 hb.size, h.2.2.2.below hb⟩
theorem Box.drew (h : Box w g b A n c xs) : Box w.drew g b A n c xs := ⟨h.1, h.2.1, h.2.2.1, h.2.2.2.drew⟩
theorem Box.nv (h : Box w g b A n c xs) : NV w A n c xs := h.2.2.2
end
theorem Box.made {w : World} {A : Option Addr} {n c : Nat} {xs : List Int} (h : NV w A n c xs) (b : Bool) : Box (w.alloc (Obj.cells #[.bool b, .slice A n c] 24)) w.heap.size b A n c xs :=
  ⟨by go_simp, by go_simp, by simp, h.alloc _⟩
theorem Box.alloc {w : World} {g : Nat} {b : Bool} {A : Option Addr} {n c : Nat} {xs : List Int} (h : Box w g b A n c xs) (o : Obj) : Box (w.alloc o) g b A n c xs := h.go (below_al (Below.refl _ _) o)
theorem ne_of_bne {a b : Nat} (h : ((a : Int) != (b : Int)) = true) : a ≠ b := fun e => by subst e; simp at h
theorem eq_of_bne {a b : Nat} (h : ((a : Int) != (b : Int)) = false) : a = b := by
  have : (a : Int) = (b : Int) := by simpa using h
  omega
theorem rc_len {w w' : World} {A A' : Option Addr} {m m' c c' : Nat} {xs ys : List Int} (hx : NV w A m c (cleanD false xs)) (hy : NV w' A' m' c' (cleanD false ys)) (h : m ≠ m') : cmpM (mean false xs) (mean false ys) = cmpI m m' := by
  rw [← hx.len, ← hy.len] at h ⊢
  rw [← mean_cleanD false xs, ← mean_cleanD false ys]
  exact (cmp_lens hx.2.2.1 hy.2.2.1 (cleanD_norm _ _) (cleanD_norm _ _) h).symm
set_option maxRecDepth 100000 in
set_option maxHeartbeats 2000000 in
theorem rcompare_it (A A' : Option Addr) (n n' c c' : Nat) (xs ys : List Int) (w : World) (hx : NV w A n c xs) (hy : NV w A' n' c' ys) (hn : n ≤ 1099511627776) (hn' : n' ≤ 1099511627776) :
    Calls Tryz.prog 47 #[.agg #[.bool true, .slice A n c], .agg #[.bool false, .slice A' n' c']] w fun e w' => e = .returned (.int .i64 (cmpM (mean true xs) (mean false ys))) ∧ Below w.heap.size w w' := by
  have hB : ∀ o o' : Obj, Below w.heap.size w ((w.alloc o).alloc o') := fun o o' => below_al (below_al (Below.refl _ _) o) o'
  have ky0 : Box ((w.alloc (Obj.cells #[.bool true, .slice A n c] 24)).alloc (Obj.cells #[.bool false, .slice A' n' c'] 24)) (w.heap.size + 1) false A' n' c' ys := ⟨by go_simp, by go_simp, by first | (simp; done) | (simp; omega), hy.below (hB _ _)⟩
  go_enter Tryz.func47, Tryz.ntmps47
  go_wp2_with (first
      | (go_at_call 68; (with_reducible refine (clean_any true A n c xs _ (hx.below (hB _ _)) (by omega)).mono ?_); rintro e w1 ⟨A1, m1, d1, rfl, hv1, hf1, hm1, hb1⟩; have hM1 := hm1.out; have hB1 := below_step (hB _ _) hb1 (hB _ _).size; have k1 := Box.made hv1 true; have ky := (ky0.go hb1).alloc (Obj.cells #[.bool true, .slice A1 m1 d1] 24); have py := ky.1; have qy := ky.2.1)
      | (go_at_call 68; (with_reducible refine (clean_any false A' n' c' ys _ ky.nv (by omega)).mono ?_); rintro e w2 ⟨A2, m2, d2, rfl, hv2, hf2, hm2, hb2⟩; have hM2 := hm2.out; have hB2 := below_step (below_al hB1 _) hb2 (below_al hB1 _).size; have k2 := (k1.go hb2).alloc (Obj.cells #[.bool false, .slice A2 m2 d2] 24); have k3 := Box.made hv2 false; have p0 := k2.1; have p1 := k2.2.1; have hB3 := below_al hB2 (Obj.cells #[.bool false, .slice A2 m2 d2] 24)))
  go_ret
  exact ⟨rfl, hB3⟩
set_option maxRecDepth 100000 in
set_option maxHeartbeats 2000000 in
theorem rcompare_ti (A A' : Option Addr) (n n' c c' : Nat) (xs ys : List Int) (w : World) (hx : NV w A n c xs) (hy : NV w A' n' c' ys) (hn : n ≤ 1099511627776) (hn' : n' ≤ 1099511627776) :
    Calls Tryz.prog 47 #[.agg #[.bool false, .slice A n c], .agg #[.bool true, .slice A' n' c']] w fun e w' => e = .returned (.int .i64 (cmpM (mean false xs) (mean true ys))) ∧ Below w.heap.size w w' := by
  have hB : ∀ o o' : Obj, Below w.heap.size w ((w.alloc o).alloc o') := fun o o' => below_al (below_al (Below.refl _ _) o) o'
  have ky0 : Box ((w.alloc (Obj.cells #[.bool false, .slice A n c] 24)).alloc (Obj.cells #[.bool true, .slice A' n' c'] 24)) (w.heap.size + 1) true A' n' c' ys := ⟨by go_simp, by go_simp, by first | (simp; done) | (simp; omega), hy.below (hB _ _)⟩
  go_enter Tryz.func47, Tryz.ntmps47
  go_wp2_with (first
      | (go_at_call 68; (with_reducible refine (clean_any false A n c xs _ (hx.below (hB _ _)) (by omega)).mono ?_); rintro e w1 ⟨A1, m1, d1, rfl, hv1, hf1, hm1, hb1⟩; have hM1 := hm1.out; have hB1 := below_step (hB _ _) hb1 (hB _ _).size; have k1 := Box.made hv1 false; have ky := (ky0.go hb1).alloc (Obj.cells #[.bool false, .slice A1 m1 d1] 24); have py := ky.1; have qy := ky.2.1)
      | (go_at_call 68; (with_reducible refine (clean_any true A' n' c' ys _ ky.nv (by omega)).mono ?_); rintro e w2 ⟨A2, m2, d2, rfl, hv2, hf2, hm2, hb2⟩; have hM2 := hm2.out; have hB2 := below_step (below_al hB1 _) hb2 (below_al hB1 _).size; have k2 := (k1.go hb2).alloc (Obj.cells #[.bool true, .slice A2 m2 d2] 24); have k3 := Box.made hv2 true; have p0 := k2.1; have p1 := k2.2.1; have hB3 := below_al hB2 (Obj.cells #[.bool true, .slice A2 m2 d2] 24)))
  go_ret
  exact ⟨rfl, hB3⟩
set_option maxRecDepth 100000 in
set_option maxHeartbeats 2000000 in
theorem rcompare_ii (A A' : Option Addr) (n n' c c' : Nat) (xs ys : List Int) (w : World) (hx : NV w A n c xs) (hy : NV w A' n' c' ys) (hn : n ≤ 1099511627776) (hn' : n' ≤ 1099511627776) :
    Calls Tryz.prog 47 #[.agg #[.bool true, .slice A n c], .agg #[.bool true, .slice A' n' c']] w fun e w' => e = .returned (.int .i64 (cmpM (mean true xs) (mean true ys))) ∧ Below w.heap.size w w' := by
  have hB : ∀ o o' : Obj, Below w.heap.size w ((w.alloc o).alloc o') := fun o o' => below_al (below_al (Below.refl _ _) o) o'
  have ky0 : Box ((w.alloc (Obj.cells #[.bool true, .slice A n c] 24)).alloc (Obj.cells #[.bool true, .slice A' n' c'] 24)) (w.heap.size + 1) true A' n' c' ys := ⟨by go_simp, by go_simp, by first | (simp; done) | (simp; omega), hy.below (hB _ _)⟩
  go_enter Tryz.func47, Tryz.ntmps47
  go_wp2_with (first
      | (go_at_call 68; (with_reducible refine (clean_any true A n c xs _ (hx.below (hB _ _)) (by omega)).mono ?_); rintro e w1 ⟨A1, m1, d1, rfl, hv1, hf1, hm1, hb1⟩; have hM1 := hm1.out; have hB1 := below_step (hB _ _) hb1 (hB _ _).size; have k1 := Box.made hv1 true; have ky := (ky0.go hb1).alloc (Obj.cells #[.bool true, .slice A1 m1 d1] 24); have py := ky.1; have qy := ky.2.1)
      | (go_at_call 68; (with_reducible refine (clean_any true A' n' c' ys _ ky.nv (by omega)).mono ?_); rintro e w2 ⟨A2, m2, d2, rfl, hv2, hf2, hm2, hb2⟩; have hM2 := hm2.out; have hB2 := below_step (below_al hB1 _) hb2 (below_al hB1 _).size; have k2 := (k1.go hb2).alloc (Obj.cells #[.bool true, .slice A2 m2 d2] 24); have k3 := Box.made hv2 true; have p0 := k2.1; have p1 := k2.2.1; have hB3 := below_al hB2 (Obj.cells #[.bool true, .slice A2 m2 d2] 24)))
  go_ret
  exact ⟨rfl, hB3⟩
set_option maxRecDepth 100000 in
set_option maxHeartbeats 2000000 in
theorem rcompare_fin (A A' : Option Addr) (n n' c c' : Nat) (xs ys : List Int) (w : World) (hx : NV w A n c xs) (hy : NV w A' n' c' ys) (hn : n ≤ 1099511627776) (hn' : n' ≤ 1099511627776) :
    Calls Tryz.prog 47 #[.agg #[.bool false, .slice A n c], .agg #[.bool false, .slice A' n' c']] w fun e w' => e = .returned (.int .i64 (cmpM (mean false xs) (mean false ys))) ∧ Below w.heap.size w w' := by
  have hB : ∀ o o' : Obj, Below w.heap.size w ((w.alloc o).alloc o') := fun o o' => below_al (below_al (Below.refl _ _) o) o'
  have ky0 : Box ((w.alloc (Obj.cells #[.bool false, .slice A n c] 24)).alloc (Obj.cells #[.bool false, .slice A' n' c'] 24)) (w.heap.size + 1) false A' n' c' ys := ⟨by go_simp, by go_simp, by first | (simp; done) | (simp; omega), hy.below (hB _ _)⟩
  go_enter Tryz.func47, Tryz.ntmps47
  go_wp2_with (first
      | (go_at_call 68; (with_reducible refine (clean_any false A n c xs _ (hx.below (hB _ _)) (by omega)).mono ?_); rintro e w1 ⟨A1, m1, d1, rfl, hv1, hf1, hm1, hb1⟩; have hM1 := hm1.out; have hB1 := below_step (hB _ _) hb1 (hB _ _).size; have k1 := Box.made hv1 false; have ky := (ky0.go hb1).alloc (Obj.cells #[.bool false, .slice A1 m1 d1] 24); have py := ky.1; have qy := ky.2.1)
      | (go_at_call 68; (with_reducible refine (clean_any false A' n' c' ys _ ky.nv (by omega)).mono ?_); rintro e w2 ⟨A2, m2, d2, rfl, hv2, hf2, hm2, hb2⟩; have hM2 := hm2.out; have hB2 := below_step (below_al hB1 _) hb2 (below_al hB1 _).size; have k2 := (k1.go hb2).alloc (Obj.cells #[.bool false, .slice A2 m2 d2] 24); have k3 := Box.made hv2 false; have p0 := k2.1; have p1 := k2.2.1; have hB3 := below_al hB2 (Obj.cells #[.bool false, .slice A2 m2 d2] 24)))
  · have h : ((m1 : Int) != (m2 : Int)) = true := by assumption
    have hl := rc_len hv1 hv2 (ne_of_bne h)
    have hlt : m1 < m2 := by assumption
    go_ret
    exact ⟨by rw [hl]; unfold cmpI; rw [if_pos (by omega)]; rfl, hB3⟩
  · have h : ((m1 : Int) != (m2 : Int)) = true := by assumption
    have hne : m1 ≠ m2 := ne_of_bne h
    have hl := rc_len hv1 hv2 hne
    have hlt : ¬ m1 < m2 := by assumption
    go_ret
    exact ⟨by rw [hl]; unfold cmpI; rw [if_neg (by omega), if_pos (by omega)]; rfl, hB3⟩
  · have h : ((m1 : Int) != (m2 : Int)) = false := by assumption
    obtain rfl : m1 = m2 := eq_of_bne h
    clear h
    have hX := k2.nv
    have hY := k3.nv
    have p2 := k3.1
    have p3 := k3.2.1
    obtain ⟨X, hXd⟩ : ∃ X, X = cleanD false xs := ⟨_, rfl⟩
    obtain ⟨Y, hYd⟩ : ∃ Y, Y = cleanD false ys := ⟨_, rfl⟩
    have hv : cmpM (mean false xs) (mean false ys) = cmpI (val X) (val Y) := by rw [hXd, hYd, ← mean_cleanD false xs, ← mean_cleanD false ys]; rfl
    rw [← hXd] at hX
    rw [← hYd] at hY
    have HV := Lib.hid hv
    have uX := hX.2.2.1
    have uY := hY.2.2.1
    have lX := Lib.hid hX.len
    have lY := Lib.hid hY.len
    have rX := hX.1
    have rY := hY.1
    have hm64 := hX.2.2.2
    have hd1 := hX.2.1
    have hd2 := hY.2.1
    clear hv hXd hYd hX hY hv1 hv2 hf1 hf2 hm1 hm2 k1 k2 k3 ky py qy hb1 hb2 hB1 hB2 hx hy hB ky0
    generalize w2.alloc (Obj.cells #[Value.bool false, Value.slice A2 m1 d2] 24) = W at *
    generalize w1.heap.size = g1 at *
    generalize w2.heap.size = g2 at *
    go_loopw [7] (fun v wr => ∃ j : Nat, Quiet W wr ∧ j ≤ m1 ∧ v = .int .i64 ((j : Int) - 1) ∧ Hid (X.drop j = Y.drop j)) (fun v _ => (RowKit.intOf v + 1).toNat)
    case atStart => exact ⟨m1, ⟨0, rfl⟩, Nat.le_refl _, rfl, Lib.hid (by rw [List.drop_eq_nil_of_le (by rw [lX.out]; omega), List.drop_eq_nil_of_le (by rw [lY.out]; omega)])⟩
    case round =>
      obtain ⟨j, hq, hj, rfl, hd⟩ := hrel
      have hq0 := hq
      have hfr := hq.from hB3
      by_cases hj0 : j = 0
      · subst hj0
        have hz : Hid (cmpM (mean false xs) (mean false ys) = 0) := Lib.hid (by have := hd.out; simp only [List.drop_zero] at this; rw [HV.out, this]; exact cmpI_self _)
        clear hq hq0
        rw [show (((0 : Nat) : Int) - 1) = -1 from rfl]
        go_wp2_with fail
        go_ret
        exact ⟨by rw [hz.out]; rfl, hfr⟩
      · obtain ⟨j, rfl⟩ : ∃ k, j = k + 1 := ⟨j - 1, by omega⟩
        rw [show (((j + 1 : Nat) : Int) - 1) = (j : Int) by omega]
        obtain ⟨ad, rfl, _, hcx⟩ := (hq.reads rX).get (show j < m1 by omega)
        obtain ⟨ad', rfl, _, hcy⟩ := (hq.reads rY).get (show j < m1 by omega)
        have hn : Hid (cmpI (X.getD j 0) (Y.getD j 0) ≠ 0 → cmpI (X.getD j 0) (Y.getD j 0) = cmpM (mean false xs) (mean false ys)) := Lib.hid (fun h => by
          rw [HV.out]; exact cmp_digit uX uY (by rw [lX.out]; omega) (by rw [lY.out]; omega) hd.out h)
        have he : Hid (X.getD j 0 = Y.getD j 0 → X.drop j = Y.drop j) := Lib.hid (fun h => by
          rw [drop_cons X j (by rw [lX.out]; omega), drop_cons Y j (by rw [lY.out]; omega), h, hd.out])
        obtain ⟨q, rfl⟩ := hq
        have e0 : (W.drewN q).cell? ⟨g1, 1, none⟩ = some (.slice (some ad) m1 d1) := p1
        have e1 : (W.drewN q).cell? ⟨g2, 1, none⟩ = some (.slice (some ad') m1 d2) := p3
        have hjm : (j : Int) < (m1 : Int) := by omega
        generalize X.getD j 0 = x at *
        generalize Y.getD j 0 = y at *
        generalize W.drewN q = Wq at *
        rcases Int.lt_trichotomy x y with hxy | hxy | hxy
        · have hne : (x != y) = true := by simp; omega
          have hc : Hid (cmpM (mean false xs) (mean false ys) = -1) := Lib.hid (by
            have : cmpI x y = -1 := by unfold cmpI; rw [if_pos hxy]
            rw [← hn.out (by rw [this]; decide), this])
          go_wp2_with fail
          go_quiet (fail)
          go_wp2_with fail
          go_quiet (fail)
          go_wp2_with fail
          go_ret
          exact ⟨by rw [hc.out]; rfl, below_drewN (below_drewN hfr _) _⟩
        · have hne : (x != y) = false := by simp [hxy]
          have hst := Lib.hid (he.out hxy)
          clear hxy
          go_wp2_with fail
          go_quiet (fail)
          go_wp2_with fail
          go_roundw
          case rel => exact ⟨j, hq0.drewN _, by omega, rfl, hst⟩
          case measure => simp [RowKit.intOf]
        · have hne : (x != y) = true := by simp; omega
          have hnl : ¬ x < y := by omega
          have hc : Hid (cmpM (mean false xs) (mean false ys) = 1) := Lib.hid (by
            have : cmpI x y = 1 := by unfold cmpI; rw [if_neg hnl, if_pos hxy]
            rw [← hn.out (by rw [this]; decide), this])
          go_wp2_with fail
          go_quiet (fail)
          go_wp2_with fail
          go_quiet (fail)
          go_wp2_with fail
          go_ret
          exact ⟨by rw [hc.out]; rfl, below_drewN (below_drewN hfr _) _⟩
theorem rcompare_any (b b' : Bool) (A A' : Option Addr) (n n' c c' : Nat) (xs ys : List Int) (w : World) (hx : NV w A n c xs) (hy : NV w A' n' c' ys) (hn : n ≤ 1099511627776) (hn' : n' ≤ 1099511627776) :
    Calls Tryz.prog 47 #[.agg #[.bool b, .slice A n c], .agg #[.bool b', .slice A' n' c']] w fun e w' => e = .returned (.int .i64 (cmpM (mean b xs) (mean b' ys))) ∧ Below w.heap.size w w' := by
  cases b <;> cases b'
  · exact rcompare_fin A A' n n' c c' xs ys w hx hy hn hn'
  · exact rcompare_ti A A' n n' c c' xs ys w hx hy hn hn'
  · exact rcompare_it A A' n n' c c' xs ys w hx hy hn hn'
  · exact rcompare_ii A A' n n' c c' xs ys w hx hy hn hn'
end Go.Proofs.YtdkmmnehlmaebaaGreatDoor.Na
