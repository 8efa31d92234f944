
/- The walk of multiplying. Conditions: the digits can be read. -/
import Derived.Test.YtdkmmnehlmaebaaGreatDoorNWd
namespace Go.Proofs.YtdkmmnehlmaebaaGreatDoor.Na
open Go.RowKit Go.NT

theorem val_nz {X : List Int} (hu : U32 X) (hn : Norm X) (h : X.length ≠ 0) : val X ≠ 0 := by
  intro e
  have := (val_zero_iff hu).1 e
  rw [show strip X = X from hn] at this
  rw [this] at h; exact h rfl
theorem mm_zero {b b' : Bool} {X Y : List Int} (h : (b = false ∧ val X = 0) ∨ (b' = false ∧ val Y = 0)) : mulM (mean b X) (mean b' Y) = some 0 := by
  rcases h with ⟨rfl, h⟩ | ⟨rfl, h⟩
  · cases b' <;> simp [mean, mulM, h]
  · cases b <;> simp [mean, mulM, h]
theorem mm_inf {b b' : Bool} {X Y : List Int} (hb : (b || b') = true) (h1 : b = false → val X ≠ 0) (h2 : b' = false → val Y ≠ 0) : mulM (mean b X) (mean b' Y) = none := by
  cases b <;> cases b'
  · cases hb
  · simp [mean, mulM, h1 rfl]
  · simp [mean, mulM, h2 rfl]
  · rfl

set_option maxRecDepth 100000 in
set_option maxHeartbeats 2000000 in
theorem mul_small (b b' : Bool) (A A' : Option Addr) (n n' c c' N : Nat) (xs ys : List Int) (w : World) (hx : NV w A n c xs) (hy : NV w A' n' c' ys) (hne : ¬ (b = false ∧ b' = false ∧ val xs ≠ 0 ∧ val ys ≠ 0)) :
    Calls Tryz.prog 42 #[.agg #[.bool b, .slice A n c], .agg #[.bool b', .slice A' n' c']] w fun e w' => NR w w' e (mulM (mean b xs) (mean b' ys)) N := by
  obtain ⟨i60, hi, hz0, hz1, hz2⟩ := i60
  have hX := hx.strip
  have hY := hy.strip
  have e1 := val_strip xs
  have e2 := val_strip ys
  have nX := Norm.strip xs
  have nY := Norm.strip ys
  have lx2 := (strip_take xs).2
  have ly2 := (strip_take ys).2
  rw [hx.len] at lx2
  rw [hy.len] at ly2
  obtain ⟨h1, h2, h3, h4⟩ := hx
  obtain ⟨k1, k2, k3, k4⟩ := hy
  obtain ⟨X, hXd⟩ : ∃ X, X = strip xs := ⟨_, rfl⟩
  obtain ⟨Y, hYd⟩ : ∃ Y, Y = strip ys := ⟨_, rfl⟩
  rw [← hXd] at hX e1 nX lx2
  rw [← hYd] at hY e2 nY ly2
  have HX := Lib.hid hXd.symm
  have HY := Lib.hid hYd.symm
  have uX := hX.2.2.1
  have uY := hY.2.2.1
  have rX := hX.1
  have rY := hY.1
  obtain ⟨V, hV⟩ : ∃ V, V = mulM (mean b xs) (mean b' ys) := ⟨_, rfl⟩
  rw [← hV]
  have HVV : Hid (V = mulM (mean b X) (mean b' Y)) := Lib.hid (by rw [hV]; unfold mean; rw [e1, e2])
  rw [← e1, ← e2] at hne
  clear e1 e2 hXd hYd hX hY hV
  have xz : X.length = 0 → val X = 0 := fun h => by rw [List.eq_nil_of_length_eq_zero h]; rfl
  have yz : Y.length = 0 → val Y = 0 := fun h => by rw [List.eq_nil_of_length_eq_zero h]; rfl
  have xn := val_nz uX nX
  have yn := val_nz uY nY
  by_cases hx0 : X.length = 0 <;> by_cases hy0 : Y.length = 0
  · have X0 := Lib.hid (xz hx0)
    have Y0 := Lib.hid (yz hy0)
    have bx : ((X.length : Int) == 0) = true := by rw [hx0]; rfl
    have by0 : ((Y.length : Int) == 0) = true := by rw [hy0]; rfl
    clear xz yz xn yn hx0 hy0
    cases b <;> cases b'
    · have hm : Hid (V = (some 0)) := Lib.hid (by rw [HVV.out]; exact mm_zero (.inl ⟨rfl, X0.out⟩))
      clear HVV hne X0 Y0
      go_enter Tryz.func42, Tryz.ntmps42
      go_wp2_with fail
      go_quiet ((go_at_call 69; exact whole_q (by first | exact h1.al3 _ _ _ | exact k1.al3 _ _ _) (by first | exact h2 | exact k2) (by first | exact h4 | exact k4) _))
      rw [HX.out, HY.out]
      go_wp2_with (go_at_call 45; refine (inf_eq _).mono ?_; rintro e w' ⟨rfl, rfl⟩)
      rw [hm.out]
      exact bodyPost_ret (v := .agg #[.bool false, .slice none 0 0]) (by simp [results, Tryz.results42, go_sem]) rfl (NR.zero (((below_drewN (below_al3 w _ _ _) _).setCell (p := ⟨w.heap.size + 1 + 1, 0, none⟩) (show w.heap.size ≤ w.heap.size + 1 + 1 by omega) _).setCell (p := ⟨w.heap.size + 1 + 1, 1, none⟩) (show w.heap.size ≤ w.heap.size + 1 + 1 by omega) _))
    · have hm : Hid (V = (some 0)) := Lib.hid (by rw [HVV.out]; exact mm_zero (.inl ⟨rfl, X0.out⟩))
      clear HVV hne X0 Y0
      go_enter Tryz.func42, Tryz.ntmps42
      go_wp2_with fail
      go_quiet ((go_at_call 69; exact whole_q (by first | exact h1.al3 _ _ _ | exact k1.al3 _ _ _) (by first | exact h2 | exact k2) (by first | exact h4 | exact k4) _))
      rw [HX.out, HY.out]
      go_wp2_with (go_at_call 45; refine (inf_eq _).mono ?_; rintro e w' ⟨rfl, rfl⟩)
      rw [hm.out]
      exact bodyPost_ret (v := .agg #[.bool false, .slice none 0 0]) (by simp [results, Tryz.results42, go_sem]) rfl (NR.zero (((below_drewN (below_al3 w _ _ _) _).setCell (p := ⟨w.heap.size + 1 + 1, 0, none⟩) (show w.heap.size ≤ w.heap.size + 1 + 1 by omega) _).setCell (p := ⟨w.heap.size + 1 + 1, 1, none⟩) (show w.heap.size ≤ w.heap.size + 1 + 1 by omega) _))
    · have hm : Hid (V = (some 0)) := Lib.hid (by rw [HVV.out]; exact mm_zero (.inr ⟨rfl, Y0.out⟩))
      clear HVV hne X0 Y0
      go_enter Tryz.func42, Tryz.ntmps42
      go_wp2_with fail
      go_quiet ((go_at_call 69; exact whole_q (by first | exact h1.al3 _ _ _ | exact k1.al3 _ _ _) (by first | exact h2 | exact k2) (by first | exact h4 | exact k4) _))
      rw [HX.out, HY.out]
      go_wp2_with (go_at_call 45; refine (inf_eq _).mono ?_; rintro e w' ⟨rfl, rfl⟩)
      rw [hm.out]
      exact bodyPost_ret (v := .agg #[.bool false, .slice none 0 0]) (by simp [results, Tryz.results42, go_sem]) rfl (NR.zero (((below_drewN (below_al3 w _ _ _) _).setCell (p := ⟨w.heap.size + 1 + 1, 0, none⟩) (show w.heap.size ≤ w.heap.size + 1 + 1 by omega) _).setCell (p := ⟨w.heap.size + 1 + 1, 1, none⟩) (show w.heap.size ≤ w.heap.size + 1 + 1 by omega) _))
    · have hm : Hid (V = none) := Lib.hid (by rw [HVV.out]; exact mm_inf rfl (fun h => by cases h) (fun h => by cases h))
      clear HVV hne X0 Y0
      go_enter Tryz.func42, Tryz.ntmps42
      go_wp2_with fail
      go_quiet ((go_at_call 69; exact whole_q (by first | exact h1.al3 _ _ _ | exact k1.al3 _ _ _) (by first | exact h2 | exact k2) (by first | exact h4 | exact k4) _))
      rw [HX.out, HY.out]
      go_wp2_with (go_at_call 45; refine (inf_eq _).mono ?_; rintro e w' ⟨rfl, rfl⟩)
      rw [hm.out]
      exact bodyPost_ret (v := .agg #[.bool true, .slice none 0 0]) (by simp [results, Tryz.results42, go_sem]) rfl (NR.inf (below_al (((below_drewN (below_al3 w _ _ _) _).setCell (p := ⟨w.heap.size + 1 + 1, 0, none⟩) (show w.heap.size ≤ w.heap.size + 1 + 1 by omega) _).setCell (p := ⟨w.heap.size + 1 + 1, 1, none⟩) (show w.heap.size ≤ w.heap.size + 1 + 1 by omega) _) _))
  · have X0 := Lib.hid (xz hx0)
    have Y0 := Lib.hid (yn hy0)
    have bx : ((X.length : Int) == 0) = true := by rw [hx0]; rfl
    have by0 : ((Y.length : Int) == 0) = false := by rw [beq_eq_false_iff_ne]; omega
    clear xz yz xn yn hx0 hy0
    cases b <;> cases b'
    · have hm : Hid (V = (some 0)) := Lib.hid (by rw [HVV.out]; exact mm_zero (.inl ⟨rfl, X0.out⟩))
      clear HVV hne X0 Y0
      go_enter Tryz.func42, Tryz.ntmps42
      go_wp2_with fail
      go_quiet ((go_at_call 69; exact whole_q (by first | exact h1.al3 _ _ _ | exact k1.al3 _ _ _) (by first | exact h2 | exact k2) (by first | exact h4 | exact k4) _))
      rw [HX.out, HY.out]
      go_wp2_with (go_at_call 45; refine (inf_eq _).mono ?_; rintro e w' ⟨rfl, rfl⟩)
      rw [hm.out]
      exact bodyPost_ret (v := .agg #[.bool false, .slice none 0 0]) (by simp [results, Tryz.results42, go_sem]) rfl (NR.zero (((below_drewN (below_al3 w _ _ _) _).setCell (p := ⟨w.heap.size + 1 + 1, 0, none⟩) (show w.heap.size ≤ w.heap.size + 1 + 1 by omega) _).setCell (p := ⟨w.heap.size + 1 + 1, 1, none⟩) (show w.heap.size ≤ w.heap.size + 1 + 1 by omega) _))
    · have hm : Hid (V = (some 0)) := Lib.hid (by rw [HVV.out]; exact mm_zero (.inl ⟨rfl, X0.out⟩))
      clear HVV hne X0 Y0
      go_enter Tryz.func42, Tryz.ntmps42
      go_wp2_with fail
      go_quiet ((go_at_call 69; exact whole_q (by first | exact h1.al3 _ _ _ | exact k1.al3 _ _ _) (by first | exact h2 | exact k2) (by first | exact h4 | exact k4) _))
      rw [HX.out, HY.out]
      go_wp2_with (go_at_call 45; refine (inf_eq _).mono ?_; rintro e w' ⟨rfl, rfl⟩)
      rw [hm.out]
      exact bodyPost_ret (v := .agg #[.bool false, .slice none 0 0]) (by simp [results, Tryz.results42, go_sem]) rfl (NR.zero (((below_drewN (below_al3 w _ _ _) _).setCell (p := ⟨w.heap.size + 1 + 1, 0, none⟩) (show w.heap.size ≤ w.heap.size + 1 + 1 by omega) _).setCell (p := ⟨w.heap.size + 1 + 1, 1, none⟩) (show w.heap.size ≤ w.heap.size + 1 + 1 by omega) _))
    · have hm : Hid (V = none) := Lib.hid (by rw [HVV.out]; exact mm_inf rfl (fun h => by cases h) (fun _ => Y0.out))
      clear HVV hne X0 Y0
      go_enter Tryz.func42, Tryz.ntmps42
      go_wp2_with fail
      go_quiet ((go_at_call 69; exact whole_q (by first | exact h1.al3 _ _ _ | exact k1.al3 _ _ _) (by first | exact h2 | exact k2) (by first | exact h4 | exact k4) _))
      rw [HX.out, HY.out]
      go_wp2_with (go_at_call 45; refine (inf_eq _).mono ?_; rintro e w' ⟨rfl, rfl⟩)
      rw [hm.out]
      exact bodyPost_ret (v := .agg #[.bool true, .slice none 0 0]) (by simp [results, Tryz.results42, go_sem]) rfl (NR.inf (below_al (((below_drewN (below_al3 w _ _ _) _).setCell (p := ⟨w.heap.size + 1 + 1, 0, none⟩) (show w.heap.size ≤ w.heap.size + 1 + 1 by omega) _).setCell (p := ⟨w.heap.size + 1 + 1, 1, none⟩) (show w.heap.size ≤ w.heap.size + 1 + 1 by omega) _) _))
    · have hm : Hid (V = none) := Lib.hid (by rw [HVV.out]; exact mm_inf rfl (fun h => by cases h) (fun h => by cases h))
      clear HVV hne X0 Y0
      go_enter Tryz.func42, Tryz.ntmps42
      go_wp2_with fail
      go_quiet ((go_at_call 69; exact whole_q (by first | exact h1.al3 _ _ _ | exact k1.al3 _ _ _) (by first | exact h2 | exact k2) (by first | exact h4 | exact k4) _))
      rw [HX.out, HY.out]
      go_wp2_with (go_at_call 45; refine (inf_eq _).mono ?_; rintro e w' ⟨rfl, rfl⟩)
      rw [hm.out]
      exact bodyPost_ret (v := .agg #[.bool true, .slice none 0 0]) (by simp [results, Tryz.results42, go_sem]) rfl (NR.inf (below_al (((below_drewN (below_al3 w _ _ _) _).setCell (p := ⟨w.heap.size + 1 + 1, 0, none⟩) (show w.heap.size ≤ w.heap.size + 1 + 1 by omega) _).setCell (p := ⟨w.heap.size + 1 + 1, 1, none⟩) (show w.heap.size ≤ w.heap.size + 1 + 1 by omega) _) _))
  · have X0 := Lib.hid (xn hx0)
    have Y0 := Lib.hid (yz hy0)
    have bx : ((X.length : Int) == 0) = false := by rw [beq_eq_false_iff_ne]; omega
    have by0 : ((Y.length : Int) == 0) = true := by rw [hy0]; rfl
    clear xz yz xn yn hx0 hy0
    cases b <;> cases b'
    · have hm : Hid (V = (some 0)) := Lib.hid (by rw [HVV.out]; exact mm_zero (.inr ⟨rfl, Y0.out⟩))
      clear HVV hne X0 Y0
      go_enter Tryz.func42, Tryz.ntmps42
      go_wp2_with fail
      go_quiet ((go_at_call 69; exact whole_q (by first | exact h1.al3 _ _ _ | exact k1.al3 _ _ _) (by first | exact h2 | exact k2) (by first | exact h4 | exact k4) _))
      rw [HX.out, HY.out]
      go_wp2_with (go_at_call 45; refine (inf_eq _).mono ?_; rintro e w' ⟨rfl, rfl⟩)
      rw [hm.out]
      exact bodyPost_ret (v := .agg #[.bool false, .slice none 0 0]) (by simp [results, Tryz.results42, go_sem]) rfl (NR.zero (((below_drewN (below_al3 w _ _ _) _).setCell (p := ⟨w.heap.size + 1 + 1, 0, none⟩) (show w.heap.size ≤ w.heap.size + 1 + 1 by omega) _).setCell (p := ⟨w.heap.size + 1 + 1, 1, none⟩) (show w.heap.size ≤ w.heap.size + 1 + 1 by omega) _))
    · have hm : Hid (V = none) := Lib.hid (by rw [HVV.out]; exact mm_inf rfl (fun _ => X0.out) (fun h => by cases h))
      clear HVV hne X0 Y0
      go_enter Tryz.func42, Tryz.ntmps42
      go_wp2_with fail
      go_quiet ((go_at_call 69; exact whole_q (by first | exact h1.al3 _ _ _ | exact k1.al3 _ _ _) (by first | exact h2 | exact k2) (by first | exact h4 | exact k4) _))
      rw [HX.out, HY.out]
      go_wp2_with (go_at_call 45; refine (inf_eq _).mono ?_; rintro e w' ⟨rfl, rfl⟩)
      rw [hm.out]
      exact bodyPost_ret (v := .agg #[.bool true, .slice none 0 0]) (by simp [results, Tryz.results42, go_sem]) rfl (NR.inf (below_al (((below_drewN (below_al3 w _ _ _) _).setCell (p := ⟨w.heap.size + 1 + 1, 0, none⟩) (show w.heap.size ≤ w.heap.size + 1 + 1 by omega) _).setCell (p := ⟨w.heap.size + 1 + 1, 1, none⟩) (show w.heap.size ≤ w.heap.size + 1 + 1 by omega) _) _))
    · have hm : Hid (V = (some 0)) := Lib.hid (by rw [HVV.out]; exact mm_zero (.inr ⟨rfl, Y0.out⟩))
      clear HVV hne X0 Y0
      go_enter Tryz.func42, Tryz.ntmps42
      go_wp2_with fail
      go_quiet ((go_at_call 69; exact whole_q (by first | exact h1.al3 _ _ _ | exact k1.al3 _ _ _) (by first | exact h2 | exact k2) (by first | exact h4 | exact k4) _))
      rw [HX.out, HY.out]
      go_wp2_with (go_at_call 45; refine (inf_eq _).mono ?_; rintro e w' ⟨rfl, rfl⟩)
      rw [hm.out]
      exact bodyPost_ret (v := .agg #[.bool false, .slice none 0 0]) (by simp [results, Tryz.results42, go_sem]) rfl (NR.zero (((below_drewN (below_al3 w _ _ _) _).setCell (p := ⟨w.heap.size + 1 + 1, 0, none⟩) (show w.heap.size ≤ w.heap.size + 1 + 1 by omega) _).setCell (p := ⟨w.heap.size + 1 + 1, 1, none⟩) (show w.heap.size ≤ w.heap.size + 1 + 1 by omega) _))
    · have hm : Hid (V = none) := Lib.hid (by rw [HVV.out]; exact mm_inf rfl (fun h => by cases h) (fun h => by cases h))
      clear HVV hne X0 Y0
      go_enter Tryz.func42, Tryz.ntmps42
      go_wp2_with fail
      go_quiet ((go_at_call 69; exact whole_q (by first | exact h1.al3 _ _ _ | exact k1.al3 _ _ _) (by first | exact h2 | exact k2) (by first | exact h4 | exact k4) _))
      rw [HX.out, HY.out]
      go_wp2_with (go_at_call 45; refine (inf_eq _).mono ?_; rintro e w' ⟨rfl, rfl⟩)
      rw [hm.out]
      exact bodyPost_ret (v := .agg #[.bool true, .slice none 0 0]) (by simp [results, Tryz.results42, go_sem]) rfl (NR.inf (below_al (((below_drewN (below_al3 w _ _ _) _).setCell (p := ⟨w.heap.size + 1 + 1, 0, none⟩) (show w.heap.size ≤ w.heap.size + 1 + 1 by omega) _).setCell (p := ⟨w.heap.size + 1 + 1, 1, none⟩) (show w.heap.size ≤ w.heap.size + 1 + 1 by omega) _) _))
  · have X0 := Lib.hid (xn hx0)
    have Y0 := Lib.hid (yn hy0)
    have bx : ((X.length : Int) == 0) = false := by rw [beq_eq_false_iff_ne]; omega
    have by0 : ((Y.length : Int) == 0) = false := by rw [beq_eq_false_iff_ne]; omega
    clear xz yz xn yn hx0 hy0
    cases b <;> cases b'
    · exact absurd ⟨rfl, rfl, X0.out, Y0.out⟩ hne
    · have hm : Hid (V = none) := Lib.hid (by rw [HVV.out]; exact mm_inf rfl (fun _ => X0.out) (fun h => by cases h))
      clear HVV hne X0 Y0
      go_enter Tryz.func42, Tryz.ntmps42
      go_wp2_with fail
      go_quiet ((go_at_call 69; exact whole_q (by first | exact h1.al3 _ _ _ | exact k1.al3 _ _ _) (by first | exact h2 | exact k2) (by first | exact h4 | exact k4) _))
      rw [HX.out, HY.out]
      go_wp2_with (go_at_call 45; refine (inf_eq _).mono ?_; rintro e w' ⟨rfl, rfl⟩)
      rw [hm.out]
      exact bodyPost_ret (v := .agg #[.bool true, .slice none 0 0]) (by simp [results, Tryz.results42, go_sem]) rfl (NR.inf (below_al (((below_drewN (below_al3 w _ _ _) _).setCell (p := ⟨w.heap.size + 1 + 1, 0, none⟩) (show w.heap.size ≤ w.heap.size + 1 + 1 by omega) _).setCell (p := ⟨w.heap.size + 1 + 1, 1, none⟩) (show w.heap.size ≤ w.heap.size + 1 + 1 by omega) _) _))
    · have hm : Hid (V = none) := Lib.hid (by rw [HVV.out]; exact mm_inf rfl (fun h => by cases h) (fun _ => Y0.out))
      clear HVV hne X0 Y0
      go_enter Tryz.func42, Tryz.ntmps42
      go_wp2_with fail
      go_quiet ((go_at_call 69; exact whole_q (by first | exact h1.al3 _ _ _ | exact k1.al3 _ _ _) (by first | exact h2 | exact k2) (by first | exact h4 | exact k4) _))
      rw [HX.out, HY.out]
      go_wp2_with (go_at_call 45; refine (inf_eq _).mono ?_; rintro e w' ⟨rfl, rfl⟩)
      rw [hm.out]
      exact bodyPost_ret (v := .agg #[.bool true, .slice none 0 0]) (by simp [results, Tryz.results42, go_sem]) rfl (NR.inf (below_al (((below_drewN (below_al3 w _ _ _) _).setCell (p := ⟨w.heap.size + 1 + 1, 0, none⟩) (show w.heap.size ≤ w.heap.size + 1 + 1 by omega) _).setCell (p := ⟨w.heap.size + 1 + 1, 1, none⟩) (show w.heap.size ≤ w.heap.size + 1 + 1 by omega) _) _))
    · have hm : Hid (V = none) := Lib.hid (by rw [HVV.out]; exact mm_inf rfl (fun h => by cases h) (fun h => by cases h))
      clear HVV hne X0 Y0
      go_enter Tryz.func42, Tryz.ntmps42
      go_wp2_with fail
      go_quiet ((go_at_call 69; exact whole_q (by first | exact h1.al3 _ _ _ | exact k1.al3 _ _ _) (by first | exact h2 | exact k2) (by first | exact h4 | exact k4) _))
      rw [HX.out, HY.out]
      go_wp2_with (go_at_call 45; refine (inf_eq _).mono ?_; rintro e w' ⟨rfl, rfl⟩)
      rw [hm.out]
      exact bodyPost_ret (v := .agg #[.bool true, .slice none 0 0]) (by simp [results, Tryz.results42, go_sem]) rfl (NR.inf (below_al (((below_drewN (below_al3 w _ _ _) _).setCell (p := ⟨w.heap.size + 1 + 1, 0, none⟩) (show w.heap.size ≤ w.heap.size + 1 + 1 by omega) _).setCell (p := ⟨w.heap.size + 1 + 1, 1, none⟩) (show w.heap.size ≤ w.heap.size + 1 + 1 by omega) _) _))

end Go.Proofs.YtdkmmnehlmaebaaGreatDoor.Na
