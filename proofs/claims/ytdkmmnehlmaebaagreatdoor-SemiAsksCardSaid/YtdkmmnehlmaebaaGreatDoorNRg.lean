
/- The document's own Mul. Conditions: the digits can be read. -/
import Derived.Test.YtdkmmnehlmaebaaGreatDoorNRe
namespace Go.Proofs.YtdkmmnehlmaebaaGreatDoor.Na
open Go.RowKit Go.NT Go.Lib

theorem clean_kinds (b : Bool) {xs : List Int} (h : U32 xs) : b = true ∨ (b = false ∧ (cleanD false xs).length = 0 ∧ mean false xs = some 0) ∨ (b = false ∧ (cleanD false xs).length ≠ 0 ∧ mean false xs ≠ some 0) := by
  cases b
  · right
    by_cases e : val xs = 0
    · left
      refine ⟨rfl, ?_, by show some (val xs) = some 0; rw [e]⟩
      show (strip xs).length = 0
      rw [(val_zero_iff h).1 e]; rfl
    · right
      refine ⟨rfl, fun e2 => e ((val_zero_iff h).2 (List.eq_nil_of_length_eq_zero e2)), fun e2 => e (Option.some.inj e2)⟩
  · exact .inl rfl
set_option maxRecDepth 100000 in
set_option maxHeartbeats 4000000 in
theorem rmul_ii (A A' : Option Addr) (n n' c c' N : Nat) (xs ys : List Int) (w : World) (hx : NV w A n c xs) (hy : NV w A' n' c' ys) (hn : n ≤ 1099511627776) (hn' : n' ≤ 1099511627776) (_hN : n + n' ≤ N) (hm : Hid (mulM (mean true xs) (mean true ys) = none)) :
    Calls Tryz.prog 72 #[.agg #[.bool true, .slice A n c], .agg #[.bool true, .slice A' n' c']] w fun e w' => NR w w' e (mulM (mean true xs) (mean true ys)) N := by
  have hB : ∀ o o' o'' : Obj, Below w.heap.size w (((w.alloc o).alloc o').alloc o'') := fun o o' o'' => below_al3 w o o' o''
  have ky0 : Box (((w.alloc (Obj.cells #[.bool true, .slice A n c] 24)).alloc (Obj.cells #[.bool true, .slice A' n' c'] 24)).alloc (Obj.cells #[.bool false, .slice none 0 0] 24)) (w.heap.size + 1) true A' n' c' ys := ⟨by go_simp, by go_simp, by first | (simp; done) | (simp; omega), hy.below (hB _ _ _)⟩
  have hr0 : Res (((w.alloc (Obj.cells #[.bool true, .slice A n c] 24)).alloc (Obj.cells #[.bool true, .slice A' n' c'] 24)).alloc (Obj.cells #[.bool false, .slice none 0 0] 24)) (w.heap.size + 2) false (.slice none 0 0) := ⟨by go_simp, by go_simp, by go_simp, by go_simp, by first | (simp; done) | (simp; omega)⟩
  go_enter Tryz.func72, Tryz.ntmps72
  go_wp2_with (first
      | (go_at_call 68; (with_reducible refine (clean_any true A n c xs _ (hx.below (hB _ _ _)) (by omega)).mono ?_); rintro e w1 ⟨A1, m1, d1, rfl, hv1, hf1, hm1, hb1⟩; have hM1 := hm1.out; have hB1 := below_step (hB _ _ _) hb1 (hB _ _ _).size; have hr1 := (hr0.step hb1).alloc (Obj.cells #[.bool true, .slice A1 m1 d1] 24); have k1 := Box.made hv1 true; have ky := (ky0.go hb1).alloc (Obj.cells #[.bool true, .slice A1 m1 d1] 24); have py := ky.1; have qy := ky.2.1)
      | (go_at_call 68; (with_reducible refine (clean_any true A' n' c' ys _ ky.nv (by omega)).mono ?_); rintro e w2 ⟨A2, m2, d2, rfl, hv2, hf2, hm2, hb2⟩; have hM2 := hm2.out; have hB2 := below_step (below_al hB1 _) hb2 (below_al hB1 _).size; have k2 := (k1.go hb2).alloc (Obj.cells #[.bool true, .slice A2 m2 d2] 24); have k3 := Box.made hv2 true; have hr2 := (hr1.step hb2).alloc (Obj.cells #[.bool true, .slice A2 m2 d2] 24); have r0 := hr2.1; have r1 := hr2.2.1; have r2 := hr2.2.2.1; have r3 := hr2.2.2.2.1; have p0 := k2.1; have p1 := k2.2.1; have hB3 := below_al hB2 (Obj.cells #[.bool true, .slice A2 m2 d2] 24)))
  rw [hm.out]
  exact bodyPost_ret (v := .agg #[.bool true, .slice none 0 0]) (by simp [results, Tryz.results72, go_sem, r0, r1]) rfl (NR.inf ((hB3.setCell (p := ⟨w.heap.size + 2, 0, none⟩) (by show w.heap.size ≤ w.heap.size + 2; omega) _).setCell (p := ⟨w.heap.size + 2, 1, none⟩) (by show w.heap.size ≤ w.heap.size + 2; omega) _))
set_option maxRecDepth 100000 in
set_option maxHeartbeats 4000000 in
theorem rmul_iz (A A' : Option Addr) (n n' c c' N : Nat) (xs ys : List Int) (w : World) (hx : NV w A n c xs) (hy : NV w A' n' c' ys) (hn : n ≤ 1099511627776) (hn' : n' ≤ 1099511627776) (_hN : n + n' ≤ N) (hZ2 : Hid ((cleanD false ys).length = 0)) (hm : Hid (mulM (mean true xs) (mean false ys) = some 0)) :
    Calls Tryz.prog 72 #[.agg #[.bool true, .slice A n c], .agg #[.bool false, .slice A' n' c']] w fun e w' => NR w w' e (mulM (mean true xs) (mean false ys)) N := by
  have hB : ∀ o o' o'' : Obj, Below w.heap.size w (((w.alloc o).alloc o').alloc o'') := fun o o' o'' => below_al3 w o o' o''
  have ky0 : Box (((w.alloc (Obj.cells #[.bool true, .slice A n c] 24)).alloc (Obj.cells #[.bool false, .slice A' n' c'] 24)).alloc (Obj.cells #[.bool false, .slice none 0 0] 24)) (w.heap.size + 1) false A' n' c' ys := ⟨by go_simp, by go_simp, by first | (simp; done) | (simp; omega), hy.below (hB _ _ _)⟩
  have hr0 : Res (((w.alloc (Obj.cells #[.bool true, .slice A n c] 24)).alloc (Obj.cells #[.bool false, .slice A' n' c'] 24)).alloc (Obj.cells #[.bool false, .slice none 0 0] 24)) (w.heap.size + 2) false (.slice none 0 0) := ⟨by go_simp, by go_simp, by go_simp, by go_simp, by first | (simp; done) | (simp; omega)⟩
  go_enter Tryz.func72, Tryz.ntmps72
  go_wp2_with (first
      | (go_at_call 68; (with_reducible refine (clean_any true A n c xs _ (hx.below (hB _ _ _)) (by omega)).mono ?_); rintro e w1 ⟨A1, m1, d1, rfl, hv1, hf1, hm1, hb1⟩; have hM1 := hm1.out; have hB1 := below_step (hB _ _ _) hb1 (hB _ _ _).size; have hr1 := (hr0.step hb1).alloc (Obj.cells #[.bool true, .slice A1 m1 d1] 24); have k1 := Box.made hv1 true; have ky := (ky0.go hb1).alloc (Obj.cells #[.bool true, .slice A1 m1 d1] 24); have py := ky.1; have qy := ky.2.1)
      | (go_at_call 68; (with_reducible refine (clean_any false A' n' c' ys _ ky.nv (by omega)).mono ?_); rintro e w2 ⟨A2, m2, d2, rfl, hv2, hf2, hm2, hb2⟩; have hM2 := hm2.out; have hB2 := below_step (below_al hB1 _) hb2 (below_al hB1 _).size; have k2 := (k1.go hb2).alloc (Obj.cells #[.bool false, .slice A2 m2 d2] 24); have hz2 : ((m2 : Int) == 0) = true := (by have h1 := hv2.len; have h2 := hZ2.out; rw [h2] at h1; subst h1; rfl); have k3 := Box.made hv2 false; have hr2 := (hr1.step hb2).alloc (Obj.cells #[.bool false, .slice A2 m2 d2] 24); have r0 := hr2.1; have r1 := hr2.2.1; have r2 := hr2.2.2.1; have r3 := hr2.2.2.2.1; have p0 := k2.1; have p1 := k2.2.1; have hB3 := below_al hB2 (Obj.cells #[.bool false, .slice A2 m2 d2] 24)))
  rw [hm.out]
  exact bodyPost_ret (v := .agg #[.bool false, .slice none 0 0]) (by simp [results, Tryz.results72, go_sem, r0, r1]) rfl (NR.zero ((hB3.setCell (p := ⟨w.heap.size + 2, 0, none⟩) (by show w.heap.size ≤ w.heap.size + 2; omega) _).setCell (p := ⟨w.heap.size + 2, 1, none⟩) (by show w.heap.size ≤ w.heap.size + 2; omega) _))
set_option maxRecDepth 100000 in
set_option maxHeartbeats 4000000 in
theorem rmul_ip (A A' : Option Addr) (n n' c c' N : Nat) (xs ys : List Int) (w : World) (hx : NV w A n c xs) (hy : NV w A' n' c' ys) (hn : n ≤ 1099511627776) (hn' : n' ≤ 1099511627776) (_hN : n + n' ≤ N) (hZ2 : Hid ((cleanD false ys).length ≠ 0)) (hm : Hid (mulM (mean true xs) (mean false ys) = none)) :
    Calls Tryz.prog 72 #[.agg #[.bool true, .slice A n c], .agg #[.bool false, .slice A' n' c']] w fun e w' => NR w w' e (mulM (mean true xs) (mean false ys)) N := by
  have hB : ∀ o o' o'' : Obj, Below w.heap.size w (((w.alloc o).alloc o').alloc o'') := fun o o' o'' => below_al3 w o o' o''
  have ky0 : Box (((w.alloc (Obj.cells #[.bool true, .slice A n c] 24)).alloc (Obj.cells #[.bool false, .slice A' n' c'] 24)).alloc (Obj.cells #[.bool false, .slice none 0 0] 24)) (w.heap.size + 1) false A' n' c' ys := ⟨by go_simp, by go_simp, by first | (simp; done) | (simp; omega), hy.below (hB _ _ _)⟩
  have hr0 : Res (((w.alloc (Obj.cells #[.bool true, .slice A n c] 24)).alloc (Obj.cells #[.bool false, .slice A' n' c'] 24)).alloc (Obj.cells #[.bool false, .slice none 0 0] 24)) (w.heap.size + 2) false (.slice none 0 0) := ⟨by go_simp, by go_simp, by go_simp, by go_simp, by first | (simp; done) | (simp; omega)⟩
  go_enter Tryz.func72, Tryz.ntmps72
  go_wp2_with (first
      | (go_at_call 68; (with_reducible refine (clean_any true A n c xs _ (hx.below (hB _ _ _)) (by omega)).mono ?_); rintro e w1 ⟨A1, m1, d1, rfl, hv1, hf1, hm1, hb1⟩; have hM1 := hm1.out; have hB1 := below_step (hB _ _ _) hb1 (hB _ _ _).size; have hr1 := (hr0.step hb1).alloc (Obj.cells #[.bool true, .slice A1 m1 d1] 24); have k1 := Box.made hv1 true; have ky := (ky0.go hb1).alloc (Obj.cells #[.bool true, .slice A1 m1 d1] 24); have py := ky.1; have qy := ky.2.1)
      | (go_at_call 68; (with_reducible refine (clean_any false A' n' c' ys _ ky.nv (by omega)).mono ?_); rintro e w2 ⟨A2, m2, d2, rfl, hv2, hf2, hm2, hb2⟩; have hM2 := hm2.out; have hB2 := below_step (below_al hB1 _) hb2 (below_al hB1 _).size; have k2 := (k1.go hb2).alloc (Obj.cells #[.bool false, .slice A2 m2 d2] 24); have hz2 : ((m2 : Int) == 0) = false := (by have h1 := hv2.len; have h2 := hZ2.out; simp only [beq_eq_false_iff_ne, ne_eq]; omega); have k3 := Box.made hv2 false; have hr2 := (hr1.step hb2).alloc (Obj.cells #[.bool false, .slice A2 m2 d2] 24); have r0 := hr2.1; have r1 := hr2.2.1; have r2 := hr2.2.2.1; have r3 := hr2.2.2.2.1; have p0 := k2.1; have p1 := k2.2.1; have hB3 := below_al hB2 (Obj.cells #[.bool false, .slice A2 m2 d2] 24)))
  rw [hm.out]
  exact bodyPost_ret (v := .agg #[.bool true, .slice none 0 0]) (by simp [results, Tryz.results72, go_sem, r0, r1]) rfl (NR.inf ((hB3.setCell (p := ⟨w.heap.size + 2, 0, none⟩) (by show w.heap.size ≤ w.heap.size + 2; omega) _).setCell (p := ⟨w.heap.size + 2, 1, none⟩) (by show w.heap.size ≤ w.heap.size + 2; omega) _))
set_option maxRecDepth 100000 in
set_option maxHeartbeats 4000000 in
theorem rmul_zi (A A' : Option Addr) (n n' c c' N : Nat) (xs ys : List Int) (w : World) (hx : NV w A n c xs) (hy : NV w A' n' c' ys) (hn : n ≤ 1099511627776) (hn' : n' ≤ 1099511627776) (_hN : n + n' ≤ N) (hZ1 : Hid ((cleanD false xs).length = 0)) (hm : Hid (mulM (mean false xs) (mean true ys) = some 0)) :
    Calls Tryz.prog 72 #[.agg #[.bool false, .slice A n c], .agg #[.bool true, .slice A' n' c']] w fun e w' => NR w w' e (mulM (mean false xs) (mean true ys)) N := by
  have hB : ∀ o o' o'' : Obj, Below w.heap.size w (((w.alloc o).alloc o').alloc o'') := fun o o' o'' => below_al3 w o o' o''
  have ky0 : Box (((w.alloc (Obj.cells #[.bool false, .slice A n c] 24)).alloc (Obj.cells #[.bool true, .slice A' n' c'] 24)).alloc (Obj.cells #[.bool false, .slice none 0 0] 24)) (w.heap.size + 1) true A' n' c' ys := ⟨by go_simp, by go_simp, by first | (simp; done) | (simp; omega), hy.below (hB _ _ _)⟩
  have hr0 : Res (((w.alloc (Obj.cells #[.bool false, .slice A n c] 24)).alloc (Obj.cells #[.bool true, .slice A' n' c'] 24)).alloc (Obj.cells #[.bool false, .slice none 0 0] 24)) (w.heap.size + 2) false (.slice none 0 0) := ⟨by go_simp, by go_simp, by go_simp, by go_simp, by first | (simp; done) | (simp; omega)⟩
  go_enter Tryz.func72, Tryz.ntmps72
  go_wp2_with (first
      | (go_at_call 68; (with_reducible refine (clean_any false A n c xs _ (hx.below (hB _ _ _)) (by omega)).mono ?_); rintro e w1 ⟨A1, m1, d1, rfl, hv1, hf1, hm1, hb1⟩; have hM1 := hm1.out; have hB1 := below_step (hB _ _ _) hb1 (hB _ _ _).size; have hr1 := (hr0.step hb1).alloc (Obj.cells #[.bool false, .slice A1 m1 d1] 24); have hz1 : ((m1 : Int) == 0) = true := (by have h1 := hv1.len; have h2 := hZ1.out; rw [h2] at h1; subst h1; rfl); have k1 := Box.made hv1 false; have ky := (ky0.go hb1).alloc (Obj.cells #[.bool false, .slice A1 m1 d1] 24); have py := ky.1; have qy := ky.2.1)
      | (go_at_call 68; (with_reducible refine (clean_any true A' n' c' ys _ ky.nv (by omega)).mono ?_); rintro e w2 ⟨A2, m2, d2, rfl, hv2, hf2, hm2, hb2⟩; have hM2 := hm2.out; have hB2 := below_step (below_al hB1 _) hb2 (below_al hB1 _).size; have k2 := (k1.go hb2).alloc (Obj.cells #[.bool true, .slice A2 m2 d2] 24); have k3 := Box.made hv2 true; have hr2 := (hr1.step hb2).alloc (Obj.cells #[.bool true, .slice A2 m2 d2] 24); have r0 := hr2.1; have r1 := hr2.2.1; have r2 := hr2.2.2.1; have r3 := hr2.2.2.2.1; have p0 := k2.1; have p1 := k2.2.1; have hB3 := below_al hB2 (Obj.cells #[.bool true, .slice A2 m2 d2] 24)))
  rw [hm.out]
  exact bodyPost_ret (v := .agg #[.bool false, .slice none 0 0]) (by simp [results, Tryz.results72, go_sem, r0, r1]) rfl (NR.zero ((hB3.setCell (p := ⟨w.heap.size + 2, 0, none⟩) (by show w.heap.size ≤ w.heap.size + 2; omega) _).setCell (p := ⟨w.heap.size + 2, 1, none⟩) (by show w.heap.size ≤ w.heap.size + 2; omega) _))
set_option maxRecDepth 100000 in
set_option maxHeartbeats 4000000 in
theorem rmul_zz (A A' : Option Addr) (n n' c c' N : Nat) (xs ys : List Int) (w : World) (hx : NV w A n c xs) (hy : NV w A' n' c' ys) (hn : n ≤ 1099511627776) (hn' : n' ≤ 1099511627776) (_hN : n + n' ≤ N) (hZ1 : Hid ((cleanD false xs).length = 0)) (hm : Hid (mulM (mean false xs) (mean false ys) = some 0)) :
    Calls Tryz.prog 72 #[.agg #[.bool false, .slice A n c], .agg #[.bool false, .slice A' n' c']] w fun e w' => NR w w' e (mulM (mean false xs) (mean false ys)) N := by
  have hB : ∀ o o' o'' : Obj, Below w.heap.size w (((w.alloc o).alloc o').alloc o'') := fun o o' o'' => below_al3 w o o' o''
  have ky0 : Box (((w.alloc (Obj.cells #[.bool false, .slice A n c] 24)).alloc (Obj.cells #[.bool false, .slice A' n' c'] 24)).alloc (Obj.cells #[.bool false, .slice none 0 0] 24)) (w.heap.size + 1) false A' n' c' ys := ⟨by go_simp, by go_simp, by first | (simp; done) | (simp; omega), hy.below (hB _ _ _)⟩
  have hr0 : Res (((w.alloc (Obj.cells #[.bool false, .slice A n c] 24)).alloc (Obj.cells #[.bool false, .slice A' n' c'] 24)).alloc (Obj.cells #[.bool false, .slice none 0 0] 24)) (w.heap.size + 2) false (.slice none 0 0) := ⟨by go_simp, by go_simp, by go_simp, by go_simp, by first | (simp; done) | (simp; omega)⟩
  go_enter Tryz.func72, Tryz.ntmps72
  go_wp2_with (first
      | (go_at_call 68; (with_reducible refine (clean_any false A n c xs _ (hx.below (hB _ _ _)) (by omega)).mono ?_); rintro e w1 ⟨A1, m1, d1, rfl, hv1, hf1, hm1, hb1⟩; have hM1 := hm1.out; have hB1 := below_step (hB _ _ _) hb1 (hB _ _ _).size; have hr1 := (hr0.step hb1).alloc (Obj.cells #[.bool false, .slice A1 m1 d1] 24); have hz1 : ((m1 : Int) == 0) = true := (by have h1 := hv1.len; have h2 := hZ1.out; rw [h2] at h1; subst h1; rfl); have k1 := Box.made hv1 false; have ky := (ky0.go hb1).alloc (Obj.cells #[.bool false, .slice A1 m1 d1] 24); have py := ky.1; have qy := ky.2.1)
      | (go_at_call 68; (with_reducible refine (clean_any false A' n' c' ys _ ky.nv (by omega)).mono ?_); rintro e w2 ⟨A2, m2, d2, rfl, hv2, hf2, hm2, hb2⟩; have hM2 := hm2.out; have hB2 := below_step (below_al hB1 _) hb2 (below_al hB1 _).size; have k2 := (k1.go hb2).alloc (Obj.cells #[.bool false, .slice A2 m2 d2] 24); have k3 := Box.made hv2 false; have hr2 := (hr1.step hb2).alloc (Obj.cells #[.bool false, .slice A2 m2 d2] 24); have r0 := hr2.1; have r1 := hr2.2.1; have r2 := hr2.2.2.1; have r3 := hr2.2.2.2.1; have p0 := k2.1; have p1 := k2.2.1; have hB3 := below_al hB2 (Obj.cells #[.bool false, .slice A2 m2 d2] 24)))
  rw [hm.out]
  exact bodyPost_ret (v := .agg #[.bool false, .slice none 0 0]) (by simp [results, Tryz.results72, go_sem, r0, r1]) rfl (NR.zero ((hB3.setCell (p := ⟨w.heap.size + 2, 0, none⟩) (by show w.heap.size ≤ w.heap.size + 2; omega) _).setCell (p := ⟨w.heap.size + 2, 1, none⟩) (by show w.heap.size ≤ w.heap.size + 2; omega) _))
set_option maxRecDepth 100000 in
set_option maxHeartbeats 4000000 in
theorem rmul_zp (A A' : Option Addr) (n n' c c' N : Nat) (xs ys : List Int) (w : World) (hx : NV w A n c xs) (hy : NV w A' n' c' ys) (hn : n ≤ 1099511627776) (hn' : n' ≤ 1099511627776) (_hN : n + n' ≤ N) (hZ1 : Hid ((cleanD false xs).length = 0)) (hm : Hid (mulM (mean false xs) (mean false ys) = some 0)) :
    Calls Tryz.prog 72 #[.agg #[.bool false, .slice A n c], .agg #[.bool false, .slice A' n' c']] w fun e w' => NR w w' e (mulM (mean false xs) (mean false ys)) N := by
  have hB : ∀ o o' o'' : Obj, Below w.heap.size w (((w.alloc o).alloc o').alloc o'') := fun o o' o'' => below_al3 w o o' o''
  have ky0 : Box (((w.alloc (Obj.cells #[.bool false, .slice A n c] 24)).alloc (Obj.cells #[.bool false, .slice A' n' c'] 24)).alloc (Obj.cells #[.bool false, .slice none 0 0] 24)) (w.heap.size + 1) false A' n' c' ys := ⟨by go_simp, by go_simp, by first | (simp; done) | (simp; omega), hy.below (hB _ _ _)⟩
  have hr0 : Res (((w.alloc (Obj.cells #[.bool false, .slice A n c] 24)).alloc (Obj.cells #[.bool false, .slice A' n' c'] 24)).alloc (Obj.cells #[.bool false, .slice none 0 0] 24)) (w.heap.size + 2) false (.slice none 0 0) := ⟨by go_simp, by go_simp, by go_simp, by go_simp, by first | (simp; done) | (simp; omega)⟩
  go_enter Tryz.func72, Tryz.ntmps72
  go_wp2_with (first
      | (go_at_call 68; (with_reducible refine (clean_any false A n c xs _ (hx.below (hB _ _ _)) (by omega)).mono ?_); rintro e w1 ⟨A1, m1, d1, rfl, hv1, hf1, hm1, hb1⟩; have hM1 := hm1.out; have hB1 := below_step (hB _ _ _) hb1 (hB _ _ _).size; have hr1 := (hr0.step hb1).alloc (Obj.cells #[.bool false, .slice A1 m1 d1] 24); have hz1 : ((m1 : Int) == 0) = true := (by have h1 := hv1.len; have h2 := hZ1.out; rw [h2] at h1; subst h1; rfl); have k1 := Box.made hv1 false; have ky := (ky0.go hb1).alloc (Obj.cells #[.bool false, .slice A1 m1 d1] 24); have py := ky.1; have qy := ky.2.1)
      | (go_at_call 68; (with_reducible refine (clean_any false A' n' c' ys _ ky.nv (by omega)).mono ?_); rintro e w2 ⟨A2, m2, d2, rfl, hv2, hf2, hm2, hb2⟩; have hM2 := hm2.out; have hB2 := below_step (below_al hB1 _) hb2 (below_al hB1 _).size; have k2 := (k1.go hb2).alloc (Obj.cells #[.bool false, .slice A2 m2 d2] 24); have k3 := Box.made hv2 false; have hr2 := (hr1.step hb2).alloc (Obj.cells #[.bool false, .slice A2 m2 d2] 24); have r0 := hr2.1; have r1 := hr2.2.1; have r2 := hr2.2.2.1; have r3 := hr2.2.2.2.1; have p0 := k2.1; have p1 := k2.2.1; have hB3 := below_al hB2 (Obj.cells #[.bool false, .slice A2 m2 d2] 24)))
  rw [hm.out]
  exact bodyPost_ret (v := .agg #[.bool false, .slice none 0 0]) (by simp [results, Tryz.results72, go_sem, r0, r1]) rfl (NR.zero ((hB3.setCell (p := ⟨w.heap.size + 2, 0, none⟩) (by show w.heap.size ≤ w.heap.size + 2; omega) _).setCell (p := ⟨w.heap.size + 2, 1, none⟩) (by show w.heap.size ≤ w.heap.size + 2; omega) _))
set_option maxRecDepth 100000 in
set_option maxHeartbeats 4000000 in
theorem rmul_pi (A A' : Option Addr) (n n' c c' N : Nat) (xs ys : List Int) (w : World) (hx : NV w A n c xs) (hy : NV w A' n' c' ys) (hn : n ≤ 1099511627776) (hn' : n' ≤ 1099511627776) (_hN : n + n' ≤ N) (hZ1 : Hid ((cleanD false xs).length ≠ 0)) (hm : Hid (mulM (mean false xs) (mean true ys) = none)) :
    Calls Tryz.prog 72 #[.agg #[.bool false, .slice A n c], .agg #[.bool true, .slice A' n' c']] w fun e w' => NR w w' e (mulM (mean false xs) (mean true ys)) N := by
  have hB : ∀ o o' o'' : Obj, Below w.heap.size w (((w.alloc o).alloc o').alloc o'') := fun o o' o'' => below_al3 w o o' o''
  have ky0 : Box (((w.alloc (Obj.cells #[.bool false, .slice A n c] 24)).alloc (Obj.cells #[.bool true, .slice A' n' c'] 24)).alloc (Obj.cells #[.bool false, .slice none 0 0] 24)) (w.heap.size + 1) true A' n' c' ys := ⟨by go_simp, by go_simp, by first | (simp; done) | (simp; omega), hy.below (hB _ _ _)⟩
  have hr0 : Res (((w.alloc (Obj.cells #[.bool false, .slice A n c] 24)).alloc (Obj.cells #[.bool true, .slice A' n' c'] 24)).alloc (Obj.cells #[.bool false, .slice none 0 0] 24)) (w.heap.size + 2) false (.slice none 0 0) := ⟨by go_simp, by go_simp, by go_simp, by go_simp, by first | (simp; done) | (simp; omega)⟩
  go_enter Tryz.func72, Tryz.ntmps72
  go_wp2_with (first
      | (go_at_call 68; (with_reducible refine (clean_any false A n c xs _ (hx.below (hB _ _ _)) (by omega)).mono ?_); rintro e w1 ⟨A1, m1, d1, rfl, hv1, hf1, hm1, hb1⟩; have hM1 := hm1.out; have hB1 := below_step (hB _ _ _) hb1 (hB _ _ _).size; have hr1 := (hr0.step hb1).alloc (Obj.cells #[.bool false, .slice A1 m1 d1] 24); have hz1 : ((m1 : Int) == 0) = false := (by have h1 := hv1.len; have h2 := hZ1.out; simp only [beq_eq_false_iff_ne, ne_eq]; omega); have k1 := Box.made hv1 false; have ky := (ky0.go hb1).alloc (Obj.cells #[.bool false, .slice A1 m1 d1] 24); have py := ky.1; have qy := ky.2.1)
      | (go_at_call 68; (with_reducible refine (clean_any true A' n' c' ys _ ky.nv (by omega)).mono ?_); rintro e w2 ⟨A2, m2, d2, rfl, hv2, hf2, hm2, hb2⟩; have hM2 := hm2.out; have hB2 := below_step (below_al hB1 _) hb2 (below_al hB1 _).size; have k2 := (k1.go hb2).alloc (Obj.cells #[.bool true, .slice A2 m2 d2] 24); have k3 := Box.made hv2 true; have hr2 := (hr1.step hb2).alloc (Obj.cells #[.bool true, .slice A2 m2 d2] 24); have r0 := hr2.1; have r1 := hr2.2.1; have r2 := hr2.2.2.1; have r3 := hr2.2.2.2.1; have p0 := k2.1; have p1 := k2.2.1; have hB3 := below_al hB2 (Obj.cells #[.bool true, .slice A2 m2 d2] 24)))
  rw [hm.out]
  exact bodyPost_ret (v := .agg #[.bool true, .slice none 0 0]) (by simp [results, Tryz.results72, go_sem, r0, r1]) rfl (NR.inf ((hB3.setCell (p := ⟨w.heap.size + 2, 0, none⟩) (by show w.heap.size ≤ w.heap.size + 2; omega) _).setCell (p := ⟨w.heap.size + 2, 1, none⟩) (by show w.heap.size ≤ w.heap.size + 2; omega) _))
set_option maxRecDepth 100000 in
set_option maxHeartbeats 4000000 in
theorem rmul_pz (A A' : Option Addr) (n n' c c' N : Nat) (xs ys : List Int) (w : World) (hx : NV w A n c xs) (hy : NV w A' n' c' ys) (hn : n ≤ 1099511627776) (hn' : n' ≤ 1099511627776) (_hN : n + n' ≤ N) (hZ1 : Hid ((cleanD false xs).length ≠ 0)) (hZ2 : Hid ((cleanD false ys).length = 0)) (hm : Hid (mulM (mean false xs) (mean false ys) = some 0)) :
    Calls Tryz.prog 72 #[.agg #[.bool false, .slice A n c], .agg #[.bool false, .slice A' n' c']] w fun e w' => NR w w' e (mulM (mean false xs) (mean false ys)) N := by
  have hB : ∀ o o' o'' : Obj, Below w.heap.size w (((w.alloc o).alloc o').alloc o'') := fun o o' o'' => below_al3 w o o' o''
  have ky0 : Box (((w.alloc (Obj.cells #[.bool false, .slice A n c] 24)).alloc (Obj.cells #[.bool false, .slice A' n' c'] 24)).alloc (Obj.cells #[.bool false, .slice none 0 0] 24)) (w.heap.size + 1) false A' n' c' ys := ⟨by go_simp, by go_simp, by first | (simp; done) | (simp; omega), hy.below (hB _ _ _)⟩
  have hr0 : Res (((w.alloc (Obj.cells #[.bool false, .slice A n c] 24)).alloc (Obj.cells #[.bool false, .slice A' n' c'] 24)).alloc (Obj.cells #[.bool false, .slice none 0 0] 24)) (w.heap.size + 2) false (.slice none 0 0) := ⟨by go_simp, by go_simp, by go_simp, by go_simp, by first | (simp; done) | (simp; omega)⟩
  go_enter Tryz.func72, Tryz.ntmps72
  go_wp2_with (first
      | (go_at_call 68; (with_reducible refine (clean_any false A n c xs _ (hx.below (hB _ _ _)) (by omega)).mono ?_); rintro e w1 ⟨A1, m1, d1, rfl, hv1, hf1, hm1, hb1⟩; have hM1 := hm1.out; have hB1 := below_step (hB _ _ _) hb1 (hB _ _ _).size; have hr1 := (hr0.step hb1).alloc (Obj.cells #[.bool false, .slice A1 m1 d1] 24); have hz1 : ((m1 : Int) == 0) = false := (by have h1 := hv1.len; have h2 := hZ1.out; simp only [beq_eq_false_iff_ne, ne_eq]; omega); have k1 := Box.made hv1 false; have ky := (ky0.go hb1).alloc (Obj.cells #[.bool false, .slice A1 m1 d1] 24); have py := ky.1; have qy := ky.2.1)
      | (go_at_call 68; (with_reducible refine (clean_any false A' n' c' ys _ ky.nv (by omega)).mono ?_); rintro e w2 ⟨A2, m2, d2, rfl, hv2, hf2, hm2, hb2⟩; have hM2 := hm2.out; have hB2 := below_step (below_al hB1 _) hb2 (below_al hB1 _).size; have k2 := (k1.go hb2).alloc (Obj.cells #[.bool false, .slice A2 m2 d2] 24); have hz2 : ((m2 : Int) == 0) = true := (by have h1 := hv2.len; have h2 := hZ2.out; rw [h2] at h1; subst h1; rfl); have k3 := Box.made hv2 false; have hr2 := (hr1.step hb2).alloc (Obj.cells #[.bool false, .slice A2 m2 d2] 24); have r0 := hr2.1; have r1 := hr2.2.1; have r2 := hr2.2.2.1; have r3 := hr2.2.2.2.1; have p0 := k2.1; have p1 := k2.2.1; have hB3 := below_al hB2 (Obj.cells #[.bool false, .slice A2 m2 d2] 24)))
  rw [hm.out]
  exact bodyPost_ret (v := .agg #[.bool false, .slice none 0 0]) (by simp [results, Tryz.results72, go_sem, r0, r1]) rfl (NR.zero ((hB3.setCell (p := ⟨w.heap.size + 2, 0, none⟩) (by show w.heap.size ≤ w.heap.size + 2; omega) _).setCell (p := ⟨w.heap.size + 2, 1, none⟩) (by show w.heap.size ≤ w.heap.size + 2; omega) _))
set_option maxRecDepth 100000 in
set_option maxHeartbeats 4000000 in
theorem rmul_fin (A A' : Option Addr) (n n' c c' N : Nat) (xs ys : List Int) (w : World) (hx : NV w A n c xs) (hy : NV w A' n' c' ys) (hn : n ≤ 1099511627776) (hn' : n' ≤ 1099511627776) (hN : n + n' ≤ N) (hZ1 : Hid ((cleanD false xs).length ≠ 0)) (hZ2 : Hid ((cleanD false ys).length ≠ 0)) :
    Calls Tryz.prog 72 #[.agg #[.bool false, .slice A n c], .agg #[.bool false, .slice A' n' c']] w fun e w' => NR w w' e (mulM (mean false xs) (mean false ys)) N := by
  have hB : ∀ o o' o'' : Obj, Below w.heap.size w (((w.alloc o).alloc o').alloc o'') := fun o o' o'' => below_al3 w o o' o''
  have ky0 : Box (((w.alloc (Obj.cells #[.bool false, .slice A n c] 24)).alloc (Obj.cells #[.bool false, .slice A' n' c'] 24)).alloc (Obj.cells #[.bool false, .slice none 0 0] 24)) (w.heap.size + 1) false A' n' c' ys := ⟨by go_simp, by go_simp, by first | (simp; done) | (simp; omega), hy.below (hB _ _ _)⟩
  have hr0 : Res (((w.alloc (Obj.cells #[.bool false, .slice A n c] 24)).alloc (Obj.cells #[.bool false, .slice A' n' c'] 24)).alloc (Obj.cells #[.bool false, .slice none 0 0] 24)) (w.heap.size + 2) false (.slice none 0 0) := ⟨by go_simp, by go_simp, by go_simp, by go_simp, by first | (simp; done) | (simp; omega)⟩
  obtain ⟨i60, hi, hz0, hz1', hz2'⟩ := i60
  go_enter Tryz.func72, Tryz.ntmps72
  go_wp2_with (first
      | (go_at_call 68; (with_reducible refine (clean_any false A n c xs _ (hx.below (hB _ _ _)) (by omega)).mono ?_); rintro e w1 ⟨A1, m1, d1, rfl, hv1, hf1, hm1, hb1⟩; have hM1 := hm1.out; have hB1 := below_step (hB _ _ _) hb1 (hB _ _ _).size; have hr1 := (hr0.step hb1).alloc (Obj.cells #[.bool false, .slice A1 m1 d1] 24); have hz1 : ((m1 : Int) == 0) = false := (by have h1 := hv1.len; have h2 := hZ1.out; simp only [beq_eq_false_iff_ne, ne_eq]; omega); have k1 := Box.made hv1 false; have ky := (ky0.go hb1).alloc (Obj.cells #[.bool false, .slice A1 m1 d1] 24); have py := ky.1; have qy := ky.2.1)
      | (at_make; refine wpList_make_full _ rfl (.tmp 49) (.tmp 49) 22 rfl (w2.alloc (Obj.cells #[.bool false, .slice A2 m2 d2] 24)).heap.size 67 i60 (.int .u32 0) 1 Tryz.underlying22 hi hz0 hz1' .i64 .i64 _ _ (m1 + m2) rfl rfl (by omega) (by omega) (by rw [hz2']; omega) (by unfold maxLen; omega) (Nat.le_refl _) ?_; intro w4 hown hg4)
      | (go_at_call 68; (with_reducible refine (clean_any false A' n' c' ys _ ky.nv (by omega)).mono ?_); rintro e w2 ⟨A2, m2, d2, rfl, hv2, hf2, hm2, hb2⟩; have hM2 := hm2.out; have hB2 := below_step (below_al hB1 _) hb2 (below_al hB1 _).size; have k2 := (k1.go hb2).alloc (Obj.cells #[.bool false, .slice A2 m2 d2] 24); have hz2 : ((m2 : Int) == 0) = false := (by have h1 := hv2.len; have h2 := hZ2.out; simp only [beq_eq_false_iff_ne, ne_eq]; omega); have k3 := Box.made hv2 false; have hr2 := (hr1.step hb2).alloc (Obj.cells #[.bool false, .slice A2 m2 d2] 24); have r0 := hr2.1; have r1 := hr2.2.1; have r2 := hr2.2.2.1; have r3 := hr2.2.2.2.1; have p0 := k2.1; have p1 := k2.2.1; have hB3 := below_al hB2 (Obj.cells #[.bool false, .slice A2 m2 d2] 24)))
  have hX := k2.nv
  have hY := k3.nv
  have p2 := k3.1
  have p3 := k3.2.1
  have l1 := k2.2.2.1
  have l2 := k3.2.2.1
  have l0 := hr2.2.2.2.2
  obtain ⟨X, hXd⟩ : ∃ X, X = cleanD false xs := ⟨_, rfl⟩
  obtain ⟨Y, hYd⟩ : ∃ Y, Y = cleanD false ys := ⟨_, rfl⟩
  have hvx : val X = val xs := by rw [hXd]; exact val_strip xs
  have hvy : val Y = val ys := by rw [hYd]; exact val_strip ys
  rw [← hXd] at hX
  rw [← hYd] at hY
  have HX := Lib.hid hvx
  have HY := Lib.hid hvy
  have uX := hX.2.2.1
  have uY := hY.2.2.1
  have lX := Lib.hid hX.len
  have lY := Lib.hid hY.len
  have rX := hX.1
  have rY := hY.1
  have hd1 := hX.2.1
  have hd2 := hY.2.1
  clear hvx hvy hXd hYd hX hY hv1 hv2 hf1 hf2 hm1 hm2 k1 k2 k3 ky py qy hb1 hb2 hB1 hB2 hx hy hB ky0 hr0 hr1 hr2 p0 p2
  have hsz : (w2.alloc (Obj.cells #[Value.bool false, Value.slice A2 m2 d2] 24)).heap.size = w2.heap.size + 1 := by simp
  generalize w2.alloc (Obj.cells #[Value.bool false, Value.slice A2 m2 d2] 24) = V at *
  generalize w1.heap.size = g1 at *
  generalize w2.heap.size = g2 at *
  obtain rfl := lX.out
  obtain rfl := lY.out
  rw [zeros_cells _ _ rfl] at hown
  have hb4 : Below V.heap.size V w4 := (Below.refl _ _).grown hg4 (Nat.le_refl _) (by intro k hk; cases hk)
  clear hg4
  rw [hsz] at hown hb4 rX rY l0 l1 l2
  go_loopw [8] (fun iv wr => ∃ (k : Nat) (L : List Int), k ≤ X.length ∧ iv = .int .i64 k ∧ wr.ownsRow (g2 + 1) 67 1 (.slice (some ⟨g2 + 1, 0, none⟩) (X.length + Y.length) (X.length + Y.length)) (X.length + Y.length) (L.map (Value.int .u32)) ∧ Below (g2 + 1) V wr ∧ Hid (MulOut X Y k L)) (fun iv _ => X.length - (RowKit.intOf iv).toNat)
  case atStart => exact ⟨0, _, Nat.zero_le _, rfl, hown, hb4, Lib.hid (MulOut.start X Y)⟩
  case round =>
    obtain ⟨k, L, hk, rfl, hown2, hb2, hp⟩ := hrel
    have q1 := (hb2.cell (p := ⟨g1, 1, none⟩) l1).trans p1
    have q3 := (hb2.cell (p := ⟨g2, 1, none⟩) l2).trans p3
    by_cases hlt : k < X.length
    · obtain ⟨adx, rfl, _, hcx⟩ := (rX.below hb2).get hlt
      have hcx0 := (rX).get hlt
      obtain ⟨adx', ex, hax, hcx0⟩ := hcx0
      obtain rfl : adx = adx' := by injection ex
      have hXb := uX.getD k
      obtain ⟨d, hd⟩ : ∃ d, d = X.getD k 0 := ⟨_, rfl⟩
      rw [← hd] at hcx hXb hcx0
      have HD := Lib.hid hd
      clear hd
      have hXb1 : d < 4294967296 := hXb.2
      have hXb0 := hXb.1
      clear hXb
      go_wp2_with fail
      go_loopw [9, 10] (fun cv kv wr2 => ∃ (j : Nat) (L2 : List Int) (cc : Int), j ≤ Y.length ∧ cv = .int .u64 cc ∧ kv = .int .i64 j ∧ wr2.ownsRow (g2 + 1) 67 1 (.slice (some ⟨g2 + 1, 0, none⟩) (X.length + Y.length) (X.length + Y.length)) (X.length + Y.length) (L2.map (Value.int .u32)) ∧ Below (g2 + 1) V wr2 ∧ Hid (MulIn L Y d k j L2 cc)) (fun _ kv _ => Y.length - (RowKit.intOf kv).toNat)
      case atStart => exact ⟨0, L, 0, Nat.zero_le _, rfl, rfl, hown2, hb2, Lib.hid hp.out.enter⟩
      case round =>
        obtain ⟨j, L2, cc, hj, rfl, rfl, hown3, hb3', hq⟩ := hrel
        have q4 := (hb3'.cell (p := ⟨g1, 1, none⟩) l1).trans p1
        have q5 := (hb3'.cell (p := ⟨g2, 1, none⟩) l2).trans p3
        have hcx2 := (hb3'.cell (p := adx.add k) (by rw [block_of_add]; exact hax)).trans hcx0
        by_cases hlt2 : j < Y.length
        · obtain ⟨ady, rfl, _, hcy⟩ := (rY.below hb3').get hlt2
          obtain ⟨hcl, hfz⟩ := Reads.getU hown3 (show k + j < X.length + Y.length by omega)
          have hst0 := hq.out.step uY hXb0 hXb1 hlt2 (by have := hp.out.len; omega)
          rw [← Int.add_assoc] at hst0
          have hst := Lib.hid hst0
          clear hst0
          obtain ⟨hm1, hm2, hl1, hl2⟩ := hq.out.bound (k := j) uY hXb0 hXb1
          have hm2' : d * Y.getD j 0 ≤ 18446744065119617025 := hm2
          have hl2' : L2.getD (k + j) 0 < 4294967296 := hl2
          have hYb := uY.getD j
          have hYb1 : Y.getD j 0 < 4294967296 := hYb.2
          have hYb0 := hYb.1
          have hcb := hq.out.c0
          have hcb2 : cc < 4294967296 := hq.out.c1
          have hos := fun (q : Nat) x => own_set (w := wr.drewN q) (show (wr.drewN q).ownsRow (g2 + 1) 67 1 (.slice (some ⟨g2 + 1, 0, none⟩) (X.length + Y.length) (X.length + Y.length)) (X.length + Y.length) (L2.map (Value.int .u32)) from hown3) (k + j) x (below_drewN hb3' q) (Nat.le_refl _)
          have hkj : (((k : Int) + (j : Int)).toNat) = k + j := by omega
          have hk1 : (k : Int) < (X.length : Int) := by omega
          have hj1 : (j : Int) < (Y.length : Int) := by omega
          clear hm2 hl2 hYb
          generalize L2.getD (k + j) 0 = x at *
          generalize Y.getD j 0 = y at *
          go_wp2_with fail
          go_quiet (fail)
          go_wp2_with fail
          exact ⟨⟨j + 1, _, _, by omega, rfl, by go_num, (hos _ _).1, (hos _ _).2, hst⟩, by simp [RowKit.intOf]; omega⟩
        · obtain rfl : j = Y.length := by omega
          have hst := Lib.hid (hp.out.step hlt (HD.out ▸ hq.out))
          obtain ⟨hcl, hfz⟩ := Reads.getU hown3 (show k + Y.length < X.length + Y.length by omega)
          have hcb := hq.out.c0
          have hcb2 : cc < 4294967296 := hq.out.c1
          have hos := fun x => own_set hown3 (k + Y.length) x hb3' (Nat.le_refl _)
          have hkj : (((k : Int) + (Y.length : Int)).toNat) = k + Y.length := by omega
          have hcc : cc % 4294967296 = cc := by omega
          rw [show (W : Int) = 4294967296 from rfl, hcc] at hst
          clear hcc
          go_wp2_with fail
          exact ⟨⟨k + 1, _, by omega, by go_num, (hos _).1, (hos _).2, hst⟩, by simp [RowKit.intOf]; omega⟩
    · obtain rfl : k = X.length := by omega
      have HM := Lib.hid hp.out.done
      have hU := hp.out.u
      have hNV : NV wr (some ⟨g2 + 1, 0, none⟩) (X.length + Y.length) (X.length + Y.length) L := ⟨Reads.of_own hown2, Nat.le_refl _, hU, by omega⟩
      go_wp2_with (go_at_call 68; (with_reducible refine (clean_any false (some ⟨g2 + 1, 0, none⟩) (X.length + Y.length) (X.length + Y.length) L _ hNV (by omega)).mono ?_); rintro e w5 ⟨A5, m5, d5, rfl, hv5, hf5, hm5, hb5⟩; have hb6 : Below (g2 + 1) V w5 := hb2.trans (hb5.mono (by have := hb2.size; omega)); have r4 := (hb6.cell (p := ⟨w.heap.size + 2, 0, none⟩) l0).trans r0; have r5 := (hb6.cell (p := ⟨w.heap.size + 2, 1, none⟩) l0).trans r1; have r6 := (hb6.frozen (p := ⟨w.heap.size + 2, 0, none⟩) l0).trans r2; have r7 := (hb6.frozen (p := ⟨w.heap.size + 2, 1, none⟩) l0).trans r3)
      have hF : Fresh (w.heap.size + 2 + 1) A5 := hf5.out.mono (by have := hb2.size; omega)
      have hB5 : Below w.heap.size w w5 := below_step hB3 hb6 (by have := hB3.size; omega)
      refine bodyPost_ret (v := .agg #[.bool false, .slice A5 m5 d5]) (by simp [results, Tryz.results72, go_sem, r4, r5]) rfl
        ⟨false, A5, m5, d5, cleanD false L, rfl, NV.set (NV.set hv5 hF 0 _) hF 1 _, Lib.hid ?_, Lib.hid (cleanD_norm _ _), Lib.hid (fun h => by cases h), Lib.hid (by have := hm5.out; omega), (hB5.setCell (p := ⟨w.heap.size + 2, 0, none⟩) (by show w.heap.size ≤ w.heap.size + 2; omega) _).setCell (p := ⟨w.heap.size + 2, 1, none⟩) (by show w.heap.size ≤ w.heap.size + 2; omega) _⟩
      rw [mean_cleanD]
      show some (val L) = some (val xs * val ys)
      rw [← val_strip L, HM.out, HX.out, HY.out]
theorem rmul_any (b b' : Bool) (A A' : Option Addr) (n n' c c' N : Nat) (xs ys : List Int) (w : World) (hx : NV w A n c xs) (hy : NV w A' n' c' ys) (hn : n ≤ 1099511627776) (hn' : n' ≤ 1099511627776) (hN : n + n' ≤ N) :
    Calls Tryz.prog 72 #[.agg #[.bool b, .slice A n c], .agg #[.bool b', .slice A' n' c']] w fun e w' => NR w w' e (mulM (mean b xs) (mean b' ys)) N := by
  have kx : b = true ∨ (b = false ∧ (cleanD false xs).length = 0 ∧ mean false xs = some 0) ∨ (b = false ∧ (cleanD false xs).length ≠ 0 ∧ mean false xs ≠ some 0) := clean_kinds b hx.2.2.1
  have kyy : b' = true ∨ (b' = false ∧ (cleanD false ys).length = 0 ∧ mean false ys = some 0) ∨ (b' = false ∧ (cleanD false ys).length ≠ 0 ∧ mean false ys ≠ some 0) := clean_kinds b' hy.2.2.1
  rcases kx with rfl | ⟨rfl, a1, a2⟩ | ⟨rfl, a1, a2⟩ <;> rcases kyy with rfl | ⟨rfl, e1, e2⟩ | ⟨rfl, e1, e2⟩
  · exact rmul_ii A A' n n' c c' N xs ys w hx hy hn hn' hN (Lib.hid rfl)
  · exact rmul_iz A A' n n' c c' N xs ys w hx hy hn hn' hN (Lib.hid e1) (Lib.hid (by rw [e2]; exact mulM_zero _))
  · exact rmul_ip A A' n n' c c' N xs ys w hx hy hn hn' hN (Lib.hid e1) (Lib.hid (by rw [mulM_comm]; exact mulM_none e2))
  · exact rmul_zi A A' n n' c c' N xs ys w hx hy hn hn' hN (Lib.hid a1) (Lib.hid (by rw [a2, mulM_comm]; exact mulM_zero _))
  · exact rmul_zz A A' n n' c c' N xs ys w hx hy hn hn' hN (Lib.hid a1) (Lib.hid (by rw [a2, mulM_comm]; exact mulM_zero _))
  · exact rmul_zp A A' n n' c c' N xs ys w hx hy hn hn' hN (Lib.hid a1) (Lib.hid (by rw [a2, mulM_comm]; exact mulM_zero _))
  · exact rmul_pi A A' n n' c c' N xs ys w hx hy hn hn' hN (Lib.hid a1) (Lib.hid (mulM_none a2))
  · exact rmul_pz A A' n n' c c' N xs ys w hx hy hn hn' hN (Lib.hid a1) (Lib.hid e1) (Lib.hid (by rw [e2]; exact mulM_zero _))
  · exact rmul_fin A A' n n' c c' N xs ys w hx hy hn hn' hN (Lib.hid a1) (Lib.hid e1)
end Go.Proofs.YtdkmmnehlmaebaaGreatDoor.Na
