
/- The document's own Add. Conditions: the digits can be read. -/
import Derived.Test.YtdkmmnehlmaebaaGreatDoorNRd
namespace Go.Proofs.YtdkmmnehlmaebaaGreatDoor.Na
open Go.RowKit Go.NT Go.Lib

theorem Res.step {w w' : World} {g : Nat} {t : Bool} {v : Value} (h : Res w g t v) (hb : Below w.heap.size w w') : Res w' g t v := h.go hb h.2.2.2.2
theorem Res.alloc {w : World} {g : Nat} {t : Bool} {v : Value} (h : Res w g t v) (o : Obj) : Res (w.alloc o) g t v := h.step (below_al (Below.refl _ _) o)
theorem val_drop_step (X : List Int) (i : Nat) : val (X.drop i) = X.getD i 0 + 4294967296 * val (X.drop (i + 1)) := by
  by_cases h : i < X.length
  · rw [drop_cons X i h]; rfl
  · rw [List.drop_eq_nil_of_le (by omega), List.drop_eq_nil_of_le (by omega), getD_out (Y := X) (k := i) (by omega)]; rfl
/-- The state of the document's Add behind i digits. -/
def RAdd (X Y : List Int) (i : Nat) (L : List Int) (c : Int) : Prop :=
  L.length = i ∧ U32 L ∧ 0 ≤ c ∧ c ≤ 1 ∧ i ≤ max X.length Y.length + 1 ∧ (i = max X.length Y.length + 1 → c = 0) ∧ val L + W ^ i * (c + val (X.drop i) + val (Y.drop i)) = val X + val Y
theorem RAdd.start (X Y : List Int) : RAdd X Y 0 [] 0 := ⟨rfl, U32.nil, by omega, by omega, by omega, fun h => by omega, by simp [val]⟩
theorem RAdd.step {X Y : List Int} {i : Nat} {L : List Int} {c : Int} (h : RAdd X Y i L c) (uX : U32 X) (uY : U32 Y) (hg : i < X.length ∨ i < Y.length ∨ 0 < c) :
    RAdd X Y (i + 1) (L ++ [(c + X.getD i 0 + Y.getD i 0) % 4294967296]) ((c + X.getD i 0 + Y.getD i 0) / 4294967296) := by
  obtain ⟨h1, h2, h3, h4, h5, h6, h7⟩ := h
  have hx := uX.getD i
  have hy := uY.getD i
  have sx := val_drop_step X i
  have sy := val_drop_step Y i
  have hi : i ≤ max X.length Y.length := by
    rcases hg with h | h | h
    · omega
    · omega
    · by_cases e : i = max X.length Y.length + 1
      · have := h6 e; omega
      · omega
  refine ⟨by simp [h1], h2.append (fun z hz => ?_), by omega, ?_, by omega, fun e => ?_, ?_⟩
  · simp only [List.mem_singleton] at hz
    subst hz
    unfold W
    omega
  · unfold W at hx hy; omega
  · have hxo : X.length ≤ i := by omega
    have hyo : Y.length ≤ i := by omega
    rw [getD_out (Y := X) (k := i) hxo, getD_out (Y := Y) (k := i) hyo]
    omega
  · rw [val_append, h1]
    generalize X.getD i 0 = x at *
    generalize Y.getD i 0 = y at *
    generalize val (X.drop (i + 1)) = dx at *
    generalize val (Y.drop (i + 1)) = dy at *
    rw [sx, sy] at h7
    rw [← h7, Int.pow_succ]
    have hdm := Int.emod_add_mul_ediv (c + x + y) 4294967296
    generalize (c + x + y) % 4294967296 = d at *
    generalize (c + x + y) / 4294967296 = q at *
    have e1 : c + (x + 4294967296 * dx) + (y + 4294967296 * dy) = d + 4294967296 * (q + dx + dy) := by omega
    rw [e1, Int.mul_add (W ^ i) d, ← Int.mul_assoc (W ^ i) 4294967296]
    simp only [val, Int.mul_zero, Int.add_zero]
    rw [show (W : Int) = 4294967296 from rfl, Int.add_assoc]
theorem RAdd.done {X Y : List Int} {i : Nat} {L : List Int} (h : RAdd X Y i L 0) (hx : X.length ≤ i) (hy : Y.length ≤ i) : val L = val X + val Y := by
  have h7 := h.2.2.2.2.2.2
  rw [List.drop_eq_nil_of_le hx, List.drop_eq_nil_of_le hy] at h7
  simpa [val] using h7
set_option maxRecDepth 100000 in
set_option maxHeartbeats 2000000 in
theorem radd_it (A A' : Option Addr) (n n' c c' N : Nat) (xs ys : List Int) (w : World) (hx : NV w A n c xs) (hy : NV w A' n' c' ys) (hn : n ≤ 1099511627776) (hn' : n' ≤ 1099511627776) (_hN : max n n' + 1 ≤ N) :
    Calls Tryz.prog 71 #[.agg #[.bool true, .slice A n c], .agg #[.bool false, .slice A' n' c']] w fun e w' => NR w w' e (addM (mean true xs) (mean false ys)) N := by
  have hB : ∀ o o' o'' : Obj, Below w.heap.size w (((w.alloc o).alloc o').alloc o'') := fun o o' o'' => below_al3 w o o' o''
  have ky0 : Box (((w.alloc (Obj.cells #[.bool true, .slice A n c] 24)).alloc (Obj.cells #[.bool false, .slice A' n' c'] 24)).alloc (Obj.cells #[.bool false, .slice none 0 0] 24)) (w.heap.size + 1) false A' n' c' ys := ⟨by go_simp, by go_simp, by first | (simp; done) | (simp; omega), hy.below (hB _ _ _)⟩
  have hr0 : Res (((w.alloc (Obj.cells #[.bool true, .slice A n c] 24)).alloc (Obj.cells #[.bool false, .slice A' n' c'] 24)).alloc (Obj.cells #[.bool false, .slice none 0 0] 24)) (w.heap.size + 2) false (.slice none 0 0) := ⟨by go_simp, by go_simp, by go_simp, by go_simp, by first | (simp; done) | (simp; omega)⟩
  go_enter Tryz.func71, Tryz.ntmps71
  go_wp2_with (first
      | (go_at_call 68; (with_reducible refine (clean_any true A n c xs _ (hx.below (hB _ _ _)) (by omega)).mono ?_); rintro e w1 ⟨A1, m1, d1, rfl, hv1, hf1, hm1, hb1⟩; have hM1 := hm1.out; have hB1 := below_step (hB _ _ _) hb1 (hB _ _ _).size; have hr1 := (hr0.step hb1).alloc (Obj.cells #[.bool true, .slice A1 m1 d1] 24); have k1 := Box.made hv1 true; have ky := (ky0.go hb1).alloc (Obj.cells #[.bool true, .slice A1 m1 d1] 24); have py := ky.1; have qy := ky.2.1)
      | (go_at_call 68; (with_reducible refine (clean_any false A' n' c' ys _ ky.nv (by omega)).mono ?_); rintro e w2 ⟨A2, m2, d2, rfl, hv2, hf2, hm2, hb2⟩; have hM2 := hm2.out; have hB2 := below_step (below_al hB1 _) hb2 (below_al hB1 _).size; have k2 := (k1.go hb2).alloc (Obj.cells #[.bool false, .slice A2 m2 d2] 24); have k3 := Box.made hv2 false; have hr2 := (hr1.step hb2).alloc (Obj.cells #[.bool false, .slice A2 m2 d2] 24); have r0 := hr2.1; have r1 := hr2.2.1; have r2 := hr2.2.2.1; have r3 := hr2.2.2.2.1; have p0 := k2.1; have p1 := k2.2.1; have hB3 := below_al hB2 (Obj.cells #[.bool false, .slice A2 m2 d2] 24)))
  exact bodyPost_ret (v := .agg #[.bool true, .slice none 0 0]) (by simp [results, Tryz.results71, go_sem, r0, r1]) rfl (NR.inf ((hB3.setCell (p := ⟨w.heap.size + 2, 0, none⟩) (by show w.heap.size ≤ w.heap.size + 2; omega) _).setCell (p := ⟨w.heap.size + 2, 1, none⟩) (by show w.heap.size ≤ w.heap.size + 2; omega) _))
set_option maxRecDepth 100000 in
set_option maxHeartbeats 2000000 in
theorem radd_ti (A A' : Option Addr) (n n' c c' N : Nat) (xs ys : List Int) (w : World) (hx : NV w A n c xs) (hy : NV w A' n' c' ys) (hn : n ≤ 1099511627776) (hn' : n' ≤ 1099511627776) (_hN : max n n' + 1 ≤ N) :
    Calls Tryz.prog 71 #[.agg #[.bool false, .slice A n c], .agg #[.bool true, .slice A' n' c']] w fun e w' => NR w w' e (addM (mean false xs) (mean true ys)) N := by
  have hB : ∀ o o' o'' : Obj, Below w.heap.size w (((w.alloc o).alloc o').alloc o'') := fun o o' o'' => below_al3 w o o' o''
  have ky0 : Box (((w.alloc (Obj.cells #[.bool false, .slice A n c] 24)).alloc (Obj.cells #[.bool true, .slice A' n' c'] 24)).alloc (Obj.cells #[.bool false, .slice none 0 0] 24)) (w.heap.size + 1) true A' n' c' ys := ⟨by go_simp, by go_simp, by first | (simp; done) | (simp; omega), hy.below (hB _ _ _)⟩
  have hr0 : Res (((w.alloc (Obj.cells #[.bool false, .slice A n c] 24)).alloc (Obj.cells #[.bool true, .slice A' n' c'] 24)).alloc (Obj.cells #[.bool false, .slice none 0 0] 24)) (w.heap.size + 2) false (.slice none 0 0) := ⟨by go_simp, by go_simp, by go_simp, by go_simp, by first | (simp; done) | (simp; omega)⟩
  go_enter Tryz.func71, Tryz.ntmps71
  go_wp2_with (first
      | (go_at_call 68; (with_reducible refine (clean_any false A n c xs _ (hx.below (hB _ _ _)) (by omega)).mono ?_); rintro e w1 ⟨A1, m1, d1, rfl, hv1, hf1, hm1, hb1⟩; have hM1 := hm1.out; have hB1 := below_step (hB _ _ _) hb1 (hB _ _ _).size; have hr1 := (hr0.step hb1).alloc (Obj.cells #[.bool false, .slice A1 m1 d1] 24); have k1 := Box.made hv1 false; have ky := (ky0.go hb1).alloc (Obj.cells #[.bool false, .slice A1 m1 d1] 24); have py := ky.1; have qy := ky.2.1)
      | (go_at_call 68; (with_reducible refine (clean_any true A' n' c' ys _ ky.nv (by omega)).mono ?_); rintro e w2 ⟨A2, m2, d2, rfl, hv2, hf2, hm2, hb2⟩; have hM2 := hm2.out; have hB2 := below_step (below_al hB1 _) hb2 (below_al hB1 _).size; have k2 := (k1.go hb2).alloc (Obj.cells #[.bool true, .slice A2 m2 d2] 24); have k3 := Box.made hv2 true; have hr2 := (hr1.step hb2).alloc (Obj.cells #[.bool true, .slice A2 m2 d2] 24); have r0 := hr2.1; have r1 := hr2.2.1; have r2 := hr2.2.2.1; have r3 := hr2.2.2.2.1; have p0 := k2.1; have p1 := k2.2.1; have hB3 := below_al hB2 (Obj.cells #[.bool true, .slice A2 m2 d2] 24)))
  exact bodyPost_ret (v := .agg #[.bool true, .slice none 0 0]) (by simp [results, Tryz.results71, go_sem, r0, r1]) rfl (NR.inf ((hB3.setCell (p := ⟨w.heap.size + 2, 0, none⟩) (by show w.heap.size ≤ w.heap.size + 2; omega) _).setCell (p := ⟨w.heap.size + 2, 1, none⟩) (by show w.heap.size ≤ w.heap.size + 2; omega) _))
set_option maxRecDepth 100000 in
set_option maxHeartbeats 2000000 in
theorem radd_ii (A A' : Option Addr) (n n' c c' N : Nat) (xs ys : List Int) (w : World) (hx : NV w A n c xs) (hy : NV w A' n' c' ys) (hn : n ≤ 1099511627776) (hn' : n' ≤ 1099511627776) (_hN : max n n' + 1 ≤ N) :
    Calls Tryz.prog 71 #[.agg #[.bool true, .slice A n c], .agg #[.bool true, .slice A' n' c']] w fun e w' => NR w w' e (addM (mean true xs) (mean true ys)) N := by
  have hB : ∀ o o' o'' : Obj, Below w.heap.size w (((w.alloc o).alloc o').alloc o'') := fun o o' o'' => below_al3 w o o' o''
  have ky0 : Box (((w.alloc (Obj.cells #[.bool true, .slice A n c] 24)).alloc (Obj.cells #[.bool true, .slice A' n' c'] 24)).alloc (Obj.cells #[.bool false, .slice none 0 0] 24)) (w.heap.size + 1) true A' n' c' ys := ⟨by go_simp, by go_simp, by first | (simp; done) | (simp; omega), hy.below (hB _ _ _)⟩
  have hr0 : Res (((w.alloc (Obj.cells #[.bool true, .slice A n c] 24)).alloc (Obj.cells #[.bool true, .slice A' n' c'] 24)).alloc (Obj.cells #[.bool false, .slice none 0 0] 24)) (w.heap.size + 2) false (.slice none 0 0) := ⟨by go_simp, by go_simp, by go_simp, by go_simp, by first | (simp; done) | (simp; omega)⟩
  go_enter Tryz.func71, Tryz.ntmps71
  go_wp2_with (first
      | (go_at_call 68; (with_reducible refine (clean_any true A n c xs _ (hx.below (hB _ _ _)) (by omega)).mono ?_); rintro e w1 ⟨A1, m1, d1, rfl, hv1, hf1, hm1, hb1⟩; have hM1 := hm1.out; have hB1 := below_step (hB _ _ _) hb1 (hB _ _ _).size; have hr1 := (hr0.step hb1).alloc (Obj.cells #[.bool true, .slice A1 m1 d1] 24); have k1 := Box.made hv1 true; have ky := (ky0.go hb1).alloc (Obj.cells #[.bool true, .slice A1 m1 d1] 24); have py := ky.1; have qy := ky.2.1)
      | (go_at_call 68; (with_reducible refine (clean_any true A' n' c' ys _ ky.nv (by omega)).mono ?_); rintro e w2 ⟨A2, m2, d2, rfl, hv2, hf2, hm2, hb2⟩; have hM2 := hm2.out; have hB2 := below_step (below_al hB1 _) hb2 (below_al hB1 _).size; have k2 := (k1.go hb2).alloc (Obj.cells #[.bool true, .slice A2 m2 d2] 24); have k3 := Box.made hv2 true; have hr2 := (hr1.step hb2).alloc (Obj.cells #[.bool true, .slice A2 m2 d2] 24); have r0 := hr2.1; have r1 := hr2.2.1; have r2 := hr2.2.2.1; have r3 := hr2.2.2.2.1; have p0 := k2.1; have p1 := k2.2.1; have hB3 := below_al hB2 (Obj.cells #[.bool true, .slice A2 m2 d2] 24)))
  exact bodyPost_ret (v := .agg #[.bool true, .slice none 0 0]) (by simp [results, Tryz.results71, go_sem, r0, r1]) rfl (NR.inf ((hB3.setCell (p := ⟨w.heap.size + 2, 0, none⟩) (by show w.heap.size ≤ w.heap.size + 2; omega) _).setCell (p := ⟨w.heap.size + 2, 1, none⟩) (by show w.heap.size ≤ w.heap.size + 2; omega) _))
set_option maxRecDepth 100000 in
set_option maxHeartbeats 2000000 in
theorem radd_fin (A A' : Option Addr) (n n' c c' N : Nat) (xs ys : List Int) (w : World) (hx : NV w A n c xs) (hy : NV w A' n' c' ys) (hn : n ≤ 1099511627776) (hn' : n' ≤ 1099511627776) (hN : max n n' + 1 ≤ N) :
    Calls Tryz.prog 71 #[.agg #[.bool false, .slice A n c], .agg #[.bool false, .slice A' n' c']] w fun e w' => NR w w' e (addM (mean false xs) (mean false ys)) N := by
  have hB : ∀ o o' o'' : Obj, Below w.heap.size w (((w.alloc o).alloc o').alloc o'') := fun o o' o'' => below_al3 w o o' o''
  have ky0 : Box (((w.alloc (Obj.cells #[.bool false, .slice A n c] 24)).alloc (Obj.cells #[.bool false, .slice A' n' c'] 24)).alloc (Obj.cells #[.bool false, .slice none 0 0] 24)) (w.heap.size + 1) false A' n' c' ys := ⟨by go_simp, by go_simp, by first | (simp; done) | (simp; omega), hy.below (hB _ _ _)⟩
  have hr0 : Res (((w.alloc (Obj.cells #[.bool false, .slice A n c] 24)).alloc (Obj.cells #[.bool false, .slice A' n' c'] 24)).alloc (Obj.cells #[.bool false, .slice none 0 0] 24)) (w.heap.size + 2) false (.slice none 0 0) := ⟨by go_simp, by go_simp, by go_simp, by go_simp, by first | (simp; done) | (simp; omega)⟩
  go_enter Tryz.func71, Tryz.ntmps71
  go_wp2_with (first
      | (go_at_call 68; (with_reducible refine (clean_any false A n c xs _ (hx.below (hB _ _ _)) (by omega)).mono ?_); rintro e w1 ⟨A1, m1, d1, rfl, hv1, hf1, hm1, hb1⟩; have hM1 := hm1.out; have hB1 := below_step (hB _ _ _) hb1 (hB _ _ _).size; have hr1 := (hr0.step hb1).alloc (Obj.cells #[.bool false, .slice A1 m1 d1] 24); have k1 := Box.made hv1 false; have ky := (ky0.go hb1).alloc (Obj.cells #[.bool false, .slice A1 m1 d1] 24); have py := ky.1; have qy := ky.2.1)
      | (go_at_call 68; (with_reducible refine (clean_any false A' n' c' ys _ ky.nv (by omega)).mono ?_); rintro e w2 ⟨A2, m2, d2, rfl, hv2, hf2, hm2, hb2⟩; have hM2 := hm2.out; have hB2 := below_step (below_al hB1 _) hb2 (below_al hB1 _).size; have k2 := (k1.go hb2).alloc (Obj.cells #[.bool false, .slice A2 m2 d2] 24); have k3 := Box.made hv2 false; have hr2 := (hr1.step hb2).alloc (Obj.cells #[.bool false, .slice A2 m2 d2] 24); have r0 := hr2.1; have r1 := hr2.2.1; have r2 := hr2.2.2.1; have r3 := hr2.2.2.2.1; have p0 := k2.1; have p1 := k2.2.1; have hB3 := below_al hB2 (Obj.cells #[.bool false, .slice A2 m2 d2] 24)))
  obtain ⟨i60, hi, hz0, hz1, hz2⟩ := i60
  have hX := k2.nv
  have hY := k3.nv
  have p2 := k3.1
  have p3 := k3.2.1
  have l1 := k2.2.2.1
  have l2 := k3.2.2.1
  have l0 := hr2.2.2.2.2
  obtain ⟨X, hXd⟩ : ∃ X, X = cleanD false xs := ⟨_, rfl⟩
  obtain ⟨Y, hYd⟩ : ∃ Y, Y = cleanD false ys := ⟨_, rfl⟩
  have hvx : val X = val xs := by rw [hXd]; exact val_strip xs
  have hvy : val Y = val ys := by rw [hYd]; exact val_strip ys
  rw [← hXd] at hX
  rw [← hYd] at hY
  have HX := Lib.hid hvx
  have HY := Lib.hid hvy
  have uX := hX.2.2.1
  have uY := hY.2.2.1
  have lX := Lib.hid hX.len
  have lY := Lib.hid hY.len
  have rX := hX.1
  have rY := hY.1
  have hd1 := hX.2.1
  have hd2 := hY.2.1
  clear hvx hvy hXd hYd hX hY hv1 hv2 hf1 hf2 hm1 hm2 k1 k2 k3 ky py qy hb1 hb2 hB1 hB2 hx hy hB ky0 hr0 hr1 hr2 p0 p2
  generalize w2.alloc (Obj.cells #[Value.bool false, Value.slice A2 m2 d2] 24) = V at *
  generalize w1.heap.size = g1 at *
  generalize w2.heap.size = g2 at *
  go_loopw [7, 8, 9] (fun wv cv iv wr => ∃ (i : Nat) (L : List Int) (cc : Int) (A3 : Option Addr) (c3 : Nat), wv = .slice A3 i c3 ∧ cv = .int .u64 cc ∧ iv = .int .i64 i ∧ wr.ownsRow V.heap.size 67 1 (.slice A3 i c3) i (L.map (Value.int .u32)) ∧ i ≤ c3 ∧ Below V.heap.size V wr ∧ Hid (RAdd X Y i L cc)) (fun _ _ iv _ => max m1 m2 + 2 - (RowKit.intOf iv).toNat)
  case atStart => exact ⟨0, [], 0, none, 0, rfl, rfl, rfl, own_nil _ _ _, Nat.le_refl _, Below.refl _ _, Lib.hid (RAdd.start X Y)⟩
  case round =>
    obtain ⟨i, L, cc, A3, c3, rfl, rfl, rfl, hown, hic, hbr, hp⟩ := hrel
    have q1 := (hbr.cell (p := ⟨g1, 1, none⟩) l1).trans p1
    have q3 := (hbr.cell (p := ⟨g2, 1, none⟩) l2).trans p3
    have hxg := uX.getD i
    have hyg := uY.getD i
    have hcb := hp.out.2.2.1
    have hcb2 := hp.out.2.2.2.1
    have hib : i ≤ max m1 m2 + 1 := by have := hp.out.2.2.2.2.1; rwa [lX.out, lY.out] at this
    unfold W at hxg hyg
    have hVs := hbr.size
    by_cases hx1 : i < m1
    · by_cases hy1 : i < m2
      · skip
        obtain ⟨ad, rfl, _, hcx⟩ := (rX.below hbr).get hx1
        obtain ⟨ad', rfl, _, hcy⟩ := (rY.below hbr).get hy1
        have hst := hp.out.step uX uY (Or.inl (by rw [lX.out]; exact hx1))
        have hst := Lib.hid hst
        have hmx : (i : Int) < max (m1 : Int) (m2 : Int) := by omega
        have hi1 : (i : Int) < (m1 : Int) := by omega
        have hi2 : (i : Int) < (m2 : Int) := by omega
        generalize X.getD i 0 = x at *
        generalize Y.getD i 0 = y at *
        go_wp2_with (at_builtin; refine wpList_append_reads _ (Value.int .u32) (fun _ => rfl) 22 67 i60 _ 4 Tryz.underlying22 hi hz0 hz1 hz2 rfl rfl (.tmp 62) (.tmp 65) rfl V.heap.size _ i L rfl (hown.alloc _) _ _ 1 _ _ rfl (Reads.lit1 _ _ _ _) (by unfold maxLen; omega) (by omega) (by simp; omega) ?_; intro A4 n4 c4 w4 hn4 hc4 hown4 hb4; have hb5 := (hbr.alloc hbr.size _).trans hb4)
        obtain rfl : n4 = i + 1 := hn4.out
        exact ⟨⟨i + 1, _, _, A4, c4, rfl, rfl, by go_num, hown4, hc4.out, hb5, hst⟩, by simp [RowKit.intOf]; omega⟩
      · skip
        obtain ⟨ad, rfl, _, hcx⟩ := (rX.below hbr).get hx1
        have hy0 : Y.getD i 0 = 0 := getD_out (by rw [lY.out]; omega)
        have hst := hp.out.step uX uY (Or.inl (by rw [lX.out]; exact hx1))
        rw [hy0, Int.add_zero] at hst
        clear hy0
        have hst := Lib.hid hst
        have hmx : (i : Int) < max (m1 : Int) (m2 : Int) := by omega
        have hi1 : (i : Int) < (m1 : Int) := by omega
        have hi2 : ¬ (i : Int) < (m2 : Int) := by omega
        generalize X.getD i 0 = x at *
        generalize Y.getD i 0 = y at *
        go_wp2_with (at_builtin; refine wpList_append_reads _ (Value.int .u32) (fun _ => rfl) 22 67 i60 _ 4 Tryz.underlying22 hi hz0 hz1 hz2 rfl rfl (.tmp 62) (.tmp 65) rfl V.heap.size _ i L rfl (hown.alloc _) _ _ 1 _ _ rfl (Reads.lit1 _ _ _ _) (by unfold maxLen; omega) (by omega) (by simp; omega) ?_; intro A4 n4 c4 w4 hn4 hc4 hown4 hb4; have hb5 := (hbr.alloc hbr.size _).trans hb4)
        obtain rfl : n4 = i + 1 := hn4.out
        exact ⟨⟨i + 1, _, _, A4, c4, rfl, rfl, by go_num, hown4, hc4.out, hb5, hst⟩, by simp [RowKit.intOf]; omega⟩
    · by_cases hy1 : i < m2
      · skip
        have hx0 : X.getD i 0 = 0 := getD_out (by rw [lX.out]; omega)
        obtain ⟨ad', rfl, _, hcy⟩ := (rY.below hbr).get hy1
        have hst := hp.out.step uX uY (Or.inr (Or.inl (by rw [lY.out]; exact hy1)))
        rw [hx0, Int.add_zero] at hst
        clear hx0
        have hst := Lib.hid hst
        have hmx : (i : Int) < max (m1 : Int) (m2 : Int) := by omega
        have hi1 : ¬ (i : Int) < (m1 : Int) := by omega
        have hi2 : (i : Int) < (m2 : Int) := by omega
        generalize X.getD i 0 = x at *
        generalize Y.getD i 0 = y at *
        go_wp2_with (at_builtin; refine wpList_append_reads _ (Value.int .u32) (fun _ => rfl) 22 67 i60 _ 4 Tryz.underlying22 hi hz0 hz1 hz2 rfl rfl (.tmp 62) (.tmp 65) rfl V.heap.size _ i L rfl (hown.alloc _) _ _ 1 _ _ rfl (Reads.lit1 _ _ _ _) (by unfold maxLen; omega) (by omega) (by simp; omega) ?_; intro A4 n4 c4 w4 hn4 hc4 hown4 hb4; have hb5 := (hbr.alloc hbr.size _).trans hb4)
        obtain rfl : n4 = i + 1 := hn4.out
        exact ⟨⟨i + 1, _, _, A4, c4, rfl, rfl, by go_num, hown4, hc4.out, hb5, hst⟩, by simp [RowKit.intOf]; omega⟩
      · by_cases hc0 : 0 < cc
        · skip
          have hx0 : X.getD i 0 = 0 := getD_out (by rw [lX.out]; omega)
          have hy0 : Y.getD i 0 = 0 := getD_out (by rw [lY.out]; omega)
          have hst := hp.out.step uX uY (Or.inr (Or.inr hc0))
          rw [hx0, Int.add_zero] at hst
          clear hx0
          rw [hy0, Int.add_zero] at hst
          clear hy0
          rw [show cc % 4294967296 = cc by omega] at hst
          have hst := Lib.hid hst
          have hmx : ¬ (i : Int) < max (m1 : Int) (m2 : Int) := by omega
          have hi1 : ¬ (i : Int) < (m1 : Int) := by omega
          have hi2 : ¬ (i : Int) < (m2 : Int) := by omega
          generalize X.getD i 0 = x at *
          generalize Y.getD i 0 = y at *
          go_wp2_with (at_builtin; refine wpList_append_reads _ (Value.int .u32) (fun _ => rfl) 22 67 i60 _ 4 Tryz.underlying22 hi hz0 hz1 hz2 rfl rfl (.tmp 62) (.tmp 65) rfl V.heap.size _ i L rfl (hown.alloc _) _ _ 1 _ _ rfl (Reads.lit1 _ _ _ _) (by unfold maxLen; omega) (by omega) (by simp; omega) ?_; intro A4 n4 c4 w4 hn4 hc4 hown4 hb4; have hb5 := (hbr.alloc hbr.size _).trans hb4)
          obtain rfl : n4 = i + 1 := hn4.out
          exact ⟨⟨i + 1, _, _, A4, c4, rfl, rfl, by go_num, hown4, hc4.out, hb5, hst⟩, by simp [RowKit.intOf]; omega⟩
        · obtain rfl : cc = 0 := by omega
          have hmx : ¬ (i : Int) < max (m1 : Int) (m2 : Int) := by omega
          have hv := hp.out.done (by rw [lX.out]; omega) (by rw [lY.out]; omega)
          have HV := Lib.hid hv
          have hu := hp.out.2.1
          have hNV : NV wr A3 i c3 L := ⟨Reads.of_own hown, hic, hu, by omega⟩
          clear hv
          go_wp2_with (go_at_call 68; (with_reducible refine (clean_any false A3 i c3 L _ hNV (by omega)).mono ?_); rintro e w5 ⟨A5, m5, d5, rfl, hv5, hf5, hm5, hb5⟩; have hb6 : Below V.heap.size V w5 := hbr.trans (hb5.mono hbr.size); have r4 := (hb6.cell (p := ⟨w.heap.size + 2, 0, none⟩) l0).trans r0; have r5 := (hb6.cell (p := ⟨w.heap.size + 2, 1, none⟩) l0).trans r1; have r6 := (hb6.frozen (p := ⟨w.heap.size + 2, 0, none⟩) l0).trans r2; have r7 := (hb6.frozen (p := ⟨w.heap.size + 2, 1, none⟩) l0).trans r3)
          have hF : Fresh (w.heap.size + 2 + 1) A5 := hf5.out.mono (by omega)
          have hB5 : Below w.heap.size w w5 := below_step hB3 hb6 hB3.size
          refine bodyPost_ret (v := .agg #[.bool false, .slice A5 m5 d5]) (by simp [results, Tryz.results71, go_sem, r4, r5]) rfl
            ⟨false, A5, m5, d5, cleanD false L, rfl, NV.set (NV.set hv5 hF 0 _) hF 1 _, Lib.hid ?_, Lib.hid (cleanD_norm _ _), Lib.hid (fun h => by cases h), Lib.hid (by have := hm5.out; omega), (hB5.setCell (p := ⟨w.heap.size + 2, 0, none⟩) (by show w.heap.size ≤ w.heap.size + 2; omega) _).setCell (p := ⟨w.heap.size + 2, 1, none⟩) (by show w.heap.size ≤ w.heap.size + 2; omega) _⟩
          rw [mean_cleanD]
          show some (val L) = some (val xs + val ys)
          rw [HV.out, HX.out, HY.out]
end Go.Proofs.YtdkmmnehlmaebaaGreatDoor.Na
