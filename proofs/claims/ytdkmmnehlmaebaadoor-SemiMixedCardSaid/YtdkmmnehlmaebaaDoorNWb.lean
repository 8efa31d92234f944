/- The walks of comparing, copying and adding. Conditions: the digits can be read. -/
import Derived.Test.YtdkmmnehlmaebaaDoorNWa
namespace Go.Proofs.YtdkmmnehlmaebaaDoor.Na
open Go.RowKit Go.NT

def cmpI (x y : Int) : Int := if x < y then -1 else if y < x then 1 else 0
theorem cmp34_any (x y : Int) (w : World) : Calls Tryd.prog 98 #[.int .i64 x, .int .i64 y] w fun e w' => e = .returned (.int .i64 (cmpI x y)) ∧ w = w' := by
  by_cases h1 : x < y
  · have HE := Lib.hid (show cmpI x y = -1 by unfold cmpI; rw [if_pos h1])
    go_enter Tryd.func98, Tryd.ntmps98
    go_wp2
    go_ret
    exact ⟨by rw [HE.out]; rfl, rfl⟩
  · by_cases h2 : y < x
    · have HE := Lib.hid (show cmpI x y = 1 by unfold cmpI; rw [if_neg h1, if_pos h2])
      go_enter Tryd.func98, Tryd.ntmps98
      go_wp2
      go_ret
      exact ⟨by rw [HE.out]; rfl, rfl⟩
    · have HE := Lib.hid (show cmpI x y = 0 by unfold cmpI; rw [if_neg h1, if_neg h2])
      go_enter Tryd.func98, Tryd.ntmps98
      go_wp2
      go_ret
      exact ⟨by rw [HE.out]; rfl, rfl⟩
theorem cmp35_any (x y : Int) (w : World) : Calls Tryd.prog 99 #[.int .u32 x, .int .u32 y] w fun e w' => e = .returned (.int .i64 (cmpI x y)) ∧ w' = w := by
  by_cases h1 : x < y
  · have HE := Lib.hid (show cmpI x y = -1 by unfold cmpI; rw [if_pos h1])
    go_enter Tryd.func99, Tryd.ntmps99
    go_wp2
    go_ret
    exact ⟨by rw [HE.out]; rfl, rfl⟩
  · by_cases h2 : y < x
    · have HE := Lib.hid (show cmpI x y = 1 by unfold cmpI; rw [if_neg h1, if_pos h2])
      go_enter Tryd.func99, Tryd.ntmps99
      go_wp2
      go_ret
      exact ⟨by rw [HE.out]; rfl, rfl⟩
    · have HE := Lib.hid (show cmpI x y = 0 by unfold cmpI; rw [if_neg h1, if_neg h2])
      go_enter Tryd.func99, Tryd.ntmps99
      go_wp2
      go_ret
      exact ⟨by rw [HE.out]; rfl, rfl⟩

def Quiet (w w' : World) : Prop := ∃ n, w' = w.drewN n
theorem Quiet.refl (w : World) : Quiet w w := ⟨0, rfl⟩
theorem Quiet.drewN {w w' : World} (h : Quiet w w') (n : Nat) : Quiet w (w'.drewN n) := by
  obtain ⟨m, rfl⟩ := h
  exact ⟨m + n, by rw [World.drewN_drewN]⟩
theorem Quiet.reads {w w' : World} {B n : Nat} {A : Option Addr} {xs : List Value} (h : Quiet w w') (hr : Reads w B 1 A n xs) : Reads w' B 1 A n xs := by
  obtain ⟨m, rfl⟩ := h
  exact hr.drewN m
theorem Quiet.below {w w' : World} (h : Quiet w w') : Below w.heap.size w w' := by
  obtain ⟨n, rfl⟩ := h
  exact ⟨rfl, rfl, rfl, Nat.le_refl _, fun _ _ => rfl⟩

theorem Quiet.from {w w1 w2 : World} {B : Nat} (h : Quiet w1 w2) (hb : Below B w w1) : Below B w w2 := by
  obtain ⟨n, rfl⟩ := h
  exact below_drewN hb n

/-- How two rows of digits stand to each other. -/
theorem cmp_lens {X Y : List Int} (hX : U32 X) (hY : U32 Y) (nX : Norm X) (nY : Norm Y) (h : X.length ≠ Y.length) : cmpI X.length Y.length = cmpI (val X) (val Y) := by
  unfold cmpI
  by_cases l : X.length < Y.length
  · have := val_lt_of_length hX hY nY l
    rw [if_pos (by omega), if_pos this]
  · have := val_lt_of_length hY hX nX (by omega)
    rw [if_neg (by omega), if_pos (by omega), if_neg (by omega), if_pos this]
theorem cmp_digit {X Y : List Int} (hX : U32 X) (hY : U32 Y) {j : Nat} (h1 : j < X.length) (h2 : j < Y.length) (hd : X.drop (j + 1) = Y.drop (j + 1)) (hne : cmpI (X.getD j 0) (Y.getD j 0) ≠ 0) :
    cmpI (X.getD j 0) (Y.getD j 0) = cmpI (val X) (val Y) := by
  unfold cmpI at *
  by_cases l : X.getD j 0 < Y.getD j 0
  · have := val_lt_of_digit hX hY h1 h2 hd l
    rw [if_pos l, if_pos this]
  · by_cases l2 : Y.getD j 0 < X.getD j 0
    · have := val_lt_of_digit hY hX h2 h1 hd.symm l2
      rw [if_neg l, if_pos l2, if_neg (by omega), if_pos this]
    · rw [if_neg l, if_neg l2] at hne; exact absurd rfl hne
theorem cmpI_zero {x y : Int} (h : cmpI x y = 0) : x = y := by
  unfold cmpI at h
  split at h
  · cases h
  · split at h
    · cases h
    · omega
theorem cmpI_self (x : Int) : cmpI x x = 0 := by unfold cmpI; simp

set_option maxHeartbeats 1000000 in
theorem compare_fin (A A' : Option Addr) (n n' c c' : Nat) (xs ys : List Int) (w : World) (hx : NV w A n c xs) (hy : NV w A' n' c' ys) :
    Calls Tryd.prog 75 #[.agg #[.bool false, .slice A n c], .agg #[.bool false, .slice A' n' c']] w fun e w' => e = .returned (.int .i64 (cmpI (val xs) (val ys))) ∧ Below w.heap.size w w' := by
  have hX := hx.strip
  have hY := hy.strip
  have e1 := val_strip xs
  have e2 := val_strip ys
  have nX := Norm.strip xs
  have nY := Norm.strip ys
  obtain ⟨h1, h2, h3, h4⟩ := hx
  obtain ⟨k1, k2, k3, k4⟩ := hy
  have r1 : ∀ o o' : Obj, Reads ((w.alloc o).alloc o') w.heap.size 1 A n (xs.map (Value.int .u32)) := fun o o' => (h1.alloc (Nat.le_refl _) o).alloc (by simp) o'
  have r2 : ∀ o o' : Obj, Reads ((w.alloc o).alloc o') w.heap.size 1 A' n' (ys.map (Value.int .u32)) := fun o o' => (k1.alloc (Nat.le_refl _) o).alloc (by simp) o'
  have r3 : ∀ o o' : Obj, Reads ((w.alloc o).alloc o') w.heap.size 1 A (strip xs).length ((strip xs).map (Value.int .u32)) := fun o o' => (hX.1.alloc (Nat.le_refl _) o).alloc (by simp) o'
  have r4 : ∀ o o' : Obj, Reads ((w.alloc o).alloc o') w.heap.size 1 A' (strip ys).length ((strip ys).map (Value.int .u32)) := fun o o' => (hY.1.alloc (Nat.le_refl _) o).alloc (by simp) o'
  obtain ⟨X, hXd⟩ : ∃ X, X = strip xs := ⟨_, rfl⟩
  obtain ⟨Y, hYd⟩ : ∃ Y, Y = strip ys := ⟨_, rfl⟩
  rw [← hXd] at hX e1 nX r3
  rw [← hYd] at hY e2 nY r4
  have HV := Lib.hid (show cmpI (val xs) (val ys) = cmpI (val X) (val Y) by rw [e1, e2])
  have HX := Lib.hid hXd.symm
  have HY := Lib.hid hYd.symm
  have uX := hX.2.2.1
  have uY := hY.2.2.1
  have lX : X.length ≤ 9223372036854775807 := hX.2.2.2
  have lY : Y.length ≤ 9223372036854775807 := hY.2.2.2
  have hb2 : ∀ o o' : Obj, Below w.heap.size w ((w.alloc o).alloc o') := fun o o' => below_al (below_al (Below.refl _ _) o) o'
  clear e1 e2 hXd hYd hX hY
  go_enter Tryd.func75, Tryd.ntmps75
  go_wp2_with fail
  go_quiet ((go_at_call 86; exact whole_q (by first | exact r1 _ _ | exact r2 _ _) (by first | exact h2 | exact k2) (by first | exact h4 | exact k4) _))
  rw [HX.out, HY.out]
  go_wp2_with (go_at_call 98; refine (cmp34_any _ _ _).mono ?_; rintro e w' ⟨rfl, rfl⟩)
  obtain ⟨R, hR⟩ : ∃ R, R = cmpI (val X) (val Y) := ⟨_, rfl⟩
  have HR := Lib.hid hR
  clear hR
  have hst : Hid ((cmpI X.length Y.length = 0 ∧ X.length = Y.length ∧ X.drop X.length = Y.drop X.length) ∨ (cmpI X.length Y.length ≠ 0 ∧ cmpI X.length Y.length = R)) := Lib.hid (by
    by_cases e : X.length = Y.length
    · left; refine ⟨by rw [e]; exact cmpI_self _, e, ?_⟩
      rw [List.drop_eq_nil_of_le (Nat.le_refl _), e, List.drop_eq_nil_of_le (Nat.le_refl _)]
    · right; refine ⟨fun h => e ?_, ?_⟩
      · have := cmpI_zero h; omega
      · rw [HR.out]; exact cmp_lens uX uY nX nY e)
  generalize cmpI (X.length : Int) (Y.length : Int) = o0 at hst ⊢
  go_loopw [7, 8] (fun o i wr => ∃ (j : Nat) (ov : Int), Quiet ((w.alloc (Obj.cells #[Value.bool false, Value.slice A n c] 24)).alloc (Obj.cells #[Value.bool false, Value.slice A' n' c'] 24)) wr ∧ j ≤ X.length ∧ o = .int .i64 ov ∧ i = .int .i64 ((j : Int) - 1) ∧ Hid ((ov = 0 ∧ X.length = Y.length ∧ X.drop j = Y.drop j) ∨ (ov ≠ 0 ∧ ov = R))) (fun _ i _ => (intOf i + 1).toNat)
  case atStart => exact ⟨X.length, o0, ⟨nq, rfl⟩, Nat.le_refl _, rfl, rfl, hst⟩
  case round =>
    obtain ⟨j, ov, hq, hj, rfl, rfl, hp⟩ := hrel
    rcases hp.out with ⟨h0, hlen, hd⟩ | ⟨h0, hv⟩
    · subst h0
      have HD := Lib.hid hd
      have HLEN := Lib.hid hlen
      have hYj : j ≤ Y.length := by omega
      clear hd hlen
      by_cases hj0 : j = 0
      · subst hj0
        have hRz : Hid (R = 0) := Lib.hid (by have := HD.out; simp only [List.drop_zero] at this; rw [HR.out, this]; exact cmpI_self _)
        rw [show (((0:Nat):Int) - 1) = -1 from rfl]
        go_wp2_with fail
        go_ret
        exact ⟨by rw [HV.out, ← HR.out, hRz.out]; rfl, hq.from (hb2 _ _)⟩
      · obtain ⟨j, rfl⟩ : ∃ k, j = k + 1 := ⟨j - 1, by omega⟩
        have hz : (((j + 1 : Nat) : Int) - 1) = (j : Int) := by omega
        rw [hz]
        obtain ⟨ad, rfl, hb, hcell⟩ := (hq.reads (r3 _ _)).get (show j < X.length by omega)
        obtain ⟨ad', rfl, hb', hcell'⟩ := (hq.reads (r4 _ _)).get (show j < Y.length by omega)
        go_wp2_with fail
        have hlt : (j : Int) < X.length := by omega
        have hlt' : (j : Int) < Y.length := by omega
        have hn : Hid (cmpI (X.getD j 0) (Y.getD j 0) ≠ 0 → cmpI (X.getD j 0) (Y.getD j 0) = R) := Lib.hid (fun h => by
          rw [HR.out]; exact cmp_digit uX uY (by omega) (by omega) HD.out h)
        have he : Hid (cmpI (X.getD j 0) (Y.getD j 0) = 0 → X.drop j = Y.drop j) := Lib.hid (fun h => by
          rw [drop_cons X j (by omega), drop_cons Y j (by omega), cmpI_zero h, HD.out])
        generalize X.getD j 0 = x at *
        generalize Y.getD j 0 = y at *
        go_wp2_with fail
        go_quiet ((go_at_call 99; exact Calls.quiet_of_same (cmp35_any x y _)))
        go_wp2_with fail
        go_roundw
        case rel => exact ⟨j, cmpI x y, hq.drewN _, by omega, rfl, rfl, Lib.hid (by
          by_cases h : cmpI x y = 0
          · exact .inl ⟨h, HLEN.out, he.out h⟩
          · exact .inr ⟨h, hn.out h⟩)⟩
        case measure => simp [intOf]
    · have h0' : (ov == 0) = false := by simpa using h0
      have HVV := Lib.hid hv
      clear hv h0
      go_wp2_with fail
      all_goals
        go_ret
        exact ⟨by rw [HV.out, ← HR.out, ← HVV.out]; rfl, hq.from (hb2 _ _)⟩
end Go.Proofs.YtdkmmnehlmaebaaDoor.Na
