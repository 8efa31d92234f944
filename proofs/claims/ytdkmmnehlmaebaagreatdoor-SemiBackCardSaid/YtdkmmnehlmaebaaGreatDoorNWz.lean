
/- Comparing, writing, and what the document fixes. Conditions: the digits can be read; the table of powers is laid. -/
import Derived.Test.YtdkmmnehlmaebaaGreatDoorNWm
import Derived.Test.YtdkmmnehlmaebaaGreatDoorNWt
namespace Go.Proofs.YtdkmmnehlmaebaaGreatDoor.Na
open Go.RowKit Go.NT Go.Lib

set_option maxHeartbeats 1000000 in
theorem compare_any (b b' : Bool) (A A' : Option Addr) (n n' c c' : Nat) (xs ys : List Int) (w : World) (hx : NV w A n c xs) (hy : NV w A' n' c' ys) :
    Calls Tryz.prog 46 #[.agg #[.bool b, .slice A n c], .agg #[.bool b', .slice A' n' c']] w fun e w' => e = .returned (.int .i64 (cmpM (mean b xs) (mean b' ys))) ∧ Below w.heap.size w w' := by
  have hb2 : ∀ o o' : Obj, Below w.heap.size w ((w.alloc o).alloc o') := fun o o' => below_al (below_al (Below.refl _ _) o) o'
  cases b <;> cases b'
  · exact compare_fin A A' n n' c c' xs ys w hx hy
  all_goals
    go_enter Tryz.func46, Tryz.ntmps46
    go_wp2_with fail
    go_ret
    exact ⟨rfl, hb2 _ _⟩
theorem cmpI_eq0 {x y : Int} : cmpI x y = 0 ↔ x = y := ⟨cmpI_zero, fun h => by subst h; exact cmpI_self x⟩
theorem cmpM_eq0 {x y : Option Int} : cmpM x y = 0 ↔ x = y := by
  cases x <;> cases y <;> simp [cmpM, cmpI_eq0]
set_option maxHeartbeats 1000000 in
theorem same_any (b b' : Bool) (A A' : Option Addr) (n n' c c' : Nat) (xs ys : List Int) (w : World) (hx : NV w A n c xs) (hy : NV w A' n' c' ys) :
    Calls Tryz.prog 56 #[.agg #[.bool b, .slice A n c], .agg #[.bool b', .slice A' n' c']] w fun e w' => e = .returned (.bool (decide (mean b xs = mean b' ys))) ∧ Below w.heap.size w w' := by
  have hb2 : ∀ o o' : Obj, Below w.heap.size w ((w.alloc o).alloc o') := fun o o' => below_al (below_al (Below.refl _ _) o) o'
  obtain ⟨R, hR⟩ : ∃ R, R = cmpM (mean b xs) (mean b' ys) := ⟨_, rfl⟩
  have HR := Lib.hid hR
  have hD : Hid ((R == 0) = decide (mean b xs = mean b' ys)) := Lib.hid (by
    rw [hR, Bool.eq_iff_iff, beq_iff_eq, cmpM_eq0, decide_eq_true_iff])
  clear hR
  go_enter Tryz.func56, Tryz.ntmps56
  go_wp2_with (go_at_call 46; refine (compare_any b b' A A' n n' c c' xs ys _ (hx.below (hb2 _ _)) (hy.below (hb2 _ _))).mono ?_; rw [← HR.out]; rintro e w' ⟨rfl, hb⟩)
  go_ret
  exact ⟨by rw [← hD.out]; rfl, below_step (hb2 _ _) hb (hb2 _ _).size⟩
set_option maxHeartbeats 1000000 in
theorem text_any (b : Bool) (A : Option Addr) (n c : Nat) (xs : List Int) (w : World) (hx : NV w A n c xs) (hn : n ≤ 1099511627776) (ht : Tab w) :
    Calls Tryz.prog 59 #[.agg #[.bool b, .slice A n c]] w fun e w' => e = .returned (strV (textM (mean b xs))) ∧ Below w.heap.size w w' := by
  cases b
  · exact text_fin A n c xs w hx hn ht
  · go_enter Tryz.func59, Tryz.ntmps59
    go_wp2_with fail
    go_ret
    exact ⟨rfl, below_al (Below.refl _ _) _⟩

/-- What 'nat.Of' gives, as a number returned. -/
theorem val_ofD {x : Int} : val (ofD x) = x := by
  unfold ofD
  rw [val_strip]
  simp only [val]
  unfold W
  omega
theorem ofD_len (x : Int) : (ofD x).length ≤ 2 := (strip_take [x % 4294967296, x / 4294967296]).2
theorem of_nr (x : Int) (w : World) (h0 : 0 ≤ x) (h1 : x < 18446744073709551616) : Calls Tryz.prog 67 #[.int .u64 x] w fun e w' => NR w w' e (some x) 2 :=
  (of_any x w h0 h1).mono fun e w' ⟨A, n, c, h, hv, hb⟩ => ⟨false, A, n, c, ofD x, h, hv, Lib.hid (by show some (val (ofD x)) = _; rw [val_ofD]), Lib.hid (Norm.strip _), Lib.hid (fun h => by cases h), Lib.hid (by rw [← hv.len]; exact ofD_len x), hb⟩
theorem inf_nr (w : World) (N : Nat) : Calls Tryz.prog 45 #[] w fun e w' => NR w w' e none N :=
  (inf_any w).mono fun e w' ⟨h, hb⟩ => by subst h; exact NR.inf hb
end Go.Proofs.YtdkmmnehlmaebaaGreatDoor.Na
