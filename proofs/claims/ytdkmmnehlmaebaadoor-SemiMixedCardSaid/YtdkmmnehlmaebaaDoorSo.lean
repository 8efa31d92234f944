/- The walk of the document's 'MayValue'. Conditions: the values can be read. -/
import Derived.Test.YtdkmmnehlmaebaaDoorSn
namespace Go.Proofs.YtdkmmnehlmaebaaDoor.Se
open Go.RowKit Go.NT Go.FT Go.FX Go.Lib Na

theorem rmv_unknown (a : SV) (w : World) (HK : Hid (knownB a.s = false)) :
    Calls Tryd.prog 15 #[a.v] w fun e w' => e = .returned (.int .i64 9) ∧ Below w.heap.size w w' := by
  have hno : ∀ k : Int, knownB k = true → (a.s == k) = false := fun k hk => by
    cases e : a.s == k
    · rfl
    · have := HK.out; rw [eq_of_beq e, hk] at this; cases this
  have t1 := hno 1 rfl
  have t3 := hno 3 rfl
  have t2 := hno 2 rfl
  have t4 := hno 4 rfl
  have t5 := hno 5 rfl
  have t6 := hno 6 rfl
  clear hno
  unfold SV.v
  go_enter Tryd.func15, Tryd.ntmps15
  go_wp2_with fail
  go_ret
  exact ⟨rfl, below_al (Below.refl _ _) _⟩
theorem rmv_nat (a : SV) (w : World) (ha : a.ok w) (hs : a.s = 1 ∨ a.s = 3) :
    Calls Tryd.prog 15 #[a.v] w fun e w' => e = .returned (.int .i64 (if natMay a.b a.n a.xs then 0 else 16)) ∧ Below w.heap.size w w' := by
  have h0 := Lib.hid (below_al (Below.refl w.heap.size w) (.cells #[.int .i64 a.s, .bool a.b, .slice a.A a.n a.c, .int .i64 a.lv, .float .f64 a.x] 27))
  have HX := Lib.hid (ha.1.below h0.out)
  have HR : Hid (∀ w1, NV w1 a.A a.n a.c a.xs → Calls Tryd.prog 48 #[.agg #[.bool a.b, .slice a.A a.n a.c]] w1 fun e w' => e = .returned (.bool (natMay a.b a.n a.xs)) ∧ Below w1.heap.size w1 w') := Lib.hid (fun w1 h => Na.rmay_any a.b a.A a.n a.c a.xs w1 h)
  clear ha
  generalize natMay a.b a.n a.xs = M at *
  rcases hs with hs | hs
  · have t1 : (a.s == 1) = true := by rw [hs]; rfl
    clear hs
    cases M
    all_goals
      unfold SV.v
      go_enter Tryd.func15, Tryd.ntmps15
      go_wp2_with (go_at_call 48; (with_reducible refine (HR.out _ HX.out).mono ?_); rintro e w1 ⟨rfl, hb1⟩)
      go_ret
      exact ⟨rfl, below_go h0.out hb1⟩
  · have t1 : (a.s == 1) = false := by rw [hs]; rfl
    have t3 : (a.s == 3) = true := by rw [hs]; rfl
    clear hs
    cases M
    all_goals
      unfold SV.v
      go_enter Tryd.func15, Tryd.ntmps15
      go_wp2_with (go_at_call 48; (with_reducible refine (HR.out _ HX.out).mono ?_); rintro e w1 ⟨rfl, hb1⟩)
      go_ret
      exact ⟨rfl, below_go h0.out hb1⟩
theorem rmv_bool (a : SV) (w : World) (hs : a.s = 2) :
    Calls Tryd.prog 15 #[a.v] w fun e w' => e = .returned (.int .i64 (if decide (0 ≤ a.lv) && decide (a.lv ≤ topV a.s) then 0 else 16)) ∧ Below w.heap.size w w' := by
  have t1 : (a.s == 1) = false := by rw [hs]; rfl
  have t3 : (a.s == 3) = false := by rw [hs]; rfl
  have t2 : (a.s == 2) = true := by rw [hs]; rfl
  have hT : topV a.s = 1 := by rw [hs]; rfl
  rw [hT]
  have HE : Hid ((decide (0 ≤ a.lv) && decide (a.lv ≤ 1)) = (a.lv == 0 || a.lv == 1)) := Lib.hid (by
    rw [Bool.eq_iff_iff]; simp only [Bool.and_eq_true, decide_eq_true_eq, Bool.or_eq_true, beq_iff_eq]; omega)
  rw [HE.out]
  clear hs hT HE
  cases h1 : a.lv == 0
  · cases h2 : a.lv == 1
    all_goals
      unfold SV.v
      go_enter Tryd.func15, Tryd.ntmps15
      go_wp2_with fail
      go_ret
      exact ⟨rfl, below_al (Below.refl _ _) _⟩
  · unfold SV.v
    go_enter Tryd.func15, Tryd.ntmps15
    go_wp2_with fail
    go_ret
    exact ⟨rfl, below_al (Below.refl _ _) _⟩
theorem rmv_chain (a : SV) (w : World) (hs : a.s = 4) :
    Calls Tryd.prog 15 #[a.v] w fun e w' => e = .returned (.int .i64 (if decide (0 ≤ a.lv) && decide (a.lv ≤ topV a.s) then 0 else 16)) ∧ Below w.heap.size w w' := by
  have t1 : (a.s == 1) = false := by rw [hs]; rfl
  have t3 : (a.s == 3) = false := by rw [hs]; rfl
  have t2 : (a.s == 2) = false := by rw [hs]; rfl
  have t4 : (a.s == 4) = true := by rw [hs]; rfl
  have hT : topV a.s = 7 := by rw [hs]; rfl
  rw [hT]
  clear hs hT
  cases h1 : decide (0 ≤ a.lv)
  · unfold SV.v
    go_enter Tryd.func15, Tryd.ntmps15
    go_wp2_with fail
    go_ret
    exact ⟨rfl, below_al (Below.refl _ _) _⟩
  · cases h2 : decide (a.lv ≤ 7)
    all_goals
      unfold SV.v
      go_enter Tryd.func15, Tryd.ntmps15
      go_wp2_with fail
      go_ret
      exact ⟨rfl, below_al (Below.refl _ _) _⟩
end Go.Proofs.YtdkmmnehlmaebaaDoor.Se
