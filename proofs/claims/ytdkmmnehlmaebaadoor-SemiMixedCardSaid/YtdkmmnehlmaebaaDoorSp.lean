/- The walk of the document's 'MayValue' at doubles, and at any value. Conditions: the values can be read. -/
import Derived.Test.YtdkmmnehlmaebaaDoorSo
namespace Go.Proofs.YtdkmmnehlmaebaaDoor.Se
open Go.RowKit Go.NT Go.FT Go.FX Go.Lib Na

theorem can_ok {x : Nat} (h : okB x INF = true) : can x = x := by
  have hI : INF < SGN := by decide
  have hS : SGN % SGN = 0 := by decide
  have : isN x = false := by
    unfold isN
    rcases of_decide_eq_true h with h | h
    · exact decide_eq_false (by rw [Nat.mod_eq_of_lt (by omega)]; omega)
    · subst h; rw [hS]; exact decide_eq_false (by omega)
  unfold can
  rw [this]; rfl
theorem sgn_test {x : Nat} (h : okB x INF = true) : decide ((x : Int) < 9223372036854775808) = decide (x ≤ INF) := by
  have hI : INF < SGN := by decide
  have hS : SGN = 9223372036854775808 := by decide
  rw [decide_eq_decide]
  rcases of_decide_eq_true h with h | h
  · constructor
    · intro _; exact h
    · intro _; omega
  · constructor
    · intro _; omega
    · intro _; omega
theorem dblE_at {s : Int} {x m : Nat} {b : Bool} (hm : dblM s = m) (h : decide (x ≤ m) = b) : dblE s x = if b then 0 else 16 := by unfold dblE; rw [hm, h]
set_option maxHeartbeats 1000000 in
theorem rmv_cost (a : SV) (w : World) (hx : a.x < W64) (hs : a.s = 6) :
    Calls Tryd.prog 15 #[a.v] w fun e w' => e = .returned (.int .i64 (dblE a.s a.x)) ∧ Below w.heap.size w w' := by
  have t1 : (a.s == 1) = false := by rw [hs]; rfl
  have t3 : (a.s == 3) = false := by rw [hs]; rfl
  have t2 : (a.s == 2) = false := by rw [hs]; rfl
  have t4 : (a.s == 4) = false := by rw [hs]; rfl
  have t5 : (a.s == 5) = false := by rw [hs]; rfl
  have t6 : (a.s == 6) = true := by rw [hs]; rfl
  have hM : dblM a.s = INF := by rw [hs]; rfl
  cases h : okB a.x INF
  · have h1 : (FloatKind.f64.format.order a.x 0 == some .gt || FloatKind.f64.format.order a.x 0 == some .eq) = false := (ge_zero hx).trans h
    have HE := Lib.hid (dblE_no (s := a.s) (x := a.x) (by rw [hM]; exact h))
    clear hs hM h hx
    unfold SV.v
    go_enter Tryd.func15, Tryd.ntmps15
    go_wp2_with fail
    go_ret
    exact ⟨by rw [HE.out]; rfl, below_al (Below.refl _ _) _⟩
  · have h1 : (FloatKind.f64.format.order a.x 0 == some .gt || FloatKind.f64.format.order a.x 0 == some .eq) = true := (ge_zero hx).trans h
    have hb := sgn_test h
    have HB := Lib.hid (fun w => rbits_any a.x w hx)
    rw [can_ok h] at HB
    cases hd : decide (a.x ≤ INF)
    all_goals
      rw [hd] at hb
      have HE := Lib.hid (dblE_at hM hd)
      clear hd
      clear hs hM h hx
      unfold SV.v
      go_enter Tryd.func15, Tryd.ntmps15
      go_wp2_with (go_at_call 39; (with_reducible refine (HB.out _).mono ?_); rintro e w1 ⟨rfl, rfl⟩)
      go_ret
      exact ⟨by rw [HE.out]; rfl, below_al (Below.refl _ _) _⟩
set_option maxHeartbeats 1000000 in
theorem rmv_best (a : SV) (w : World) (hx : a.x < W64) (hs : a.s = 5) :
    Calls Tryd.prog 15 #[a.v] w fun e w' => e = .returned (.int .i64 (dblE a.s a.x)) ∧ Below w.heap.size w w' := by
  have t1 : (a.s == 1) = false := by rw [hs]; rfl
  have t3 : (a.s == 3) = false := by rw [hs]; rfl
  have t2 : (a.s == 2) = false := by rw [hs]; rfl
  have t4 : (a.s == 4) = false := by rw [hs]; rfl
  have t5 : (a.s == 5) = true := by rw [hs]; rfl
  have hM : dblM a.s = ONE := by rw [hs]; rfl
  cases h : okB a.x INF
  · have h1 : (FloatKind.f64.format.order a.x 0 == some .gt || FloatKind.f64.format.order a.x 0 == some .eq) = false := (ge_zero hx).trans h
    have h4 : okB a.x ONE = false := by
      cases e : okB a.x ONE
      · rfl
      · rw [okB_mono e (by decide)] at h; cases h
    have HE := Lib.hid (dblE_no (s := a.s) (x := a.x) (by rw [hM]; exact h4))
    clear hs hM h hx h4
    unfold SV.v
    go_enter Tryd.func15, Tryd.ntmps15
    go_wp2_with fail
    go_ret
    exact ⟨by rw [HE.out]; rfl, below_al (Below.refl _ _) _⟩
  · have h1 : (FloatKind.f64.format.order a.x 0 == some .gt || FloatKind.f64.format.order a.x 0 == some .eq) = true := (ge_zero hx).trans h
    cases h4 : okB a.x ONE
    · have h2 : (FloatKind.f64.format.order a.x 4607182418800017408 == some .lt || FloatKind.f64.format.order a.x 4607182418800017408 == some .eq) = false := (le_most h (by decide)).trans h4
      have HE := Lib.hid (dblE_no (s := a.s) (x := a.x) (by rw [hM]; exact h4))
      clear hs hM h hx h4
      unfold SV.v
      go_enter Tryd.func15, Tryd.ntmps15
      go_wp2_with fail
      go_ret
      exact ⟨by rw [HE.out]; rfl, below_al (Below.refl _ _) _⟩
    · have h2 : (FloatKind.f64.format.order a.x 4607182418800017408 == some .lt || FloatKind.f64.format.order a.x 4607182418800017408 == some .eq) = true := (le_most h (by decide)).trans h4
      have hb := sgn_test h
      have hq : decide (a.x ≤ INF) = decide (a.x ≤ ONE) := by
        have hI : INF < SGN := by decide
        have hO : ONE < INF := by decide
        rw [decide_eq_decide]
        rcases of_decide_eq_true h4 with h | h
        · omega
        · omega
      rw [hq] at hb
      have HB := Lib.hid (fun w => rbits_any a.x w hx)
      rw [can_ok h] at HB
      clear hq
      cases hd : decide (a.x ≤ ONE)
      all_goals
        rw [hd] at hb
        have HE := Lib.hid (dblE_at hM hd)
        clear hd
        clear hs hM h hx h4
        unfold SV.v
        go_enter Tryd.func15, Tryd.ntmps15
        go_wp2_with (go_at_call 39; (with_reducible refine (HB.out _).mono ?_); rintro e w1 ⟨rfl, rfl⟩)
        go_ret
        exact ⟨by rw [HE.out]; rfl, below_al (Below.refl _ _) _⟩
theorem rmv_sv (a : SV) (w : World) (ha : a.ok w) : Calls Tryd.prog 15 #[a.v] w fun e w' => e = .returned (.int .i64 a.may) ∧ Below w.heap.size w w' := by
  unfold SV.may
  cases hk : knownB a.s
  · exact rmv_unknown a w (Lib.hid hk)
  · rcases known_cases hk with s | s | s | s | s | s
    · rw [show natB a.s = true by rw [s]; rfl]; exact rmv_nat a w ha (.inl s)
    · rw [show natB a.s = false by rw [s]; rfl, show levB a.s = true by rw [s]; rfl]; exact rmv_bool a w s
    · rw [show natB a.s = true by rw [s]; rfl]; exact rmv_nat a w ha (.inr s)
    · rw [show natB a.s = false by rw [s]; rfl, show levB a.s = true by rw [s]; rfl]; exact rmv_chain a w s
    · rw [show natB a.s = false by rw [s]; rfl, show levB a.s = false by rw [s]; rfl]; exact rmv_best a w ha.2 s
    · rw [show natB a.s = false by rw [s]; rfl, show levB a.s = false by rw [s]; rfl]; exact rmv_cost a w ha.2 s
end Go.Proofs.YtdkmmnehlmaebaaDoor.Se
