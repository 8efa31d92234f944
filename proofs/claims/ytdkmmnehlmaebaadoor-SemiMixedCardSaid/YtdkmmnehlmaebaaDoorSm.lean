/- The plain laws on values' contents. Conditions: none. -/
import Derived.Test.YtdkmmnehlmaebaaDoorSl
namespace Go.Proofs.YtdkmmnehlmaebaaDoor.Se
open Go.RowKit Go.NT Go.FT Go.FX Go.Lib Na

/-- What may be, of a content. -/
def Val (c : Con) : Prop :=
  knownB c.s = true ∧ (∀ v, c.m = some v → 0 ≤ v) ∧ (levB c.s = true → 0 ≤ c.lv ∧ c.lv ≤ topV c.s) ∧ (natB c.s = false → levB c.s = false → c.x ≤ dblM c.s)
theorem cmpM_self (m : Option Int) : cmpM m m = 0 := by cases m <;> simp [cmpM, cmpI_self]
theorem minM_self (m : Option Int) : minM m m = m := by unfold minM; split <;> rfl
theorem minM_zero {m : Option Int} (h : ∀ v, m = some v → 0 ≤ v) : minM (some 0) m = some 0 := by
  unfold minM
  cases m with
  | none => rfl
  | some v =>
    have := h v rfl
    rw [if_neg]
    show ¬ cmpI v 0 < 0
    unfold cmpI
    rw [if_neg (by omega)]
    split <;> omega
theorem addM_zero (m : Option Int) : addM m (some 0) = m := by cases m <;> simp [addM]
theorem star_plain {c : Con} (h : Val c) : sameC (plusC (oneC c.s) (timesC c (starC c))) (starC c) = true := by
  obtain ⟨s, m, lv, x⟩ := c
  obtain ⟨hk, hm, hl, hd⟩ := h
  simp only at hk hm hl hd ⊢
  rcases known_cases hk with rfl | rfl | rfl | rfl | rfl | rfl
  · by_cases e : m = some 0
    · subst e; rfl
    · have e1 : starC ⟨1, m, lv, x⟩ = ⟨1, none, 0, 0⟩ := by unfold starC; simp [e]
      rw [e1]
      have e2 : mulM m none = none := by
        cases m with
        | none => rfl
        | some v => show (if v = 0 then some 0 else none) = none; rw [if_neg (fun h => e (by rw [h]))]
      show decide (addM (some 1) (mulM m none) = none) = true
      rw [e2]; rfl
  · have := hl rfl
    have h2 : topV 2 = 1 := rfl
    rw [h2] at this
    show (max 1 (min lv 1) == (1 : Int)) = true
    rw [beq_iff_eq]; omega
  · show decide (minM (some 0) (addM m (some 0)) = some 0) = true
    rw [addM_zero, minM_zero hm]; rfl
  · have := hl rfl
    have h2 : topV 4 = 7 := rfl
    rw [h2] at this
    show (max 7 (min lv 7) == (7 : Int)) = true
    rw [beq_iff_eq]; omega
  · have h1 : x ≤ ONE := hd rfl rfl
    have hO : ONE < INF := by decide
    have e1 : starC ⟨5, m, lv, x⟩ = ⟨5, some 0, 0, ONE⟩ := rfl
    have e2 : oneC 5 = ⟨5, some 0, 0, ONE⟩ := rfl
    have e3 : ∀ y, timesC ⟨5, m, lv, x⟩ ⟨5, some 0, 0, y⟩ = ⟨5, some 0, 0, mulR x y⟩ := fun _ => rfl
    have e4 : ∀ y z, plusC ⟨5, some 0, 0, y⟩ ⟨5, some 0, 0, z⟩ = ⟨5, some 0, 0, max y z⟩ := fun _ _ => rfl
    have e5 : ∀ y z, sameC ⟨5, some 0, 0, y⟩ ⟨5, some 0, 0, z⟩ = same y z := fun _ _ => rfl
    rw [e1, e2, e3, e4, e5, mulR_one (Nat.lt_of_le_of_lt h1 hO), Nat.max_eq_left h1]
    exact same_rfl
  · have h1 : x ≤ INF := hd rfl rfl
    show same (min 0 (addR x 0)) 0 = true
    rw [Nat.zero_min]; exact same_rfl
theorem twice_plain {c : Con} (h : knownB c.s = true) (h1 : (c.s == 1) = false) : sameC (plusC c c) c = true := by
  obtain ⟨s, m, lv, x⟩ := c
  simp only at h h1 ⊢
  rcases known_cases h with rfl | rfl | rfl | rfl | rfl | rfl
  · cases h1
  · show (max lv lv == lv) = true
    rw [beq_iff_eq]; omega
  · show decide (minM m m = m) = true
    rw [minM_self]; exact decide_eq_true rfl
  · show (max lv lv == lv) = true
    rw [beq_iff_eq]; omega
  · show same (max x x) x = true
    rw [Nat.max_self]; exact same_rfl
  · show same (min x x) x = true
    rw [Nat.min_self]; exact same_rfl
end Go.Proofs.YtdkmmnehlmaebaaDoor.Se
