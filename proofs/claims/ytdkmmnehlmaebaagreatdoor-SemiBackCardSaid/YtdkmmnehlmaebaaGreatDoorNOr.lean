
/- Plain facts: numbers with an infinite one stand in one order, adding and multiplying keep it, and do not hang on order and groups. Conditions: no number is below 0. -/
import Derived.Test.YtdkmmnehlmaebaaGreatDoorNWz
namespace Go.Proofs.YtdkmmnehlmaebaaGreatDoor.Na
open Go.RowKit Go.NT Go.Lib

/-- Not below 0. -/
def Pos : Option Int → Prop
  | some x => 0 ≤ x
  | none => True
theorem Pos.of_nv {w : World} {A : Option Addr} {n c : Nat} {xs : List Int} (b : Bool) (h : NV w A n c xs) : Pos (mean b xs) := by
  cases b
  · exact val_nonneg h.2.2.1
  · trivial
theorem cmpI_cases (x y : Int) : (x < y ∧ cmpI x y = -1) ∨ (x = y ∧ cmpI x y = 0) ∨ (y < x ∧ cmpI x y = 1) := by
  unfold cmpI
  rcases Int.lt_trichotomy x y with h | h | h
  · left; simp [h]
  · right; left; simp [h]
  · right; right
    have h1 : ¬ x < y := by omega
    have h2 : ¬ x = y := by omega
    simp [h, h1]
theorem cmpI_le0 {x y : Int} : cmpI x y ≤ 0 ↔ x ≤ y := by
  rcases cmpI_cases x y with ⟨h, e⟩ | ⟨h, e⟩ | ⟨h, e⟩ <;> rw [e] <;> omega
theorem cmpI_ge0 {x y : Int} : 0 ≤ cmpI x y ↔ y ≤ x := by
  rcases cmpI_cases x y with ⟨h, e⟩ | ⟨h, e⟩ | ⟨h, e⟩ <;> rw [e] <;> omega
theorem cmpI_neg (x y : Int) : cmpI y x = - cmpI x y := by
  rcases cmpI_cases x y with ⟨h, e⟩ | ⟨h, e⟩ | ⟨h, e⟩ <;> rcases cmpI_cases y x with ⟨h', e'⟩ | ⟨h', e'⟩ | ⟨h', e'⟩ <;> rw [e, e'] <;> omega
theorem cmpM_cases (a b : Option Int) : cmpM a b = -1 ∨ cmpM a b = 0 ∨ cmpM a b = 1 := by
  cases a <;> cases b <;> simp [cmpM]
  rename_i x y
  rcases cmpI_cases x y with ⟨h, e⟩ | ⟨h, e⟩ | ⟨h, e⟩ <;> simp [e]
theorem cmpM_neg (a b : Option Int) : cmpM b a = - cmpM a b := by
  cases a <;> cases b <;> simp [cmpM]
  exact cmpI_neg _ _
theorem cmpM_self (a : Option Int) : cmpM a a = 0 := cmpM_eq0.2 rfl
theorem cmpM_trans {a b c : Option Int} (h : cmpM a b ≤ 0) (k : cmpM b c ≤ 0) : cmpM a c ≤ 0 := by
  cases a <;> cases b <;> cases c <;> simp only [cmpM, cmpI_le0] at * <;> omega
theorem cmp_add_ge {a c : Option Int} (hc : Pos c) : 0 ≤ cmpM (addM a c) a := by
  cases a <;> cases c <;> simp only [cmpM, addM, cmpI_ge0, Pos] at * <;> omega
theorem cmp_add_mono {a b : Option Int} (c : Option Int) (h : cmpM a b ≤ 0) : cmpM (addM a c) (addM b c) ≤ 0 := by
  cases a <;> cases b <;> cases c <;> simp only [cmpM, addM, cmpI_le0] at * <;> omega
theorem cmp_zero {b : Option Int} (hb : Pos b) : cmpM (some 0) b ≤ 0 := by
  cases b <;> simp only [cmpM, cmpI_le0, Pos] at * <;> omega
theorem cmp_top (a : Option Int) : cmpM a none ≤ 0 := by
  cases a <;> simp [cmpM]
theorem Pos.ite (p : Prop) [Decidable p] : Pos (if p then some 0 else none) := by
  by_cases h : p
  · rw [if_pos h]; exact Int.le_refl 0
  · rw [if_neg h]; trivial
theorem Pos.mul : ∀ {a b : Option Int}, Pos a → Pos b → Pos (mulM a b)
  | some _, some _, ha, hb => Int.mul_nonneg (show 0 ≤ _ from ha) (show 0 ≤ _ from hb)
  | some x, none, _, _ => Pos.ite (x = 0)
  | none, some y, _, _ => Pos.ite (y = 0)
  | none, none, _, _ => trivial
theorem cmp_mul_mono {a b c : Option Int} (ha : Pos a) (hb : Pos b) (hc : Pos c) (h : cmpM a b ≤ 0) : cmpM (mulM a c) (mulM b c) ≤ 0 := by
  cases a with
  | none =>
    cases b with
    | none => rw [cmpM_self]; exact Int.le_refl _
    | some y => simp [cmpM] at h
  | some x =>
    cases b with
    | none =>
      cases c with
      | none => exact cmp_top _
      | some z =>
        by_cases hz : z = 0
        · subst hz; simp [mulM, cmpM, cmpI_le0]
        · simp [mulM, hz, cmp_top]
    | some y =>
      rw [show cmpM (some x) (some y) = cmpI x y from rfl, cmpI_le0] at h
      cases c with
      | none =>
        have hx : 0 ≤ x := ha
        by_cases hx0 : x = 0
        · subst hx0
          exact cmp_zero (Pos.mul hb hc)
        · have : y ≠ 0 := by omega
          simp [mulM, hx0, this, cmpM]
      | some z =>
        show cmpI (x * z) (y * z) ≤ 0
        rw [cmpI_le0]
        exact Int.mul_le_mul_of_nonneg_right h hc

theorem addM_comm (a b : Option Int) : addM a b = addM b a := by
  cases a <;> cases b <;> simp only [addM]
  rw [Int.add_comm]
theorem addM_assoc (a b c : Option Int) : addM a (addM b c) = addM (addM a b) c := by
  cases a <;> cases b <;> cases c <;> simp only [addM]
  rw [Int.add_assoc]
theorem mulM_comm (a b : Option Int) : mulM a b = mulM b a := by
  cases a <;> cases b <;> simp only [mulM]
  rw [Int.mul_comm]
theorem mulM_zero (a : Option Int) : mulM a (some 0) = some 0 := by
  cases a <;> simp [mulM]
theorem mulM_none {a : Option Int} (h : a ≠ some 0) : mulM a none = none := by
  cases a with
  | none => rfl
  | some x => simp only [mulM]; rw [if_neg (fun e => h (by rw [e]))]
theorem mulM_ne0 {a b : Option Int} (ha : a ≠ some 0) (hb : b ≠ some 0) : mulM a b ≠ some 0 := by
  cases a with
  | none => rw [mulM_comm, mulM_none hb]; simp
  | some x =>
    cases b with
    | none => rw [mulM_none ha]; simp
    | some y =>
      intro h
      rcases Int.mul_eq_zero.1 (Option.some.inj h) with e | e
      · exact ha (by rw [e])
      · exact hb (by rw [e])
theorem mulM_assoc (a b c : Option Int) : mulM a (mulM b c) = mulM (mulM a b) c := by
  by_cases ha : a = some 0
  · subst ha
    rw [mulM_comm (some 0), mulM_zero, mulM_comm (some 0) b, mulM_zero, mulM_comm (some 0) c, mulM_zero]
  by_cases hb : b = some 0
  · subst hb
    rw [mulM_comm (some 0) c, mulM_zero, mulM_zero, mulM_comm (some 0) c, mulM_zero]
  by_cases hc : c = some 0
  · subst hc
    rw [mulM_zero, mulM_zero, mulM_zero]
  cases a with
  | none => rw [mulM_comm none, mulM_none (mulM_ne0 hb hc), mulM_comm none b, mulM_none hb, mulM_comm none c, mulM_none hc]
  | some x =>
    cases b with
    | none => rw [mulM_comm none c, mulM_none hc, mulM_none ha, mulM_comm none c, mulM_none hc]
    | some y =>
      cases c with
      | none => rw [mulM_none hb, mulM_none ha, mulM_none (mulM_ne0 ha hb)]
      | some z => show some (x * (y * z)) = some (x * y * z); rw [Int.mul_assoc]
theorem addM_zero (a : Option Int) : addM a (some 0) = a := by
  cases a <;> simp [addM]
theorem addM_top (a : Option Int) : addM a none = none := by
  cases a <;> rfl
theorem addM_ne0 {b c : Option Int} (hb : Pos b) (hc : Pos c) (h : b ≠ some 0) : addM b c ≠ some 0 := by
  cases b with
  | none => simp [addM]
  | some y =>
    cases c with
    | none => simp [addM]
    | some z =>
      intro e
      have hy : 0 ≤ y := hb
      have hz : 0 ≤ z := hc
      have := Option.some.inj e
      exact h (by rw [show y = 0 by omega])
theorem mul_addM {a b c : Option Int} (hb : Pos b) (hc : Pos c) : mulM a (addM b c) = addM (mulM a b) (mulM a c) := by
  by_cases ha : a = some 0
  · subst ha
    rw [mulM_comm (some 0), mulM_zero, mulM_comm (some 0) b, mulM_zero, mulM_comm (some 0) c, mulM_zero]; rfl
  by_cases hb0 : b = some 0
  · subst hb0
    rw [mulM_zero, addM_comm, addM_zero, addM_comm, addM_zero]
  by_cases hc0 : c = some 0
  · subst hc0
    rw [mulM_zero, addM_zero, addM_zero]
  cases a with
  | none => rw [mulM_comm none, mulM_none (addM_ne0 hb hc hb0), mulM_comm none b, mulM_none hb0, mulM_comm none c, mulM_none hc0]; rfl
  | some x =>
    cases b with
    | none => rw [addM_comm none, addM_top, mulM_none ha, addM_comm, addM_top]
    | some y =>
      cases c with
      | none => rw [addM_top, mulM_none ha, addM_top]
      | some z => show some (x * (y + z)) = some (x * y + x * z); rw [Int.mul_add]
theorem mulM_one (a : Option Int) : mulM a (some 1) = a := by
  cases a <;> simp [mulM]

end Go.Proofs.YtdkmmnehlmaebaaGreatDoor.Na
