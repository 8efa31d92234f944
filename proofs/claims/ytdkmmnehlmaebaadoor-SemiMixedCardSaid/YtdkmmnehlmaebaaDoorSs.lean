/- The plain laws on values that are better than others. Conditions: the values may be. -/
import Derived.Test.YtdkmmnehlmaebaaDoorSr
import Derived.Test.YtdkmmnehlmaebaaDoorNOr
namespace Go.Proofs.YtdkmmnehlmaebaaDoor.Se
open Go.RowKit Go.NT Go.FT Go.FX Go.Lib Na

theorem same_fin {x y : Nat} (hx : x ≤ INF) (hy : y ≤ INF) : same x y = decide (x = y) := by
  unfold same
  rw [can_ok (clr_of hx (Nat.le_refl _)).1, can_ok (clr_of hy (Nat.le_refl _)).1]
theorem pos_of {m : Option Int} (h : ∀ v, m = some v → 0 ≤ v) : Pos m := by
  cases m with
  | none => trivial
  | some v => exact h v rfl
/-- How values of one semiring stand. -/
def Rel (c d : Con) : Prop :=
  if c.s = 1 then cmpM d.m c.m ≤ 0 else if c.s = 3 then cmpM c.m d.m ≤ 0 else if c.s = 5 then d.x ≤ c.x else if c.s = 6 then c.x ≤ d.x else d.lv ≤ c.lv
theorem minM_left {a b : Option Int} : minM a b = a ↔ cmpM a b ≤ 0 := by
  unfold minM
  by_cases h : cmpM b a < 0
  · rw [if_pos h]
    have := cmpM_neg a b
    constructor
    · intro e; subst e; rw [cmpM_self] at h; omega
    · intro e; omega
  · rw [if_neg h]
    have := cmpM_neg a b
    constructor
    · intro _; omega
    · intro _; rfl
theorem minM_le (a b : Option Int) : cmpM (minM a b) a ≤ 0 := by
  unfold minM
  by_cases h : cmpM b a < 0
  · rw [if_pos h]; omega
  · rw [if_neg h, cmpM_self]; omega
theorem better_rel {c d : Con} (hc : Val c) (hd : Val d) (hs : d.s = c.s) : betterC c d = true ↔ Rel c d := by
  obtain ⟨s, m, lv, x⟩ := c
  obtain ⟨s', m', lv', x'⟩ := d
  obtain ⟨hk, hm, hl, hx⟩ := hc
  obtain ⟨_, hm', hl', hx'⟩ := hd
  simp only at hs hk hm hl hx hm' hl' hx' ⊢
  subst hs
  rcases known_cases hk with rfl | rfl | rfl | rfl | rfl | rfl
  · show decide (0 ≤ cmpM m m') = true ↔ cmpM m' m ≤ 0
    rw [decide_eq_true_iff, cmpM_neg m m']; omega
  · show (max lv lv' == lv) = true ↔ lv' ≤ lv
    rw [beq_iff_eq]; omega
  · show decide (minM m m' = m) = true ↔ cmpM m m' ≤ 0
    rw [decide_eq_true_iff, minM_left]
  · show (max lv lv' == lv) = true ↔ lv' ≤ lv
    rw [beq_iff_eq]; omega
  · have h1 : x ≤ ONE := hx rfl rfl
    have h2 : x' ≤ ONE := hx' rfl rfl
    have hO : ONE < INF := by decide
    have e1 : betterC ⟨5, m, lv, x⟩ ⟨5, m', lv', x'⟩ = same (max x x') x := rfl
    have e2 : Rel ⟨5, m, lv, x⟩ ⟨5, m', lv', x'⟩ = (x' ≤ x) := rfl
    rw [e1, e2, same_fin (by omega) (by omega), decide_eq_true_iff]
    omega
  · have h1 : x ≤ INF := hx rfl rfl
    have h2 : x' ≤ INF := hx' rfl rfl
    have e1 : betterC ⟨6, m, lv, x⟩ ⟨6, m', lv', x'⟩ = same (min x x') x := rfl
    have e2 : Rel ⟨6, m, lv, x⟩ ⟨6, m', lv', x'⟩ = (x ≤ x') := rfl
    rw [e1, e2, same_fin (by omega) (by omega), decide_eq_true_iff]
    omega
theorem rel_trans {a b c : Con} (h1 : b.s = a.s) (h : Rel a b) (k : Rel b c) : Rel a c := by
  unfold Rel at *
  rw [h1] at k
  split
  · rename_i e; rw [if_pos e] at h k; exact cmpM_trans k h
  · rename_i e
    rw [if_neg e] at h k
    split
    · rename_i e2; rw [if_pos e2] at h k; exact cmpM_trans h k
    · rename_i e2
      rw [if_neg e2] at h k
      split
      · rename_i e3; rw [if_pos e3] at h k; omega
      · rename_i e3
        rw [if_neg e3] at h k
        split
        · rename_i e4; rw [if_pos e4] at h k; omega
        · rename_i e4; rw [if_neg e4] at h k; omega
theorem better_trans {a b c : Con} (ha : Val a) (hb : Val b) (hc : Val c) (h1 : b.s = a.s) (h2 : c.s = b.s) (h : betterC a b = true) (k : betterC b c = true) : betterC a c = true :=
  (better_rel ha hc (h2.trans h1)).2 (rel_trans h1 ((better_rel ha hb h1).1 h) ((better_rel hb hc h2).1 k))
theorem rel_total (a b : Con) (h1 : b.s = a.s) : Rel a b ∨ Rel b a := by
  unfold Rel
  rw [h1]
  have := cmpM_neg a.m b.m
  split
  · omega
  · split
    · omega
    · split
      · omega
      · split <;> omega
theorem better_total {a b : Con} (ha : Val a) (hb : Val b) (h1 : b.s = a.s) (h : betterC a b = false) : betterC b a = true := by
  rcases rel_total a b h1 with k | k
  · rw [(better_rel ha hb h1).2 k] at h; cases h
  · exact (better_rel hb ha h1.symm).2 k
theorem better_anti {a b : Con} (ha : Val a) (hb : Val b) (h1 : b.s = a.s) (h : betterC a b = true) (k : betterC b a = true) : sameC a b = true := by
  have h := (better_rel ha hb h1).1 h
  have k := (better_rel hb ha h1.symm).1 k
  obtain ⟨s, m, lv, x⟩ := a
  obtain ⟨s', m', lv', x'⟩ := b
  obtain ⟨hk, hm, hl, hx⟩ := ha
  obtain ⟨_, hm', hl', hx'⟩ := hb
  simp only at h1 hk hm hl hx hm' hl' hx' ⊢
  subst h1
  rcases known_cases hk with rfl | rfl | rfl | rfl | rfl | rfl
  · have h : cmpM m' m ≤ 0 := h
    have k : cmpM m m' ≤ 0 := k
    have := cmpM_neg m m'
    exact decide_eq_true (cmpM_eq0.1 (show cmpM m m' = 0 by omega))
  · have h : lv' ≤ lv := h
    have k : lv ≤ lv' := k
    show (lv == lv') = true
    rw [beq_iff_eq]; omega
  · have h : cmpM m m' ≤ 0 := h
    have k : cmpM m' m ≤ 0 := k
    have := cmpM_neg m m'
    exact decide_eq_true (cmpM_eq0.1 (show cmpM m m' = 0 by omega))
  · have h : lv' ≤ lv := h
    have k : lv ≤ lv' := k
    show (lv == lv') = true
    rw [beq_iff_eq]; omega
  · have h : x' ≤ x := h
    have k : x ≤ x' := k
    obtain rfl : x = x' := by omega
    show same x x = true
    exact same_rfl
  · have h : x ≤ x' := h
    have k : x' ≤ x := k
    obtain rfl : x = x' := by omega
    show same x x = true
    exact same_rfl
theorem better_sum {a b : Con} (ha : Val a) (hb : Val b) (hp : Val (plusC a b)) : betterC (plusC a b) a = true := by
  refine (better_rel hp ha (plusC_s _ _).symm).2 ?_
  obtain ⟨s, m, lv, x⟩ := a
  obtain ⟨s', m', lv', x'⟩ := b
  obtain ⟨hk, hm, hl, hx⟩ := ha
  obtain ⟨_, hm', hl', hx'⟩ := hb
  simp only at hk hm hl hx hm' hl' hx' hp ⊢
  rcases known_cases hk with rfl | rfl | rfl | rfl | rfl | rfl
  · show cmpM m (addM m m') ≤ 0
    have := cmp_add_ge (a := m) (pos_of hm')
    have := cmpM_neg m (addM m m')
    omega
  · show lv ≤ max lv lv'
    omega
  · show cmpM (minM m m') m ≤ 0
    exact minM_le _ _
  · show lv ≤ max lv lv'
    omega
  · have e : plusC ⟨5, m, lv, x⟩ ⟨s', m', lv', x'⟩ = ⟨5, some 0, 0, max x x'⟩ := rfl
    rw [e]
    show x ≤ max x x'
    omega
  · have e : plusC ⟨6, m, lv, x⟩ ⟨s', m', lv', x'⟩ = ⟨6, some 0, 0, min x x'⟩ := rfl
    rw [e]
    show min x x' ≤ x
    omega
theorem better_prod {a b : Con} (ha : Val a) (hb : Val b) (hs : b.s = a.s) (h1 : (a.s == 1) = false) (hp : Val (timesC a b)) : betterC a (timesC a b) = true := by
  refine (better_rel ha hp (timesC_s _ _)).2 ?_
  obtain ⟨s, m, lv, x⟩ := a
  obtain ⟨s', m', lv', x'⟩ := b
  obtain ⟨hk, hm, hl, hx⟩ := ha
  obtain ⟨_, hm', hl', hx'⟩ := hb
  simp only at hk hm hl hx hm' hl' hx' hp hs h1 ⊢
  subst hs
  rcases known_cases hk with rfl | rfl | rfl | rfl | rfl | rfl
  · cases h1
  · show min lv lv' ≤ lv
    omega
  · show cmpM m (addM m m') ≤ 0
    have := cmp_add_ge (a := m) (pos_of hm')
    have := cmpM_neg m (addM m m')
    omega
  · show min lv lv' ≤ lv
    omega
  · have h2 : x ≤ ONE := hx rfl rfl
    have h3 : x' ≤ ONE := hx' rfl rfl
    have hO : ONE < INF := by decide
    have e : timesC ⟨5, m, lv, x⟩ ⟨5, m', lv', x'⟩ = ⟨5, some 0, 0, mulR x x'⟩ := rfl
    rw [e]
    show mulR x x' ≤ x
    exact mulR_le (Nat.lt_of_le_of_lt h2 hO) h3
  · have h2 : x ≤ INF := hx rfl rfl
    have e : timesC ⟨6, m, lv, x⟩ ⟨6, m', lv', x'⟩ = ⟨6, some 0, 0, addR x x'⟩ := rfl
    rw [e]
    show x ≤ addR x x'
    exact addR_ge h2
end Go.Proofs.YtdkmmnehlmaebaaDoor.Se
