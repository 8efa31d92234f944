import Derived.Test.YtdkmmnehlmaebaaGreatDoorSp
import Derived.Test.YtdkmmnehlmaebaaGreatDoorNOr

/- The law SemiStars: too long a number, and no value. Conditions: the table of powers is laid; the value can be read. -/
namespace Go.Proofs.YtdkmmnehlmaebaaGreatDoor.Se
open Go.RowKit Go.NT Go.FT Go.FX Go.Lib Na

/-- One value in a row of arguments. -/
theorem small1 (g : Nat) (a : SV) (w : World) (t : Bool) (ht : Hid (decide (a.n ≤ 60) = t)) (hn : a.n ≤ 9223372036854775807) (k : w.cell? ⟨g, 2, none⟩ = some (.slice a.A a.n a.c)) :
    Calls Tryz.prog 6 #[.slice (some ⟨g, 0, none⟩) 1 1] w fun e w' => e = .returned (.bool t) ∧ w' = w := by
  refine (small_any g (fun _ => a.n) (fun _ => a.c) (fun _ => a.A) 1 1 w (by omega) (by omega) ?_ (fun _ => hn)).mono ?_
  · intro i hi
    obtain rfl : i = 0 := by omega
    exact k
  · rintro e w' ⟨rfl, rfl⟩
    refine ⟨?_, rfl⟩
    rw [← ht.out]
    congr 2
    rw [decide_eq_decide]
    exact ⟨fun h => h 0 (by omega), fun h _ _ => h⟩
/-- A value in its box, and once more in a row of arguments. -/
theorem boxed {w : World} {a : SV} (ha : a.ok w) (ht : Tab w) : ∀ W, W = (w.alloc (.cells #[.int .i64 a.s, .bool a.b, .slice a.A a.n a.c, .int .i64 a.lv, .float .f64 a.x] 27)).alloc (.cells #[.int .i64 a.s, .bool a.b, .slice a.A a.n a.c, .int .i64 a.lv, .float .f64 a.x] 27) → Five W w.heap.size a ∧ Below w.heap.size w W ∧ Tab W := by
  intro W hW
  subst hW
  have hb := below_al (below_al (Below.refl w.heap.size w) (.cells #[.int .i64 a.s, .bool a.b, .slice a.A a.n a.c, .int .i64 a.lv, .float .f64 a.x] 27)) (.cells #[.int .i64 a.s, .bool a.b, .slice a.A a.n a.c, .int .i64 a.lv, .float .f64 a.x] 27)
  exact ⟨(five_new w a ha).al _, hb, ht.below hb⟩
end Go.Proofs.YtdkmmnehlmaebaaGreatDoor.Se


/- The law SemiStars. Conditions: the table of powers is laid; the value can be read. -/
namespace Go.Proofs.YtdkmmnehlmaebaaGreatDoor.Se
open Go.RowKit Go.NT Go.FT Go.FX Go.Lib Na

theorem starC_s (c : Con) : (starC c).s = c.s := by unfold starC; split <;> rfl
theorem may_starC {c : Con} (h : knownB c.s = true) : mayC (starC c) = 0 := by
  unfold starC
  split
  · rename_i e
    have e1 : (c.s == 1) = true := by cases h1 : c.s == 1 <;> rw [h1] at e <;> simp at e ⊢
    have e2 : c.s = 1 := by simpa using e1
    exact mayC_nat h (by show natB c.s = true; rw [e2]; rfl)
  · exact may_oneC h
theorem val_of_may {a : SV} {w : World} (ho : a.ok w) (h : a.may = 0) : Val a.con := by
  refine ⟨may_named h, ?_, ?_, ?_⟩
  · intro v hv
    have h2 : mean a.b a.xs = some v := hv
    unfold mean at h2
    cases hb : a.b
    · rw [hb] at h2; injection h2 with h2; rw [← h2]; exact val_nonneg ho.1.2.2.1
    · rw [hb] at h2; cases h2
  · intro hl
    refine lev_of_may h ?_ hl
    have : levB a.s = true := hl
    cases hn : natB a.s
    · rfl
    · rcases known_cases (may_named h) with s | s | s | s | s | s <;> rw [s] at this hn <;> first | exact absurd this (by decide) | exact absurd hn (by decide)
  · intro hn hl; exact dbl_of_may h hn hl
theorem con_s {r : SV} {C : Con} (h : r.con = C) : r.s = C.s := congrArg Con.s h
theorem may_at {r : SV} {w : World} {C : Con} (ho : r.ok w) (hk : r.canon) (hc : r.con = C) (h : mayC C = 0) : r.may = 0 := by rw [may_canon ho hk, hc]; exact h
theorem same_at {r t : SV} (h1 : r.may = 0) (h2 : t.may = 0) (h3 : r.s = t.s) (h4 : sameC r.con t.con = true) : sameE r t = true := by
  unfold sameE; rw [bothE_zero.2 ⟨h1, h2, h3⟩, h4]; rfl
theorem plus_at (a b : SV) (w : World) (N : Nat) (ha : a.ok w) (hb : b.ok w) (hN : max a.n b.n + 1 ≤ N) (hN2 : N ≤ 1099511627776) (h : Hid (bothE a b = 0)) :
    Calls Tryz.prog 12 #[a.v, b.v] w fun e w' => SP w w' e (plusC a.con b.con) 0 N := by
  have := plus_sv a b w N ha hb hN hN2
  rwa [if_pos h.out, h.out] at this
theorem times_at (a b : SV) (w : World) (N : Nat) (ha : a.ok w) (hb : b.ok w) (hN : a.n + b.n + 1 ≤ N) (hN2 : N ≤ 1099511627776) (h : Hid (bothE a b = 0)) :
    Calls Tryz.prog 14 #[a.v, b.v] w fun e w' => SP w w' e (timesC a.con b.con) 0 N := by
  have := times_sv a b w N ha hb hN hN2
  rwa [if_pos h.out, h.out] at this
theorem star_at (a : SV) (w : World) (ha : a.ok w) (h : Hid (a.may = 0)) : Calls Tryz.prog 16 #[a.v] w fun e w' => SP w w' e (starC a.con) 0 2 := by
  have := star_sv a w 2 (Nat.le_refl _) ha
  rwa [if_pos h.out, h.out] at this
theorem one_at (s : Int) (w : World) (h : Hid (knownB s = true)) : Calls Tryz.prog 10 #[.int .i64 s] w fun e w' => SP w w' e (oneC s) 0 2 := by
  have := one_any s w 2 (Nat.le_refl _)
  rwa [if_pos h.out, if_pos h.out] at this
theorem same_yes (a b : SV) (w : World) (ha : a.ok w) (hb : b.ok w) (h : Hid (sameE a b = true)) : Calls Tryz.prog 23 #[a.v, b.v] w fun e w' => e = .returned (.bool true) ∧ Below w.heap.size w w' := by
  have := same_sv a b w ha hb
  rwa [h.out] at this
end Go.Proofs.YtdkmmnehlmaebaaGreatDoor.Se


/- The plain laws on values that are better than others. Conditions: the values may be. -/
namespace Go.Proofs.YtdkmmnehlmaebaaGreatDoor.Se
open Go.RowKit Go.NT Go.FT Go.FX Go.Lib Na

theorem same_fin {x y : Nat} (hx : x ≤ INF) (hy : y ≤ INF) : same x y = decide (x = y) := by
  unfold same
  rw [can_ok (clr_of hx (Nat.le_refl _)).1, can_ok (clr_of hy (Nat.le_refl _)).1]
theorem pos_of {m : Option Int} (h : ∀ v, m = some v → 0 ≤ v) : Pos m := by
  cases m with
  | none => trivial
  | some v => exact h v rfl
/-- How values of one semiring stand. -/
def Rel (c d : Con) : Prop :=
  if c.s = 1 then cmpM d.m c.m ≤ 0 else if c.s = 3 then cmpM c.m d.m ≤ 0 else if c.s = 5 then d.x ≤ c.x else if c.s = 6 then c.x ≤ d.x else d.lv ≤ c.lv
theorem minM_left {a b : Option Int} : minM a b = a ↔ cmpM a b ≤ 0 := by
  unfold minM
  by_cases h : cmpM b a < 0
  · rw [if_pos h]
    have := cmpM_neg a b
    constructor
    · intro e; subst e; rw [cmpM_self] at h; omega
    · intro e; omega
  · rw [if_neg h]
    have := cmpM_neg a b
    constructor
    · intro _; omega
    · intro _; rfl
theorem minM_le (a b : Option Int) : cmpM (minM a b) a ≤ 0 := by
  unfold minM
  by_cases h : cmpM b a < 0
  · rw [if_pos h]; omega
  · rw [if_neg h, cmpM_self]; omega
theorem better_rel {c d : Con} (hc : Val c) (hd : Val d) (hs : d.s = c.s) : betterC c d = true ↔ Rel c d := by
  obtain ⟨s, m, lv, x⟩ := c
  obtain ⟨s', m', lv', x'⟩ := d
  obtain ⟨hk, hm, hl, hx⟩ := hc
  obtain ⟨_, hm', hl', hx'⟩ := hd
  simp only at hs hk hm hl hx hm' hl' hx' ⊢
  subst hs
  rcases known_cases hk with rfl | rfl | rfl | rfl | rfl | rfl
  · show decide (0 ≤ cmpM m m') = true ↔ cmpM m' m ≤ 0
    rw [decide_eq_true_iff, cmpM_neg m m']; omega
  · show (max lv lv' == lv) = true ↔ lv' ≤ lv
    rw [beq_iff_eq]; omega
  · show decide (minM m m' = m) = true ↔ cmpM m m' ≤ 0
    rw [decide_eq_true_iff, minM_left]
  · show (max lv lv' == lv) = true ↔ lv' ≤ lv
    rw [beq_iff_eq]; omega
  · have h1 : x ≤ ONE := hx rfl rfl
    have h2 : x' ≤ ONE := hx' rfl rfl
    have hO : ONE < INF := by decide
    have e1 : betterC ⟨5, m, lv, x⟩ ⟨5, m', lv', x'⟩ = same (max x x') x := rfl
    have e2 : Rel ⟨5, m, lv, x⟩ ⟨5, m', lv', x'⟩ = (x' ≤ x) := rfl
    rw [e1, e2, same_fin (by omega) (by omega), decide_eq_true_iff]
    omega
  · have h1 : x ≤ INF := hx rfl rfl
    have h2 : x' ≤ INF := hx' rfl rfl
    have e1 : betterC ⟨6, m, lv, x⟩ ⟨6, m', lv', x'⟩ = same (min x x') x := rfl
    have e2 : Rel ⟨6, m, lv, x⟩ ⟨6, m', lv', x'⟩ = (x ≤ x') := rfl
    rw [e1, e2, same_fin (by omega) (by omega), decide_eq_true_iff]
    omega
theorem rel_trans {a b c : Con} (h1 : b.s = a.s) (h : Rel a b) (k : Rel b c) : Rel a c := by
  unfold Rel at *
  rw [h1] at k
  split
  · rename_i e; rw [if_pos e] at h k; exact cmpM_trans k h
  · rename_i e
    rw [if_neg e] at h k
    split
    · rename_i e2; rw [if_pos e2] at h k; exact cmpM_trans h k
    · rename_i e2
      rw [if_neg e2] at h k
      split
      · rename_i e3; rw [if_pos e3] at h k; omega
      · rename_i e3
        rw [if_neg e3] at h k
        split
        · rename_i e4; rw [if_pos e4] at h k; omega
        · rename_i e4; rw [if_neg e4] at h k; omega
theorem better_trans {a b c : Con} (ha : Val a) (hb : Val b) (hc : Val c) (h1 : b.s = a.s) (h2 : c.s = b.s) (h : betterC a b = true) (k : betterC b c = true) : betterC a c = true :=
  (better_rel ha hc (h2.trans h1)).2 (rel_trans h1 ((better_rel ha hb h1).1 h) ((better_rel hb hc h2).1 k))
theorem rel_total (a b : Con) (h1 : b.s = a.s) : Rel a b ∨ Rel b a := by
  unfold Rel
  rw [h1]
  have := cmpM_neg a.m b.m
  split
  · omega
  · split
    · omega
    · split
      · omega
      · split <;> omega
theorem better_total {a b : Con} (ha : Val a) (hb : Val b) (h1 : b.s = a.s) (h : betterC a b = false) : betterC b a = true := by
  rcases rel_total a b h1 with k | k
  · rw [(better_rel ha hb h1).2 k] at h; cases h
  · exact (better_rel hb ha h1.symm).2 k
theorem better_anti {a b : Con} (ha : Val a) (hb : Val b) (h1 : b.s = a.s) (h : betterC a b = true) (k : betterC b a = true) : sameC a b = true := by
  have h := (better_rel ha hb h1).1 h
  have k := (better_rel hb ha h1.symm).1 k
  obtain ⟨s, m, lv, x⟩ := a
  obtain ⟨s', m', lv', x'⟩ := b
  obtain ⟨hk, hm, hl, hx⟩ := ha
  obtain ⟨_, hm', hl', hx'⟩ := hb
  simp only at h1 hk hm hl hx hm' hl' hx' ⊢
  subst h1
  rcases known_cases hk with rfl | rfl | rfl | rfl | rfl | rfl
  · have h : cmpM m' m ≤ 0 := h
    have k : cmpM m m' ≤ 0 := k
    have := cmpM_neg m m'
    exact decide_eq_true (cmpM_eq0.1 (show cmpM m m' = 0 by omega))
  · have h : lv' ≤ lv := h
    have k : lv ≤ lv' := k
    show (lv == lv') = true
    rw [beq_iff_eq]; omega
  · have h : cmpM m m' ≤ 0 := h
    have k : cmpM m' m ≤ 0 := k
    have := cmpM_neg m m'
    exact decide_eq_true (cmpM_eq0.1 (show cmpM m m' = 0 by omega))
  · have h : lv' ≤ lv := h
    have k : lv ≤ lv' := k
    show (lv == lv') = true
    rw [beq_iff_eq]; omega
  · have h : x' ≤ x := h
    have k : x ≤ x' := k
    obtain rfl : x = x' := by omega
    show same x x = true
    exact same_rfl
  · have h : x ≤ x' := h
    have k : x' ≤ x := k
    obtain rfl : x = x' := by omega
    show same x x = true
    exact same_rfl
theorem better_sum {a b : Con} (ha : Val a) (hb : Val b) (hp : Val (plusC a b)) : betterC (plusC a b) a = true := by
  refine (better_rel hp ha (plusC_s _ _).symm).2 ?_
  obtain ⟨s, m, lv, x⟩ := a
  obtain ⟨s', m', lv', x'⟩ := b
  obtain ⟨hk, hm, hl, hx⟩ := ha
  obtain ⟨_, hm', hl', hx'⟩ := hb
  simp only at hk hm hl hx hm' hl' hx' hp ⊢
  rcases known_cases hk with rfl | rfl | rfl | rfl | rfl | rfl
  · show cmpM m (addM m m') ≤ 0
    have := cmp_add_ge (a := m) (pos_of hm')
    have := cmpM_neg m (addM m m')
    omega
  · show lv ≤ max lv lv'
    omega
  · show cmpM (minM m m') m ≤ 0
    exact minM_le _ _
  · show lv ≤ max lv lv'
    omega
  · have e : plusC ⟨5, m, lv, x⟩ ⟨s', m', lv', x'⟩ = ⟨5, some 0, 0, max x x'⟩ := rfl
    rw [e]
    show x ≤ max x x'
    omega
  · have e : plusC ⟨6, m, lv, x⟩ ⟨s', m', lv', x'⟩ = ⟨6, some 0, 0, min x x'⟩ := rfl
    rw [e]
    show min x x' ≤ x
    omega
theorem better_prod {a b : Con} (ha : Val a) (hb : Val b) (hs : b.s = a.s) (h1 : (a.s == 1) = false) (hp : Val (timesC a b)) : betterC a (timesC a b) = true := by
  refine (better_rel ha hp (timesC_s _ _)).2 ?_
  obtain ⟨s, m, lv, x⟩ := a
  obtain ⟨s', m', lv', x'⟩ := b
  obtain ⟨hk, hm, hl, hx⟩ := ha
  obtain ⟨_, hm', hl', hx'⟩ := hb
  simp only at hk hm hl hx hm' hl' hx' hp hs h1 ⊢
  subst hs
  rcases known_cases hk with rfl | rfl | rfl | rfl | rfl | rfl
  · cases h1
  · show min lv lv' ≤ lv
    omega
  · show cmpM m (addM m m') ≤ 0
    have := cmp_add_ge (a := m) (pos_of hm')
    have := cmpM_neg m (addM m m')
    omega
  · show min lv lv' ≤ lv
    omega
  · have h2 : x ≤ ONE := hx rfl rfl
    have h3 : x' ≤ ONE := hx' rfl rfl
    have hO : ONE < INF := by decide
    have e : timesC ⟨5, m, lv, x⟩ ⟨5, m', lv', x'⟩ = ⟨5, some 0, 0, mulR x x'⟩ := rfl
    rw [e]
    show mulR x x' ≤ x
    exact mulR_le (Nat.lt_of_le_of_lt h2 hO) h3
  · have h2 : x ≤ INF := hx rfl rfl
    have e : timesC ⟨6, m, lv, x⟩ ⟨6, m', lv', x'⟩ = ⟨6, some 0, 0, addR x x'⟩ := rfl
    rw [e]
    show x ≤ addR x x'
    exact addR_ge h2
end Go.Proofs.YtdkmmnehlmaebaaGreatDoor.Se


/- The law SemiBetter. Conditions: the table of powers is laid; the values can be read. -/
namespace Go.Proofs.YtdkmmnehlmaebaaGreatDoor.Se
open Go.RowKit Go.NT Go.FT Go.FX Go.Lib Na

/-- Three values in a row of arguments. -/
theorem small3 (g : Nat) (a b c : SV) (w : World) (t : Bool) (ht : Hid ((decide (a.n ≤ 60) && decide (b.n ≤ 60) && decide (c.n ≤ 60)) = t)) (ha : a.n ≤ 9223372036854775807) (hb : b.n ≤ 9223372036854775807) (hc : c.n ≤ 9223372036854775807)
    (k0 : w.cell? ⟨g, 2, none⟩ = some (.slice a.A a.n a.c)) (k1 : w.cell? ⟨g, 7, none⟩ = some (.slice b.A b.n b.c)) (k2 : w.cell? ⟨g, 12, none⟩ = some (.slice c.A c.n c.c)) :
    Calls Tryz.prog 6 #[.slice (some ⟨g, 0, none⟩) 3 3] w fun e w' => e = .returned (.bool t) ∧ w' = w := by
  refine (small_any g (fun i => if i = 0 then a.n else if i = 1 then b.n else c.n) (fun i => if i = 0 then a.c else if i = 1 then b.c else c.c) (fun i => if i = 0 then a.A else if i = 1 then b.A else c.A) 3 3 w (by omega) (by omega) ?_ ?_).mono ?_
  · intro i hi
    match i, hi with
    | 0, _ => exact k0
    | 1, _ => exact k1
    | 2, _ => exact k2
  · intro i
    match i with
    | 0 => exact ha
    | 1 => exact hb
    | _ + 2 => exact hc
  · rintro e w' ⟨rfl, rfl⟩
    refine ⟨?_, rfl⟩
    rw [← ht.out]
    congr 2
    rw [Bool.eq_iff_iff, Bool.and_eq_true, Bool.and_eq_true, decide_eq_true_iff, decide_eq_true_iff, decide_eq_true_iff, decide_eq_true_iff]
    constructor
    · intro h; exact ⟨⟨h 0 (by omega), h 1 (by omega)⟩, h 2 (by omega)⟩
    · rintro ⟨⟨h0, h1⟩, h2⟩ i hi
      match i, hi with
      | 0, _ => exact h0
      | 1, _ => exact h1
      | 2, _ => exact h2
/-- Three values in their boxes, and once more in a row of arguments. -/
theorem boxed3 {w : World} {a b c : SV} (ha : a.ok w) (hb : b.ok w) (hc : c.ok w) (ht : Tab w) : ∀ W, W = (((w.alloc (.cells #[.int .i64 a.s, .bool a.b, .slice a.A a.n a.c, .int .i64 a.lv, .float .f64 a.x] 27)).alloc (.cells #[.int .i64 b.s, .bool b.b, .slice b.A b.n b.c, .int .i64 b.lv, .float .f64 b.x] 27)).alloc (.cells #[.int .i64 c.s, .bool c.b, .slice c.A c.n c.c, .int .i64 c.lv, .float .f64 c.x] 27)).alloc (.cells #[.int .i64 a.s, .bool a.b, .slice a.A a.n a.c, .int .i64 a.lv, .float .f64 a.x, .int .i64 b.s, .bool b.b, .slice b.A b.n b.c, .int .i64 b.lv, .float .f64 b.x, .int .i64 c.s, .bool c.b, .slice c.A c.n c.c, .int .i64 c.lv, .float .f64 c.x] 27) →
    Five W w.heap.size a ∧ Five W (w.heap.size + 1) b ∧ Five W (w.heap.size + 2) c ∧ Below w.heap.size w W ∧ Tab W := by
  intro W hW
  subst hW
  have h1 := below_al (below_al (below_al (below_al (Below.refl w.heap.size w) (.cells #[.int .i64 a.s, .bool a.b, .slice a.A a.n a.c, .int .i64 a.lv, .float .f64 a.x] 27)) (.cells #[.int .i64 b.s, .bool b.b, .slice b.A b.n b.c, .int .i64 b.lv, .float .f64 b.x] 27)) (.cells #[.int .i64 c.s, .bool c.b, .slice c.A c.n c.c, .int .i64 c.lv, .float .f64 c.x] 27)) (.cells #[.int .i64 a.s, .bool a.b, .slice a.A a.n a.c, .int .i64 a.lv, .float .f64 a.x, .int .i64 b.s, .bool b.b, .slice b.A b.n b.c, .int .i64 b.lv, .float .f64 b.x, .int .i64 c.s, .bool c.b, .slice c.A c.n c.c, .int .i64 c.lv, .float .f64 c.x] 27)
  have A1 := (((five_new w a ha).al (.cells #[.int .i64 b.s, .bool b.b, .slice b.A b.n b.c, .int .i64 b.lv, .float .f64 b.x] 27)).al (.cells #[.int .i64 c.s, .bool c.b, .slice c.A c.n c.c, .int .i64 c.lv, .float .f64 c.x] 27)).al (.cells #[.int .i64 a.s, .bool a.b, .slice a.A a.n a.c, .int .i64 a.lv, .float .f64 a.x, .int .i64 b.s, .bool b.b, .slice b.A b.n b.c, .int .i64 b.lv, .float .f64 b.x, .int .i64 c.s, .bool c.b, .slice c.A c.n c.c, .int .i64 c.lv, .float .f64 c.x] 27)
  have B1 := ((five_new _ b (hb.al (.cells #[.int .i64 a.s, .bool a.b, .slice a.A a.n a.c, .int .i64 a.lv, .float .f64 a.x] 27))).al (.cells #[.int .i64 c.s, .bool c.b, .slice c.A c.n c.c, .int .i64 c.lv, .float .f64 c.x] 27)).al (.cells #[.int .i64 a.s, .bool a.b, .slice a.A a.n a.c, .int .i64 a.lv, .float .f64 a.x, .int .i64 b.s, .bool b.b, .slice b.A b.n b.c, .int .i64 b.lv, .float .f64 b.x, .int .i64 c.s, .bool c.b, .slice c.A c.n c.c, .int .i64 c.lv, .float .f64 c.x] 27)
  have C1 := (five_new _ c ((hc.al (.cells #[.int .i64 a.s, .bool a.b, .slice a.A a.n a.c, .int .i64 a.lv, .float .f64 a.x] 27)).al (.cells #[.int .i64 b.s, .bool b.b, .slice b.A b.n b.c, .int .i64 b.lv, .float .f64 b.x] 27))).al (.cells #[.int .i64 a.s, .bool a.b, .slice a.A a.n a.c, .int .i64 a.lv, .float .f64 a.x, .int .i64 b.s, .bool b.b, .slice b.A b.n b.c, .int .i64 b.lv, .float .f64 b.x, .int .i64 c.s, .bool c.b, .slice c.A c.n c.c, .int .i64 c.lv, .float .f64 c.x] 27)
  rw [show (w.alloc (.cells #[.int .i64 a.s, .bool a.b, .slice a.A a.n a.c, .int .i64 a.lv, .float .f64 a.x] 27)).heap.size = w.heap.size + 1 by simp] at B1
  rw [show ((w.alloc (.cells #[.int .i64 a.s, .bool a.b, .slice a.A a.n a.c, .int .i64 a.lv, .float .f64 a.x] 27)).alloc (.cells #[.int .i64 b.s, .bool b.b, .slice b.A b.n b.c, .int .i64 b.lv, .float .f64 b.x] 27)).heap.size = w.heap.size + 2 by simp] at C1
  exact ⟨A1, B1, C1, h1, ht.below h1⟩
theorem better_at (a b : SV) (w : World) (N : Nat) (X : Bool) (ha : a.ok w) (hb : b.ok w) (hN : max a.n b.n + 1 ≤ N) (hN2 : N ≤ 1099511627776) (h : Hid (bothE a b = 0)) (hX : Hid (betterC a.con b.con = X)) :
    Calls Tryz.prog 18 #[a.v, b.v] w fun e w' => e = .returned (.tuple #[.bool X, .int .i64 0]) ∧ Below w.heap.size w w' := by
  have := better_sv a b w N ha hb hN hN2
  rwa [hX.out, h.out, show ((0 : Int) == 0 && X) = X from rfl] at this
theorem better_e (a b : SV) (w : World) (N : Nat) (X : Bool) (E : Int) (ha : a.ok w) (hb : b.ok w) (hN : max a.n b.n + 1 ≤ N) (hN2 : N ≤ 1099511627776) (h : Hid (bothE a b = E)) (hX : Hid ((bothE a b == 0 && betterC a.con b.con) = X)) :
    Calls Tryz.prog 18 #[a.v, b.v] w fun e w' => e = .returned (.tuple #[.bool X, .int .i64 E]) ∧ Below w.heap.size w w' := by
  have := better_sv a b w N ha hb hN hN2
  rwa [hX.out, h.out] at this
end Go.Proofs.YtdkmmnehlmaebaaGreatDoor.Se
