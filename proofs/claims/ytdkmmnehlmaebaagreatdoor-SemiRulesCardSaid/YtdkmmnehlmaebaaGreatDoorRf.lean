/- The plain laws of semirings, on values' contents. Conditions: the values may be; in Best and Cost nothing is rounded. -/
import Derived.Test.YtdkmmnehlmaebaaGreatDoorRd
namespace Go.Proofs.YtdkmmnehlmaebaaGreatDoor.Se
open Go.RowKit Go.NT Go.FT Go.FX Go.Lib Na

theorem addR_mono {r s t : Nat} (ht : t ≤ INF) (h : s ≤ t) : addR r s ≤ addR r t := by
  by_cases hr : r = INF
  · subst hr; rw [addR_inf_left, addR_inf_left]; exact Nat.le_refl _
  · by_cases e : t = INF
    · subst e; rw [addR_inf_right]; exact addR_le _ _
    · have hs : s ≠ INF := by omega
      unfold addR
      rw [if_neg (by rintro (h | h) <;> contradiction), if_neg (by rintro (h | h) <;> contradiction)]
      have hv := V_le h
      exact nearest_mono (m := V r + V s) (m' := V r + V t) (p := -1074) (p' := -1074) (c := 1074) (by omega) (by omega) (Nat.mul_le_mul_right _ (by omega))
theorem mulR_mono {r s t : Nat} (h : s ≤ t) : mulR r s ≤ mulR r t := by
  unfold mulR
  exact nearest_mono (m := V r * V s) (m' := V r * V t) (p := -2148) (p' := -2148) (c := 2148) (by omega) (by omega) (Nat.mul_le_mul_right _ (Nat.mul_le_mul_left _ (V_le h)))
theorem addR_min {r s t : Nat} (hs : s ≤ INF) (ht : t ≤ INF) : addR r (min s t) = min (addR r s) (addR r t) := by
  rcases Nat.le_total s t with h | h
  · rw [Nat.min_eq_left h, Nat.min_eq_left (addR_mono ht h)]
  · rw [Nat.min_eq_right h, Nat.min_eq_right (addR_mono hs h)]
theorem mulR_max (r s t : Nat) : mulR r (max s t) = max (mulR r s) (mulR r t) := by
  rcases Nat.le_total s t with h | h
  · rw [Nat.max_eq_right h, Nat.max_eq_right (mulR_mono h)]
  · rw [Nat.max_eq_left h, Nat.max_eq_left (mulR_mono h)]
theorem mulR_zero (r : Nat) : mulR r 0 = 0 := by
  unfold mulR
  rw [V_zero, Nat.mul_zero]
  exact nearest_zero _
theorem minM_comm (a b : Option Int) : minM a b = minM b a := by
  have h1 := cmpM_neg a b
  unfold minM
  by_cases h : cmpM b a < 0
  · rw [if_pos h, if_neg (by omega)]
  · by_cases k : cmpM a b < 0
    · rw [if_neg h, if_pos k]
    · rw [if_neg h, if_neg k]
      exact cmpM_eq0.1 (by omega)
theorem minM_of_le {a b : Option Int} (h : cmpM a b ≤ 0) : minM a b = a := minM_left.2 h
theorem minM_cases (a b : Option Int) : (cmpM a b ≤ 0 ∧ minM a b = a) ∨ (cmpM b a ≤ 0 ∧ minM a b = b) := by
  have h1 := cmpM_neg a b
  by_cases h : cmpM a b ≤ 0
  · exact .inl ⟨h, minM_of_le h⟩
  · exact .inr ⟨by omega, by rw [minM_comm]; exact minM_of_le (by omega)⟩
theorem minM_assoc (a b c : Option Int) : minM a (minM b c) = minM (minM a b) c := by
  rcases minM_cases b c with ⟨h1, e1⟩ | ⟨h1, e1⟩ <;> rcases minM_cases a b with ⟨h2, e2⟩ | ⟨h2, e2⟩ <;> rw [e1, e2]
  · rw [minM_of_le (cmpM_trans h2 h1)]
  · rw [e1]
  · rw [e1, minM_comm a c, minM_of_le (cmpM_trans h1 h2)]
theorem addM_min (a b c : Option Int) : addM a (minM b c) = minM (addM a b) (addM a c) := by
  rcases minM_cases b c with ⟨h, e⟩ | ⟨h, e⟩ <;> rw [e]
  · rw [minM_of_le]
    rw [addM_comm a b, addM_comm a c]; exact cmp_add_mono a h
  · rw [minM_comm, minM_of_le]
    rw [addM_comm a b, addM_comm a c]; exact cmp_add_mono a h
section
variable (m m' : Option Int) (l l' : Int) (x x' : Nat)
theorem p1 : plusC ⟨1, m, l, x⟩ ⟨1, m', l', x'⟩ = ⟨1, addM m m', 0, 0⟩ := rfl
theorem p2 : plusC ⟨2, m, l, x⟩ ⟨2, m', l', x'⟩ = ⟨2, some 0, max l l', 0⟩ := rfl
theorem p3 : plusC ⟨3, m, l, x⟩ ⟨3, m', l', x'⟩ = ⟨3, minM m m', 0, 0⟩ := rfl
theorem p4 : plusC ⟨4, m, l, x⟩ ⟨4, m', l', x'⟩ = ⟨4, some 0, max l l', 0⟩ := rfl
theorem p5 : plusC ⟨5, m, l, x⟩ ⟨5, m', l', x'⟩ = ⟨5, some 0, 0, max x x'⟩ := rfl
theorem p6 : plusC ⟨6, m, l, x⟩ ⟨6, m', l', x'⟩ = ⟨6, some 0, 0, min x x'⟩ := rfl
theorem q1 : timesC ⟨1, m, l, x⟩ ⟨1, m', l', x'⟩ = ⟨1, mulM m m', 0, 0⟩ := rfl
theorem q2 : timesC ⟨2, m, l, x⟩ ⟨2, m', l', x'⟩ = ⟨2, some 0, min l l', 0⟩ := rfl
theorem q3 : timesC ⟨3, m, l, x⟩ ⟨3, m', l', x'⟩ = ⟨3, addM m m', 0, 0⟩ := rfl
theorem q4 : timesC ⟨4, m, l, x⟩ ⟨4, m', l', x'⟩ = ⟨4, some 0, min l l', 0⟩ := rfl
theorem q5 : timesC ⟨5, m, l, x⟩ ⟨5, m', l', x'⟩ = ⟨5, some 0, 0, mulR x x'⟩ := rfl
theorem q6 : timesC ⟨6, m, l, x⟩ ⟨6, m', l', x'⟩ = ⟨6, some 0, 0, addR x x'⟩ := rfl
theorem s1 : sameC ⟨1, m, l, x⟩ ⟨1, m', l', x'⟩ = decide (m = m') := rfl
theorem s2 : sameC ⟨2, m, l, x⟩ ⟨2, m', l', x'⟩ = (l == l') := rfl
theorem s3 : sameC ⟨3, m, l, x⟩ ⟨3, m', l', x'⟩ = decide (m = m') := rfl
theorem s4 : sameC ⟨4, m, l, x⟩ ⟨4, m', l', x'⟩ = (l == l') := rfl
theorem s5 : sameC ⟨5, m, l, x⟩ ⟨5, m', l', x'⟩ = same x x' := rfl
theorem s6 : sameC ⟨6, m, l, x⟩ ⟨6, m', l', x'⟩ = same x x' := rfl
end
theorem z1 : zeroC 1 = ⟨1, some 0, 0, 0⟩ := rfl
theorem z2 : zeroC 2 = ⟨2, some 0, 0, 0⟩ := rfl
theorem z3 : zeroC 3 = ⟨3, none, 0, 0⟩ := rfl
theorem z4 : zeroC 4 = ⟨4, some 0, 0, 0⟩ := rfl
theorem z5 : zeroC 5 = ⟨5, some 0, 0, 0⟩ := rfl
theorem z6 : zeroC 6 = ⟨6, some 0, 0, INF⟩ := rfl
theorem o1 : oneC 1 = ⟨1, some 1, 0, 0⟩ := rfl
theorem o2 : oneC 2 = ⟨2, some 0, 1, 0⟩ := rfl
theorem o3 : oneC 3 = ⟨3, some 0, 0, 0⟩ := rfl
theorem o4 : oneC 4 = ⟨4, some 0, 7, 0⟩ := rfl
theorem o5 : oneC 5 = ⟨5, some 0, 0, ONE⟩ := rfl
theorem o6 : oneC 6 = ⟨6, some 0, 0, 0⟩ := rfl
theorem sameC_refl (c : Con) : sameC c c = true := by
  unfold sameC
  split
  · exact decide_eq_true rfl
  · split
    · exact beq_self_eq_true _
    · exact same_rfl
/-- Nothing is rounded, of three. -/
def Ex (a b c : Con) : Prop :=
  (a.s = 5 → mulR a.x (mulR b.x c.x) = mulR (mulR a.x b.x) c.x) ∧ (a.s = 6 → addR a.x (addR b.x c.x) = addR (addR a.x b.x) c.x)
theorem plus_comm {a b : Con} (hk : knownB a.s = true) (h : b.s = a.s) : plusC a b = plusC b a := by
  obtain ⟨s, m, l, x⟩ := a
  obtain ⟨s', m', l', x'⟩ := b
  simp only at h hk
  subst h
  rcases known_cases hk with rfl | rfl | rfl | rfl | rfl | rfl
  · rw [p1, p1, addM_comm]
  · rw [p2, p2, Int.max_comm]
  · rw [p3, p3, minM_comm]
  · rw [p4, p4, Int.max_comm]
  · rw [p5, p5, Nat.max_comm]
  · rw [p6, p6, Nat.min_comm]
theorem times_comm {a b : Con} (hk : knownB a.s = true) (h : b.s = a.s) : timesC a b = timesC b a := by
  obtain ⟨s, m, l, x⟩ := a
  obtain ⟨s', m', l', x'⟩ := b
  simp only at h hk
  subst h
  rcases known_cases hk with rfl | rfl | rfl | rfl | rfl | rfl
  · rw [q1, q1, mulM_comm]
  · rw [q2, q2, Int.min_comm]
  · rw [q3, q3, addM_comm]
  · rw [q4, q4, Int.min_comm]
  · rw [q5, q5, mulR_comm]
  · rw [q6, q6, addR_comm]
theorem plus_assoc {a b c : Con} (hk : knownB a.s = true) (h : b.s = a.s) (h2 : c.s = a.s) : plusC a (plusC b c) = plusC (plusC a b) c := by
  obtain ⟨s, m, l, x⟩ := a
  obtain ⟨s', m', l', x'⟩ := b
  obtain ⟨s'', m'', l'', x''⟩ := c
  simp only at h h2 hk
  subst h h2
  rcases known_cases hk with rfl | rfl | rfl | rfl | rfl | rfl
  · rw [p1, p1, p1, p1, addM_assoc]
  · rw [p2, p2, p2, p2, Int.max_assoc]
  · rw [p3, p3, p3, p3, minM_assoc]
  · rw [p4, p4, p4, p4, Int.max_assoc]
  · rw [p5, p5, p5, p5, Nat.max_assoc]
  · rw [p6, p6, p6, p6, Nat.min_assoc]
theorem times_assoc {a b c : Con} (hk : knownB a.s = true) (h : b.s = a.s) (h2 : c.s = a.s) (hx : Ex a b c) : timesC a (timesC b c) = timesC (timesC a b) c := by
  obtain ⟨s, m, l, x⟩ := a
  obtain ⟨s', m', l', x'⟩ := b
  obtain ⟨s'', m'', l'', x''⟩ := c
  obtain ⟨e1, e2⟩ := hx
  simp only at h h2 hk e1 e2
  subst h h2
  rcases known_cases hk with rfl | rfl | rfl | rfl | rfl | rfl
  · rw [q1, q1, q1, q1, mulM_assoc]
  · rw [q2, q2, q2, q2, Int.min_assoc]
  · rw [q3, q3, q3, q3, addM_assoc]
  · rw [q4, q4, q4, q4, Int.min_assoc]
  · rw [q5, q5, q5, q5, e1 rfl]
  · rw [q6, q6, q6, q6, e2 rfl]
theorem int_min_max (a b c : Int) : min a (max b c) = max (min a b) (min a c) := by omega
theorem times_plus {a b c : Con} (ha : Val a) (hb : Val b) (hc : Val c) (h : b.s = a.s) (h2 : c.s = a.s) : timesC a (plusC b c) = plusC (timesC a b) (timesC a c) := by
  obtain ⟨s, m, l, x⟩ := a
  obtain ⟨s', m', l', x'⟩ := b
  obtain ⟨s'', m'', l'', x''⟩ := c
  obtain ⟨hk, hm, hl, hx⟩ := ha
  obtain ⟨_, hm', hl', hx'⟩ := hb
  obtain ⟨_, hm'', hl'', hx''⟩ := hc
  simp only at h h2 hk hm hl hx hm' hl' hx' hm'' hl'' hx''
  subst h h2
  rcases known_cases hk with rfl | rfl | rfl | rfl | rfl | rfl
  · rw [p1, q1, q1, q1, p1, mul_addM (pos_of hm') (pos_of hm'')]
  · rw [p2, q2, q2, q2, p2, int_min_max]
  · rw [p3, q3, q3, q3, p3, addM_min]
  · rw [p4, q4, q4, q4, p4, int_min_max]
  · rw [p5, q5, q5, q5, p5, mulR_max]
  · have h1 : x' ≤ INF := hx' rfl rfl
    have h2 : x'' ≤ INF := hx'' rfl rfl
    rw [p6, q6, q6, q6, p6, addR_min h1 h2]
theorem plus_zero {a : Con} (ha : Val a) : sameC (plusC a (zeroC a.s)) a = true := by
  obtain ⟨s, m, l, x⟩ := a
  obtain ⟨hk, hm, hl, hx⟩ := ha
  simp only at hk hm hl hx ⊢
  rcases known_cases hk with rfl | rfl | rfl | rfl | rfl | rfl
  · rw [z1, p1, s1, Na.addM_zero]; exact decide_eq_true rfl
  · have := hl rfl
    rw [z2, p2, s2, beq_iff_eq]; omega
  · rw [z3, p3, s3, minM_of_le (cmp_top m)]; exact decide_eq_true rfl
  · have := hl rfl
    rw [z4, p4, s4, beq_iff_eq]; omega
  · rw [z5, p5, s5, Nat.max_eq_left (Nat.zero_le _)]; exact same_rfl
  · have h1 : x ≤ INF := hx rfl rfl
    rw [z6, p6, s6, Nat.min_eq_left h1]; exact same_rfl
theorem times_one {a : Con} (ha : Val a) : sameC (timesC a (oneC a.s)) a = true := by
  obtain ⟨s, m, l, x⟩ := a
  obtain ⟨hk, hm, hl, hx⟩ := ha
  simp only at hk hm hl hx ⊢
  rcases known_cases hk with rfl | rfl | rfl | rfl | rfl | rfl
  · rw [o1, q1, s1, mulM_one]; exact decide_eq_true rfl
  · have := hl rfl
    have h2 : topV 2 = 1 := rfl
    rw [h2] at this
    rw [o2, q2, s2, beq_iff_eq]; omega
  · rw [o3, q3, s3, Na.addM_zero]; exact decide_eq_true rfl
  · have := hl rfl
    have h2 : topV 4 = 7 := rfl
    rw [h2] at this
    rw [o4, q4, s4, beq_iff_eq]; omega
  · have h1 : x ≤ ONE := hx rfl rfl
    rw [o5, q5, s5, mulR_one (Nat.lt_of_le_of_lt h1 (by decide))]; exact same_rfl
  · have h1 : x ≤ INF := hx rfl rfl
    rw [o6, q6, s6, addR_zero h1]; exact same_rfl
theorem times_zero {a : Con} (ha : Val a) : timesC a (zeroC a.s) = zeroC a.s := by
  obtain ⟨s, m, l, x⟩ := a
  obtain ⟨hk, hm, hl, hx⟩ := ha
  simp only at hk hm hl hx ⊢
  rcases known_cases hk with rfl | rfl | rfl | rfl | rfl | rfl
  · rw [z1, q1, mulM_zero]
  · have := hl rfl
    rw [z2, q2, Int.min_eq_right this.1]
  · rw [z3, q3, addM_top]
  · have := hl rfl
    rw [z4, q4, Int.min_eq_right this.1]
  · rw [z5, q5, mulR_zero]
  · rw [z6, q6, addR_inf_right]
theorem one_not_zero {s : Int} (h : knownB s = true) : sameC (oneC s) (zeroC s) = false := by
  rcases known_cases h with rfl | rfl | rfl | rfl | rfl | rfl
  · decide
  · decide
  · decide
  · decide
  · rw [o5, z5, s5, same_fin (by decide) (by decide)]; decide
  · rw [o6, z6, s6, same_fin (by decide) (by decide)]; decide
/-- The chances that are multiplied without rounding. -/
def chances : List Nat := [0, 4607182418800017408, 4602678819172646912, 4598175219545276416, 4593671619917905920]
theorem chances_assoc : (chances.all fun a => chances.all fun b => chances.all fun c => mulR a (mulR b c) == mulR (mulR a b) c) = true := by decide +kernel
theorem mulR_assoc {a b c : Nat} (ha : a ∈ chances) (hb : b ∈ chances) (hc : c ∈ chances) : mulR a (mulR b c) = mulR (mulR a b) c := by
  have h := List.all_eq_true.1 (List.all_eq_true.1 (List.all_eq_true.1 chances_assoc a ha) b hb) c hc
  simpa using h
/-- Whole prices that are not too great, and infinity. -/
def M40 : Nat := 1099511627776
def T40 : Nat := 4787326403894837248
def E : Option Nat → Nat
  | some n => F n
  | none => INF
theorem E_addR_assoc {a b c : Option Nat} (ha : ∀ n, a = some n → n ≤ M40) (hb : ∀ n, b = some n → n ≤ M40) (hc : ∀ n, c = some n → n ≤ M40) : addR (E a) (addR (E b) (E c)) = addR (addR (E a) (E b)) (E c) := by
  have hB : B = 4503599627370496 := rfl
  cases a with
  | none => show addR INF _ = addR (addR INF _) _; rw [addR_inf_left, addR_inf_left, addR_inf_left]
  | some n =>
    cases b with
    | none => show addR _ (addR INF _) = addR (addR _ INF) _; rw [addR_inf_left, addR_inf_right, addR_inf_left]
    | some k =>
      cases c with
      | none => show addR _ (addR _ INF) = addR _ INF; rw [addR_inf_right, addR_inf_right, addR_inf_right]
      | some j =>
        have h1 := ha n rfl
        have h2 := hb k rfl
        have h3 := hc j rfl
        unfold M40 at h1 h2 h3
        show addR (F n) (addR (F k) (F j)) = addR (addR (F n) (F k)) (F j)
        rw [addR_F (by omega) (by omega), addR_F (by omega) (by omega), addR_F (by omega) (by omega), addR_F (by omega) (by omega), Nat.add_assoc]
theorem F_M40 : F M40 = T40 := by decide +kernel
theorem F_strict {n m : Nat} (h : n < m) (hm : m < 2 * B) : F n < F m := by
  have h1 := V_F hm
  have h2 := V_F (Nat.lt_trans h hm)
  refine V_lt_iff.1 ?_
  rw [h1, h2]
  have hp := Nat.two_pow_pos 1074
  generalize 2 ^ 1074 = K at hp ⊢
  exact Nat.mul_lt_mul_of_pos_right h hp
theorem small_of_F {n : Nat} (h : F n ≤ T40) : n ≤ M40 := by
  rcases Nat.lt_or_ge M40 n with k | k
  · have h1 := F_mono (show M40 + 1 ≤ n from k)
    have h2 := F_strict (n := M40) (m := M40 + 1) (by omega) (by decide)
    rw [F_M40] at h2
    omega
  · exact k
/-- A double's whole part. -/
def fl (x : Nat) : Nat := FloatKind.f64.encode ((FloatKind.f64.decode x).integral .down)
theorem fl_F {r : Nat} (h : r < INF) : ∃ q, fl r = F q := by
  refine ⟨Ieee.Toward.cut .down false (mag r <<< (-1074 + (ex r : Int)).toNat) (-(-1074 + (ex r : Int))).toNat, ?_⟩
  unfold fl
  show D.write (Ieee.Datum.integral .down (D.read r)) = _
  rw [read_fin h]
  rfl
theorem fl_E {x : Nat} (hx : x ≤ T40) (h : fl x = x) : ∃ n, n ≤ M40 ∧ x = F n := by
  have hT : T40 < INF := by decide
  obtain ⟨q, hq⟩ := fl_F (r := x) (by omega)
  rw [h] at hq
  exact ⟨q, small_of_F (by omega), hq⟩
end Go.Proofs.YtdkmmnehlmaebaaGreatDoor.Se
