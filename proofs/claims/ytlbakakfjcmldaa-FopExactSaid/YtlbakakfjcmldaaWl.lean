/- Plain facts on sums of whole prices that are not too great: none is rounded, in whatever order and groups. Condition: each is at most 2^40, and there are 201 at most. -/
import Derived.Test.YtlbakakfjcmldaaWk
namespace Go.Proofs.Ytlbakakfjcmldaa
open Go.RowKit Go.FT Go.ChangeShapes Go.WideShapes

/-- A whole price, or infinity. -/
def E : Option Nat → Nat
  | none => INF
  | some n => F n
def addO : Option Nat → Option Nat → Option Nat
  | some a, some b => some (a + b)
  | _, _ => none
def sumO : List (Option Nat) → Option Nat
  | [] => some 0
  | x :: l => addO x (sumO l)
abbrev M40 : Nat := 1099511627776
def okO (b : Nat) : Option Nat → Prop
  | none => True
  | some n => n ≤ b
theorem addO_assoc (a b c : Option Nat) : addO (addO a b) c = addO a (addO b c) := by
  cases a <;> cases b <;> cases c <;> simp [addO, Nat.add_assoc]
theorem addO_comm (a b : Option Nat) : addO a b = addO b a := by
  cases a <;> cases b <;> simp [addO, Nat.add_comm]
theorem addO_zero (a : Option Nat) : addO (some 0) a = a := by cases a <;> simp [addO]
theorem sumO_append (l m : List (Option Nat)) : sumO (l ++ m) = addO (sumO l) (sumO m) := by
  induction l with
  | nil => rw [List.nil_append, sumO, addO_zero]
  | cons x l ih => rw [List.cons_append, sumO, sumO, ih, addO_assoc]
theorem sumO_rot (l : List (Option Nat)) (k : Nat) : sumO (l.drop k ++ l.take k) = sumO l := by
  rw [sumO_append, addO_comm, ← sumO_append, List.take_append_drop]
theorem okO_add {a b : Option Nat} {x y : Nat} (ha : okO x a) (hb : okO y b) : okO (x + y) (addO a b) := by
  cases a <;> cases b <;> simp_all [okO, addO]; omega
theorem okO_mono {a : Option Nat} {x y : Nat} (ha : okO x a) (h : x ≤ y) : okO y a := by
  cases a <;> simp_all [okO]; omega
theorem sumO_ok : ∀ (l : List (Option Nat)), (∀ o ∈ l, okO M40 o) → okO (l.length * M40) (sumO l)
  | [], _ => by simp [sumO, okO]
  | x :: l, h => by
    have a := sumO_ok l (fun o ho => h o (List.mem_cons_of_mem _ ho))
    have := okO_add (h x (List.mem_cons_self ..)) a
    rw [List.length_cons, Nat.add_mul, Nat.one_mul, Nat.add_comm]
    exact this
theorem E_le {o : Option Nat} (h : okO (2 * B - 1) o) : E o ≤ INF := by
  cases o with
  | none => exact Nat.le_refl _
  | some n =>
    have hn : n ≤ 2 * B - 1 := h
    exact Nat.le_of_lt (F_lt (by unfold B at *; omega))
theorem E_add {a b : Option Nat} (ha : okO (2 * B - 1) a) (hb : okO (2 * B - 1) b) : pe (E a) (E b) = 0 ∧ pv (E a) (E b) = E (addO a b) := by
  have h1 := E_le ha
  have h2 := E_le hb
  have hp := pv_yes (ok_self h1) (ok_self h2)
  refine ⟨hp.2, ?_⟩
  rw [hp.1, clr_id h1, clr_id h2]
  cases a with
  | none => exact addR_inf_left _
  | some n =>
    cases b with
    | none => exact addR_inf_right _
    | some m =>
      have hn : n ≤ 2 * B - 1 := ha
      have hm : m ≤ 2 * B - 1 := hb
      exact addR_F (by unfold B at *; omega) (by unfold B at *; omega)
theorem pathG_E : ∀ (l : List (Option Nat)) (s : Option Nat) (b : Nat), okO b s → (∀ o ∈ l, okO M40 o) → b + l.length * M40 ≤ 2 * B - 1 → pathG (E s) (l.map E) = (E (addO s (sumO l)), 0)
  | [], s, b, _, _, _ => by rw [sumO, addO_comm, addO_zero]; rfl
  | x :: l, s, b, hs, hl, hb => by
    rw [List.length_cons, Nat.add_mul, Nat.one_mul] at hb
    have hx := hl x (List.mem_cons_self ..)
    have hM : M40 ≤ 2 * B - 1 := by decide
    have hb1 : b ≤ 2 * B - 1 := Nat.le_trans (Nat.le_add_right _ _) hb
    have hb2 : b + M40 + l.length * M40 ≤ 2 * B - 1 := by
      generalize 2 * B - 1 = T at *
      generalize M40 = M at *
      generalize l.length * M = z at *
      omega
    obtain ⟨h1, h2⟩ := E_add (okO_mono hs hb1) (okO_mono hx hM)
    rw [List.map_cons, pathG_ok h1, h2, pathG_E l (addO s x) (b + M40) (okO_add hs hx) (fun o ho => hl o (List.mem_cons_of_mem _ ho)) hb2, sumO, addO_assoc]
theorem E_zero : E (some 0) = 0 := F_zero
theorem path_E {l : List (Option Nat)} (h : ∀ o ∈ l, okO M40 o) (hl : l.length ≤ 201) : pathG 0 (l.map E) = (E (sumO l), 0) := by
  have h0 : okO 0 (some 0) := Nat.le_refl 0
  have hb : 0 + l.length * M40 ≤ 2 * B - 1 := by
    have := Nat.mul_le_mul_right M40 hl
    have h2 : 201 * M40 ≤ 2 * B - 1 := by decide
    omega
  have := pathG_E l (some 0) 0 h0 h hb
  rw [E_zero, addO_zero] at this
  exact this

theorem E_lt {o : Option Nat} (h : okO (2 * B - 1) o) : E o < W64 := Nat.lt_of_le_of_lt (E_le h) inf_lt

/-! ### A whole number is what is cut off from it -/
theorem cut_whole {n m drop : Nat} (h : m = n * 2 ^ drop) : Ieee.Toward.cut .zero false m drop = n := by
  unfold Ieee.Toward.cut
  simp only [Nat.one_shiftLeft, Bool.toNat_false, Nat.add_zero]
  by_cases h0 : n = 0
  · subst h0; rw [h, Nat.zero_mul, Nat.zero_div]
  · have hm : m ≠ 0 := by rw [h]; exact Nat.mul_ne_zero h0 (Nat.ne_of_gt (Nat.two_pow_pos _))
    have hl : drop ≤ m.log2 := (Nat.le_log2 hm).2 (by rw [h]; exact Nat.le_mul_of_pos_left _ (by omega))
    rw [Nat.min_eq_left (by omega), h, Nat.mul_div_cancel _ (Nat.two_pow_pos _)]
theorem tr_F {n : Nat} (hn : n < 2 * B) : tr (F n) = F n := by
  have h1 := F_lt hn
  have h2 := V_F hn
  unfold tr
  show D.write (Ieee.Datum.integral .zero (D.read (F n))) = F n
  rw [read_fin h1]
  generalize hr : F n = r at *
  show D.nearest false (Ieee.Toward.cut .zero false (mag r <<< (-1074 + (ex r : Int)).toNat) (-(-1074 + (ex r : Int))).toNat) 0 = r
  have hc : Ieee.Toward.cut .zero false (mag r <<< (-1074 + (ex r : Int)).toNat) (-(-1074 + (ex r : Int))).toNat = n := by
    refine cut_whole ?_
    rw [Nat.shiftLeft_eq]
    unfold V at h2
    by_cases hp : 1074 ≤ ex r
    · have e1 : (-1074 + (ex r : Int)).toNat = ex r - 1074 := by omega
      have e2 : (-(-1074 + (ex r : Int))).toNat = 0 := by omega
      rw [e1, e2, Nat.pow_zero, Nat.mul_one]
      have e3 : (2 : Nat) ^ ex r = 2 ^ (ex r - 1074) * 2 ^ 1074 := (pow_mul_eq (ex r - 1074) 1074 (ex r) (by omega)).symm
      rw [e3, ← Nat.mul_assoc] at h2
      exact Nat.eq_of_mul_eq_mul_right (Nat.two_pow_pos 1074) h2
    · have e1 : (-1074 + (ex r : Int)).toNat = 0 := by omega
      have e2 : (-(-1074 + (ex r : Int))).toNat = 1074 - ex r := by omega
      rw [e1, e2, Nat.pow_zero, Nat.mul_one]
      have e3 : (2 : Nat) ^ 1074 = 2 ^ (1074 - ex r) * 2 ^ ex r := (pow_mul_eq (1074 - ex r) (ex r) 1074 (by omega)).symm
      rw [e3, ← Nat.mul_assoc] at h2
      exact Nat.eq_of_mul_eq_mul_right (Nat.two_pow_pos (ex r)) h2
  rw [hc]
  exact hr
theorem F_M40 : F M40 = T40 := by decide +kernel
theorem exB_E {o : Option Nat} (h : okO M40 o) : exB (E o) = true := by
  cases o with
  | none => decide +kernel
  | some n =>
    have hn : n ≤ M40 := h
    have hlt : n < 2 * B := by unfold M40 B at *; omega
    have h1 : F n < INF := F_lt hlt
    have h2 : F n ≤ T40 := by rw [← F_M40]; exact F_mono hn
    have h3 := tr_F hlt
    show exB (F n) = true
    generalize F n = r at *
    unfold exB
    have e0 : FloatKind.f64.format.order r 0 = some (compare r 0) := order_fin (by omega) (by decide)
    have e1 : FloatKind.f64.format.order r MAXF = some (compare r MAXF) := order_fin (by omega) (by decide)
    have e2 : FloatKind.f64.format.order r T40 = some (compare r T40) := order_fin (by omega) (by decide)
    have e3 : FloatKind.f64.format.order r r = some (compare r r) := order_fin (by omega) (by omega)
    rw [e0, show FloatKind.f64.format.order r 9218868437227405311 = _ from e1, show FloatKind.f64.format.order r 4787326403894837248 = _ from e2, h3, e3, cmp_gt, cmp_gt, cmp_gt, cmp_eq, cmp_ne]
    have hT : T40 < MAXF := by decide
    rw [decide_eq_false (by omega : ¬ MAXF < r), decide_eq_false (by omega : ¬ T40 < r), decide_eq_false (by simp : ¬ (r ≠ r))]
    by_cases hz : r = 0
    · rw [decide_eq_true hz]; simp
    · rw [decide_eq_true (by omega : 0 < r)]; simp
theorem exL_E {l : List (Option Nat)} (h : ∀ o ∈ l, okO M40 o) (hl : l.length ≤ 201) : exL (l.map E) = true := by
  unfold exL
  rw [List.length_map, decide_eq_true (by omega : l.length ≤ 1000), Bool.true_and, List.all_map, List.all_eq_true]
  intro o ho
  exact exB_E (h o ho)
theorem floatOfInt_F {z : Int} (h : 0 ≤ z) : floatOfInt .f64 z = F z.toNat := by
  unfold floatOfInt FloatKind.nearest
  show D.write (.number (decide (z < 0)) z.natAbs 0) = _
  rw [decide_eq_false (by omega), show z.natAbs = z.toNat by omega]
  rfl
end Go.Proofs.Ytlbakakfjcmldaa
