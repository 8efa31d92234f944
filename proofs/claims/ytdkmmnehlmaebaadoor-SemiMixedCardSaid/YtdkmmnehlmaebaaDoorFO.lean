/- Plain facts: how two doubles stand to each other, as numbers and by their places. No condition. -/
import Derived.Test.YtdkmmnehlmaebaaDoorFZ
namespace Go.FX
open Go.FT Go.Lib Ieee

/-- A double's value in units of the least one; of the infinities a stand-in beyond all. -/
def sv (x : Nat) : Int := if ng x then -(V (x - SGN) : Int) else (V x : Int)
theorem cmp_V (r s : Nat) : compare r s = compare (V r : Int) (V s : Int) := by
  rw [cmp_nat, cmp_int]
  have h1 : (r < s) ↔ ((V r : Int) < V s) := by rw [← V_lt_iff]; omega
  have h2 : (r = s) ↔ ((V r : Int) = V s) := ⟨fun h => by rw [h], fun h => V_inj (by omega)⟩
  by_cases a : r < s
  · rw [if_pos a, if_pos (h1.1 a)]
  · rw [if_neg a, if_neg (fun h => a (h1.2 h))]
    by_cases b : r = s
    · rw [if_pos b, if_pos (h2.1 b)]
    · rw [if_neg b, if_neg (fun h => b (h2.2 h))]
theorem V_zero_iff {r : Nat} : V r = 0 ↔ r = 0 := ⟨fun h => V_inj (by rw [h, V_zero]), fun h => by rw [h, V_zero]⟩
theorem mag_zero_iff {r : Nat} : mag r = 0 ↔ r = 0 := by
  constructor
  · intro h
    apply Nat.eq_zero_of_not_pos
    intro hp
    have := mag_pos hp
    omega
  · intro h; subst h; unfold mag; rw [if_pos (by decide)]
theorem shl_zero {m k : Nat} : m <<< k = 0 ↔ m = 0 := by
  rw [Nat.shiftLeft_eq]
  constructor
  · intro h
    rcases Nat.mul_eq_zero.1 h with h | h
    · exact h
    · have := Nat.two_pow_pos k; omega
  · intro h; rw [h, Nat.zero_mul]
theorem cmp_pm {a b c d : Nat} (h1 : a = 0 ↔ c = 0) (h2 : b = 0 ↔ d = 0) : compare (a : Int) (-(b : Int)) = compare (c : Int) (-(d : Int)) := by
  rw [cmp_int, cmp_int, if_neg (show ¬ ((a : Int) < -(b : Int)) by omega), if_neg (show ¬ ((c : Int) < -(d : Int)) by omega)]
  by_cases h : (a : Int) = -(b : Int)
  · rw [if_pos h, if_pos (show (c : Int) = -(d : Int) by omega)]
  · rw [if_neg h, if_neg (show ¬ (c : Int) = -(d : Int) by omega)]
theorem cmp_mp {a b c d : Nat} (h1 : a = 0 ↔ c = 0) (h2 : b = 0 ↔ d = 0) : compare (-(a : Int)) (b : Int) = compare (-(c : Int)) (d : Int) := by
  rw [cmp_int, cmp_int]
  by_cases h : (-(a : Int)) < (b : Int)
  · rw [if_pos h, if_pos (show -(c : Int) < (d : Int) by omega)]
  · rw [if_neg h, if_neg (show ¬ -(c : Int) < (d : Int) by omega), if_pos (show -(a : Int) = (b : Int) by omega), if_pos (show -(c : Int) = (d : Int) by omega)]
theorem V_INF_pos : 0 < V INF := by rw [VP_INF]; exact Nat.mul_pos (pp _) (pp _)
theorem order_pm {r s : Nat} (hr : r ≤ INF) (hs : s ≤ INF) : D.order r (SGN + s) = some (compare (V r : Int) (-(V s : Int))) := by
  have hs2 : s < SGN := Nat.lt_of_le_of_lt hs (by decide)
  have hi := V_INF_pos
  have gt : ∀ a b : Nat, 0 < a ∨ 0 < b → compare (a : Int) (-(b : Int)) = .gt := fun a b h => by
    rw [cmp_int, if_neg (by omega), if_neg (by omega)]
  unfold Format.order
  rw [read_high hs2]
  by_cases a : r = INF
  · subst a
    rw [gt _ _ (Or.inl hi), read_inf]
    by_cases b : s = INF
    · subst b; rw [read_inf]; rfl
    · rw [read_fin (r := s) (by omega)]; rfl
  · rw [read_fin (r := r) (by omega)]
    by_cases b : s = INF
    · subst b; rw [gt _ _ (Or.inr hi), read_inf]; rfl
    · rw [read_fin (r := s) (by omega)]
      simp only [Datum.opposite, Datum.order, Bool.not_false, Ieee.signed, if_true, Bool.false_eq_true, if_false]
      congr 1
      exact cmp_pm (by rw [shl_zero, mag_zero_iff, V_zero_iff]) (by rw [shl_zero, mag_zero_iff, V_zero_iff])
theorem order_mp {r s : Nat} (hr : r ≤ INF) (hs : s ≤ INF) : D.order (SGN + r) s = some (compare (-(V r : Int)) (V s : Int)) := by
  have hs2 : r < SGN := Nat.lt_of_le_of_lt hr (by decide)
  have hi := V_INF_pos
  have lt : ∀ a b : Nat, 0 < a ∨ 0 < b → compare (-(a : Int)) (b : Int) = .lt := fun a b h => by
    rw [cmp_int, if_pos (by omega)]
  unfold Format.order
  rw [read_high hs2]
  by_cases a : r = INF
  · subst a
    rw [lt _ _ (Or.inl hi), read_inf]
    by_cases b : s = INF
    · subst b; rw [read_inf]; rfl
    · rw [read_fin (r := s) (by omega)]; rfl
  · rw [read_fin (r := r) (by omega)]
    by_cases b : s = INF
    · subst b; rw [lt _ _ (Or.inr hi), read_inf]; rfl
    · rw [read_fin (r := s) (by omega)]
      simp only [Datum.opposite, Datum.order, Bool.not_false, Ieee.signed, if_true, Bool.false_eq_true, if_false]
      congr 1
      exact cmp_mp (by rw [shl_zero, mag_zero_iff, V_zero_iff]) (by rw [shl_zero, mag_zero_iff, V_zero_iff])
theorem cmp_neg (a b : Int) : compare (-a) (-b) = compare b a := by
  rw [cmp_int, cmp_int]
  by_cases h : b < a
  · rw [if_pos h, if_pos (by omega)]
  · rw [if_neg h, if_neg (by omega)]
    by_cases e : b = a
    · rw [if_pos e, if_pos (by omega)]
    · rw [if_neg e, if_neg (by omega)]
theorem order_mm {r s : Nat} (hr : r ≤ INF) (hs : s ≤ INF) : D.order (SGN + r) (SGN + s) = some (compare (-(V r : Int)) (-(V s : Int))) := by
  have hr2 : r < SGN := Nat.lt_of_le_of_lt hr (by decide)
  have hs2 : s < SGN := Nat.lt_of_le_of_lt hs (by decide)
  have h := order_fin hs hr
  rw [cmp_V] at h
  rw [cmp_neg, ← h]
  unfold Format.order
  rw [read_high hs2, read_high hr2]
  by_cases a : r = INF
  · subst a
    rw [read_inf]
    by_cases b : s = INF
    · subst b; rw [read_inf]; rfl
    · rw [read_fin (r := s) (by omega)]; rfl
  · rw [read_fin (r := r) (by omega)]
    by_cases b : s = INF
    · subst b; rw [read_inf]; rfl
    · rw [read_fin (r := s) (by omega)]
      simp only [Datum.opposite, Datum.order, Bool.not_false, Ieee.signed, if_true, Bool.false_eq_true, if_false]
      rw [cmp_neg, Int.min_comm]
theorem isN_false {x : Nat} (h : isN x = false) : x % SGN ≤ INF := by
  unfold isN at h
  have := of_decide_eq_false h
  omega
theorem hi_split {x : Nat} (hx : x < W64) (m : x % SGN ≤ INF) (a : SGN ≤ x) : ∃ r, x = SGN + r ∧ r ≤ INF := ⟨x - SGN, by omega, by unfold W64 SGN at *; omega⟩
theorem lo_split {x : Nat} (m : x % SGN ≤ INF) (a : ¬ SGN ≤ x) : x ≤ INF := by unfold SGN at *; omega
theorem sv_hi (r : Nat) : sv (SGN + r) = -(V r : Int) := by
  unfold sv ng
  rw [decide_eq_true (Nat.le_add_right _ _), if_pos rfl, Nat.add_sub_cancel_left]
theorem sv_lo {x : Nat} (a : ¬ SGN ≤ x) : sv x = (V x : Int) := by
  unfold sv ng
  rw [decide_eq_false a, if_neg Bool.false_ne_true]
theorem order_sv {x y : Nat} (hx : x < W64) (hy : y < W64) (nx : isN x = false) (ny : isN y = false) : D.order x y = some (compare (sv x) (sv y)) := by
  have mx := isN_false nx
  have my := isN_false ny
  by_cases a : SGN ≤ x
  · obtain ⟨r, rfl, hr⟩ := hi_split hx mx a
    by_cases b : SGN ≤ y
    · obtain ⟨s, rfl, hs⟩ := hi_split hy my b
      rw [sv_hi, sv_hi]; exact order_mm hr hs
    · rw [sv_hi, sv_lo b]; exact order_mp hr (lo_split my b)
  · by_cases b : SGN ≤ y
    · obtain ⟨s, rfl, hs⟩ := hi_split hy my b
      rw [sv_hi, sv_lo a]; exact order_pm (lo_split mx a) hs
    · rw [sv_lo a, sv_lo b, order_fin (lo_split mx a) (lo_split my b), cmp_V]
theorem order_nan {x y : Nat} (h : isN x = true ∨ isN y = true) : D.order x y = none := by
  rcases h with h | h
  · exact order_nan_left (read_nan (of_decide_eq_true h))
  · exact order_nan_right (read_nan (of_decide_eq_true h))
/-- 'x != x' as the model says it. -/
theorem order_self {x : Nat} (hx : x < W64) : (D.order x x == some .eq) = !isN x := by
  cases h : isN x
  · rw [order_sv hx hx h h, cmp_int, if_neg (by omega), if_pos rfl]; rfl
  · rw [order_nan (Or.inl h)]; rfl
theorem can_bitsF {x : Nat} (hx : x < W64) : bitsF x = can x := by
  unfold bitsF can
  rw [order_self hx]
  cases isN x <;> rfl
theorem can_lt {x : Nat} (hx : x < W64) : can x < W64 := by
  unfold can; split
  · decide
  · exact hx
theorem can_can {x : Nat} : can (can x) = can x := by
  cases h : isN x
  · have e : can x = x := by unfold can; rw [h, if_neg Bool.false_ne_true]
    rw [e, e]
  · have e : can x = NAN := by unfold can; rw [h, if_pos rfl]
    rw [e]; decide

/-- A number's place among all. -/
def pl (b : Nat) : Nat := if isN b then 0 else if ng b then 18446744073709551615 - b else b + SGN
def less (a b : Nat) : Bool := decide (pl a < pl b)
def same (a b : Nat) : Bool := decide (can a = can b)
theorem pl_inj {a b : Nat} (ha : a < W64) (hb : b < W64) : pl a = pl b ↔ can a = can b := by
  unfold pl can isN ng
  unfold W64 at ha hb
  by_cases na : INF < a % SGN
  · rw [decide_eq_true na, if_pos rfl, if_pos rfl]
    by_cases nb : INF < b % SGN
    · rw [decide_eq_true nb, if_pos rfl, if_pos rfl]; simp
    · rw [decide_eq_false nb, if_neg Bool.false_ne_true, if_neg Bool.false_ne_true]
      constructor
      · intro h
        by_cases g : SGN ≤ b
        · rw [decide_eq_true g, if_pos rfl] at h; unfold INF SGN at *; omega
        · rw [decide_eq_false g, if_neg Bool.false_ne_true] at h; unfold SGN at *; omega
      · intro h; subst h; exact absurd (by decide) nb
  · rw [decide_eq_false na, if_neg Bool.false_ne_true, if_neg Bool.false_ne_true]
    by_cases nb : INF < b % SGN
    · rw [decide_eq_true nb, if_pos rfl, if_pos rfl]
      constructor
      · intro h
        by_cases g : SGN ≤ a
        · rw [decide_eq_true g, if_pos rfl] at h; unfold INF SGN at *; omega
        · rw [decide_eq_false g, if_neg Bool.false_ne_true] at h; unfold SGN at *; omega
      · intro h; subst h; exact absurd (by decide) na
    · rw [decide_eq_false nb, if_neg Bool.false_ne_true, if_neg Bool.false_ne_true]
      by_cases g : SGN ≤ a <;> by_cases g2 : SGN ≤ b
      · rw [decide_eq_true g, decide_eq_true g2, if_pos rfl, if_pos rfl]; omega
      · rw [decide_eq_true g, decide_eq_false g2, if_pos rfl, if_neg Bool.false_ne_true]; unfold INF SGN at *; omega
      · rw [decide_eq_false g, decide_eq_true g2, if_pos rfl, if_neg Bool.false_ne_true]; unfold INF SGN at *; omega
      · rw [decide_eq_false g, decide_eq_false g2, if_neg Bool.false_ne_true, if_neg Bool.false_ne_true]; omega
theorem sv_lt_pl {x y : Nat} (hx : x < W64) (hy : y < W64) (nx : isN x = false) (ny : isN y = false) (h : sv x < sv y) : pl x < pl y := by
  have mx := isN_false nx
  have my := isN_false ny
  unfold pl
  rw [nx, ny, if_neg Bool.false_ne_true, if_neg Bool.false_ne_true]
  unfold sv ng at *
  unfold W64 at hx hy
  by_cases a : SGN ≤ x <;> by_cases b : SGN ≤ y
  · rw [decide_eq_true a, decide_eq_true b, if_pos rfl, if_pos rfl] at *
    have := V_lt_iff.1 (show V (y - SGN) < V (x - SGN) by omega)
    omega
  · rw [decide_eq_true a, decide_eq_false b, if_pos rfl, if_neg Bool.false_ne_true]; unfold INF SGN at *; omega
  · rw [decide_eq_false a, decide_eq_true b, if_pos rfl, if_neg Bool.false_ne_true] at h
    omega
  · rw [decide_eq_false a, decide_eq_false b, if_neg Bool.false_ne_true, if_neg Bool.false_ne_true] at *
    have := V_lt_iff.1 (show V x < V y by omega)
    omega
theorem lt_less {x y : Nat} (hx : x < W64) (hy : y < W64) (h : (D.order x y == some .lt) = true) : less x y = true := by
  cases nx : isN x
  · cases ny : isN y
    · rw [order_sv hx hy nx ny, cmp_int] at h
      refine decide_eq_true (sv_lt_pl hx hy nx ny ?_)
      apply Int.not_le.1
      intro hle
      rw [if_neg (by omega)] at h
      split at h <;> cases h
    · rw [order_nan (Or.inr ny)] at h; cases h
  · rw [order_nan (Or.inl nx)] at h; cases h
theorem nan_less {x y : Nat} (hy : y < W64) (nx : isN x = true) (ny : isN y = false) : less x y = true := by
  have my := isN_false ny
  unfold W64 at hy
  refine decide_eq_true ?_
  unfold pl
  rw [nx, ny, if_pos rfl, if_neg Bool.false_ne_true]
  unfold ng
  by_cases b : SGN ≤ y
  · rw [decide_eq_true b, if_pos rfl]; unfold INF SGN at *; omega
  · rw [decide_eq_false b, if_neg Bool.false_ne_true]; unfold SGN at *; omega
theorem same_pl {x y : Nat} (hx : x < W64) (hy : y < W64) : same x y = decide (pl x = pl y) := by
  unfold same
  by_cases h : can x = can y
  · rw [decide_eq_true h, decide_eq_true ((pl_inj hx hy).2 h)]
  · rw [decide_eq_false h, decide_eq_false (fun e => h ((pl_inj hx hy).1 e))]
end Go.FX
