/- Plain facts on products of chances and sums of prices: they don't hang on the order; a product is not above, a sum not below its parts; 1 and 0 change nothing. Condition: the numbers are such. -/
import Derived.Test.YtlbakakfjcmldaaWd
namespace Go.Proofs.Ytlbakakfjcmldaa
open Go.RowKit Go.FT

theorem te_comm (x y : Nat) : te y x = te x y := by unfold te; rw [Bool.and_comm]
theorem tv_comm (x y : Nat) : tv y x = tv x y := by unfold tv; rw [Bool.and_comm, mulR_comm]
theorem pe_comm (x y : Nat) : pe y x = pe x y := by unfold pe; rw [Bool.and_comm]
theorem pv_comm (x y : Nat) : pv y x = pv x y := by unfold pv; rw [Bool.and_comm, addR_comm]

theorem ord_le {s a : Nat} (ha : okB a INF = true) (hs : s ≤ INF) (h : s ≤ clr a) : (FloatKind.f64.format.order s a == some .lt || FloatKind.f64.format.order s a == some .eq) = true := by
  have e : FloatKind.f64.format.order s a = some (compare s (clr a)) := order_clr_right ha hs
  rw [e, cmp_nat]
  by_cases l : s < clr a
  · rw [if_pos l]; rfl
  · rw [if_neg l, if_pos (by omega)]; rfl
theorem ord_ge {s a : Nat} (ha : okB a INF = true) (hs : s ≤ INF) (h : clr a ≤ s) : (FloatKind.f64.format.order s a == some .gt || FloatKind.f64.format.order s a == some .eq) = true := by
  have e : FloatKind.f64.format.order s a = some (compare s (clr a)) := order_clr_right ha hs
  rw [e, cmp_nat]
  by_cases l : s = clr a
  · rw [if_neg (by omega), if_pos l]; rfl
  · rw [if_neg (by omega), if_neg l]; rfl
theorem ord_eq {a : Nat} (ha : okB a INF = true) : (FloatKind.f64.format.order (clr a) a != some .eq) = false := by
  have e : FloatKind.f64.format.order (clr a) a = some (compare (clr a) (clr a)) := order_clr_right ha (clr_le ha)
  rw [e, cmp_nat, if_neg (by omega), if_pos rfl]; rfl
theorem ok_zero (m : Nat) : okB 0 m = true := decide_eq_true (by omega)
theorem clr_zero : clr 0 = 0 := by decide
theorem clr_one : clr ONE = ONE := by decide
theorem ok_one_one : okB ONE ONE = true := by decide
theorem one_le_inf : ONE ≤ INF := by decide

/-- What holds where both are chances. -/
theorem sink_t {x y : Nat} (hx : okB x ONE = true) (hy : okB y ONE = true) :
    te x y = 0 ∧ te y x = 0 ∧ te x ONE = 0 ∧ tv x ONE = clr x ∧
    (FloatKind.f64.format.order (tv x y) x == some .lt || FloatKind.f64.format.order (tv x y) x == some .eq) = true ∧
    (FloatKind.f64.format.order (tv x y) y == some .lt || FloatKind.f64.format.order (tv x y) y == some .eq) = true ∧
    (FloatKind.f64.format.order (tv x y) 0 == some .gt || FloatKind.f64.format.order (tv x y) 0 == some .eq) = true ∧
    (FloatKind.f64.format.order (clr x) x != some .eq) = false := by
  have hx' := okB_mono hx one_le_inf
  have hy' := okB_mono hy one_le_inf
  have l1 := clr_le hx
  have l2 := clr_le hy
  have i1 : clr x < INF := Nat.lt_of_le_of_lt l1 one_lt_inf
  have i2 : clr y < INF := Nat.lt_of_le_of_lt l2 one_lt_inf
  have a1 : tv x y ≤ clr x := by rw [(tv_yes hx hy).1]; exact mulR_le i1 l2
  have a2 : tv x y ≤ clr y := by rw [(tv_yes hx hy).1, mulR_comm]; exact mulR_le i2 l1
  have a3 : tv x y ≤ INF := by omega
  refine ⟨(tv_yes hx hy).2, (tv_yes hy hx).2, (tv_yes hx ok_one_one).2, ?_, ord_le hx' a3 a1, ord_le hy' a3 a2, ord_ge (ok_zero _) a3 (by rw [clr_zero]; omega), ord_eq hx'⟩
  rw [(tv_yes hx ok_one_one).1, clr_one]
  exact mulR_one i1

theorem sink_p {x y : Nat} (hx : okB x INF = true) (hy : okB y INF = true) :
    pe x y = 0 ∧ pe y x = 0 ∧ pe x 0 = 0 ∧ pv x 0 = clr x ∧
    (FloatKind.f64.format.order (pv x y) x == some .gt || FloatKind.f64.format.order (pv x y) x == some .eq) = true ∧
    (FloatKind.f64.format.order (pv x y) y == some .gt || FloatKind.f64.format.order (pv x y) y == some .eq) = true ∧
    (FloatKind.f64.format.order (clr x) x != some .eq) = false := by
  have l1 := clr_le hx
  have l2 := clr_le hy
  have a1 : clr x ≤ pv x y := by rw [(pv_yes hx hy).1]; exact addR_ge l1
  have a2 : clr y ≤ pv x y := by rw [(pv_yes hx hy).1, addR_comm]; exact addR_ge l2
  have a3 : pv x y ≤ INF := pv_le
  refine ⟨(pv_yes hx hy).2, (pv_yes hy hx).2, (pv_yes hx (ok_zero _)).2, ?_, ord_ge hx a3 a1, ord_ge hy a3 a2, ord_eq hx⟩
  rw [(pv_yes hx (ok_zero _)).1, clr_zero]
  exact addR_zero l1

theorem te_or (x y : Nat) : (okB x ONE = true ∧ okB y ONE = true) ∨ (te x y = 16 ∧ te y x = 16) := by
  cases hx : okB x ONE
  · exact .inr ⟨(tv_no (.inl hx)).2, (tv_no (.inr hx)).2⟩
  · cases hy : okB y ONE
    · exact .inr ⟨(tv_no (.inr hy)).2, (tv_no (.inl hy)).2⟩
    · exact .inl ⟨rfl, rfl⟩
theorem pe_or (x y : Nat) : (okB x INF = true ∧ okB y INF = true) ∨ (pe x y = 16 ∧ pe y x = 16) := by
  cases hx : okB x INF
  · exact .inr ⟨(pv_no (.inl hx)).2, (pv_no (.inr hx)).2⟩
  · cases hy : okB y INF
    · exact .inr ⟨(pv_no (.inr hy)).2, (pv_no (.inl hy)).2⟩
    · exact .inl ⟨rfl, rfl⟩
end Go.Proofs.Ytlbakakfjcmldaa
