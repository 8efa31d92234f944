/- Dividing digits by a piece. No condition. -/
import Derived.Test.YtdkmmnehlmaebaaDoorNNU
namespace Go.NT
abbrev piece : Int := 1000000000
/-- j digits are still to be divided. -/
structure PartInv (X : List Int) (j : Nat) (L : List Int) (r : Int) : Prop where
  r0 : 0 ≤ r
  r1 : r < piece
  u : U32 L
  len : L.length = X.length
  tk : L.take j = X.take j
  eq : val (L.drop j) * piece + r = val (X.drop j)
theorem PartInv.start {X : List Int} (h : U32 X) : PartInv X X.length X 0 := ⟨by omega, by decide, h, rfl, rfl, by simp [val]⟩
theorem PartInv.get {X L : List Int} {j : Nat} {r : Int} (h : PartInv X (j + 1) L r) : L.getD j 0 = X.getD j 0 := by
  have e : (L.take (j + 1)).getD j 0 = (X.take (j + 1)).getD j 0 := by rw [h.tk]
  simpa [List.getD_eq_getElem?_getD, List.getElem?_take] using e
theorem PartInv.step {X L : List Int} {j : Nat} {r : Int} (h : PartInv X (j + 1) L r) (hj : j < X.length) :
    PartInv X j (L.set j (((r * W + L.getD j 0) / piece) % W)) ((r * W + L.getD j 0) % piece) := by
  have hg := h.get
  have hb := h.u.getD j
  have h0 := h.r0
  have h1 := h.r1
  have hjl : j < L.length := by rw [h.len]; exact hj
  have hq : ((r * W + L.getD j 0) / piece) % W = (r * W + L.getD j 0) / piece := by unfold W piece at *; omega
  refine ⟨by unfold piece; omega, by unfold piece; omega, h.u.set _ _, by simpa using h.len, ?_, ?_⟩
  · rw [List.take_set_of_le (Nat.le_refl j)]
    have := congrArg (List.take j) h.tk
    rwa [List.take_take, List.take_take, Nat.min_eq_left (by omega)] at this
  · rw [hq]
    have hd : (L.set j ((r * W + L.getD j 0) / piece)).drop j = ((r * W + L.getD j 0) / piece) :: L.drop (j + 1) := by
      rw [drop_cons _ j (by simpa using hjl), List.drop_set_of_lt (by omega)]
      congr 1
      rw [List.getD_eq_getElem?_getD, List.getElem?_set_self (by omega)]; rfl
    rw [hd, drop_cons X j hj, val, val, ← h.eq, ← hg]
    have e := Int.emod_add_mul_ediv (r * W + L.getD j 0) piece
    generalize (r * W + L.getD j 0) / piece = q at *
    generalize (r * W + L.getD j 0) % piece = t at *
    generalize val (L.drop (j + 1)) = v at *
    generalize L.getD j 0 = x at *
    unfold W piece at *
    omega
theorem PartInv.done {X L : List Int} {r : Int} (h : PartInv X 0 L r) : val (strip L) * piece + r = val X := by
  have := h.eq
  simpa [val_strip] using this
end Go.NT
