/- Sums and products of digits, carried. No condition. -/
import Derived.Test.YtdkmmnehlmaebaaDoorNNT
namespace Go.NT

-- how sums and products are carried
theorem carry_id (P s : Int) : P * (s % W) + P * W * (s / W) = P * s := by
  have h := Int.emod_add_mul_ediv s W
  calc P * (s % W) + P * W * (s / W) = P * (s % W + W * (s / W)) := by rw [Int.mul_add, Int.mul_assoc]
    _ = P * s := by rw [h]
theorem carry_step (L : List Int) (j : Nat) (s : Int) (h : j < L.length) :
    val (L.set j (s % W)) + W ^ (j + 1) * (s / W) = val L + W ^ j * (s - L.getD j 0) := by
  rw [val_set L j _ h, Int.pow_succ]
  have h2 := carry_id (W ^ j) s
  rw [Int.mul_sub, Int.sub_mul, Int.mul_comm (s % W), Int.mul_comm (L.getD j 0)]
  omega
theorem U32.set {L : List Int} (h : U32 L) (j : Nat) (s : Int) : U32 (L.set j (s % W)) := by
  intro y hy
  rcases List.mem_or_eq_of_mem_set hy with hy | rfl
  · exact h y hy
  · unfold W; omega
theorem getD_out {Y : List Int} {k : Nat} (h : Y.length ≤ k) : Y.getD k 0 = 0 := by
  rw [List.getD_eq_getElem?_getD, List.getElem?_eq_none h]; rfl
theorem val_take_next (Y : List Int) (k : Nat) : val (Y.take (k + 1)) = val (Y.take k) + W ^ k * Y.getD k 0 := by
  by_cases h : k < Y.length
  · exact val_take_succ Y k h
  · rw [List.take_of_length_le (by omega), List.take_of_length_le (by omega), getD_out (by omega)]; simp

structure AddInv (X Y : List Int) (k : Nat) (L : List Int) (c : Int) : Prop where
  c0 : 0 ≤ c
  c1 : c ≤ 1
  u : U32 L
  len : L.length = X.length
  eq : val L + W ^ k * c = val X + val (Y.take k)
theorem AddInv.start {X Y : List Int} (h : U32 X) : AddInv X Y 0 X 0 := ⟨by omega, by omega, h, rfl, by simp [val]⟩
theorem AddInv.step {X Y L : List Int} {k : Nat} {c : Int} (hY : U32 Y) (h : AddInv X Y k L c) (hk : k < X.length) :
    AddInv X Y (k + 1) (L.set k ((c + L.getD k 0 + Y.getD k 0) % W)) ((c + L.getD k 0 + Y.getD k 0) / W) := by
  have h1 := h.u.getD k
  have h2 := hY.getD k
  have h3 := h.c0
  have h4 := h.c1
  refine ⟨?_, ?_, h.u.set _ _, by simpa using h.len, ?_⟩
  · unfold W at *; omega
  · unfold W at *; omega
  · rw [carry_step L k _ (by rw [h.len]; exact hk), val_take_next]
    have e := h.eq
    have e2 : W ^ k * (c + L.getD k 0 + Y.getD k 0 - L.getD k 0) = W ^ k * c + W ^ k * Y.getD k 0 := by
      rw [show c + L.getD k 0 + Y.getD k 0 - L.getD k 0 = c + Y.getD k 0 by omega, Int.mul_add]
    rw [e2]; omega
theorem AddInv.done {X Y L : List Int} {c : Int} (h : AddInv X Y X.length L c) (hl : Y.length ≤ X.length) :
    val (strip (L ++ [c % W])) = val X + val Y ∧ U32 (L ++ [c % W]) := by
  have h3 := h.c0
  have h4 := h.c1
  have hc : c % W = c := by unfold W; omega
  rw [hc]
  refine ⟨?_, h.u.append (by intro y hy; rw [List.mem_singleton.1 hy]; unfold W; omega)⟩
  rw [val_strip, val_append, h.len]
  have e := h.eq
  rw [List.take_of_length_le hl] at e
  rw [← e]; simp [val]

structure MulIn (L0 Y : List Int) (d : Int) (i k : Nat) (L : List Int) (c : Int) : Prop where
  c0 : 0 ≤ c
  c1 : c < W
  u : U32 L
  len : L.length = L0.length
  z : ∀ j, i + Y.length ≤ j → L.getD j 0 = 0
  eq : val L + W ^ (i + k) * c = val L0 + W ^ i * d * val (Y.take k)
theorem getD_set_ne (L : List Int) {j k : Nat} (x : Int) (h : j ≠ k) : (L.set j x).getD k 0 = L.getD k 0 := by
  rw [List.getD_eq_getElem?_getD, List.getD_eq_getElem?_getD, List.getElem?_set_ne h]
theorem MulIn.bound {L0 Y L : List Int} {d c : Int} {i k : Nat} (hY : U32 Y) (h : MulIn L0 Y d i k L c) (d0 : 0 ≤ d) (d1 : d < W) :
    0 ≤ d * Y.getD k 0 ∧ d * Y.getD k 0 ≤ (W - 1) * (W - 1) ∧ 0 ≤ L.getD (i + k) 0 ∧ L.getD (i + k) 0 < W := by
  have h1 := h.u.getD (i + k)
  have h2 := hY.getD k
  exact ⟨Int.mul_nonneg d0 h2.1, Int.mul_le_mul (by omega) (by omega) h2.1 (by unfold W; omega), h1.1, h1.2⟩
theorem MulIn.step {L0 Y L : List Int} {d c : Int} {i k : Nat} (hY : U32 Y) (h : MulIn L0 Y d i k L c) (d0 : 0 ≤ d) (d1 : d < W) (hk : k < Y.length) (hi : i + k < L0.length) :
    MulIn L0 Y d i (k + 1) (L.set (i + k) ((c + (d * Y.getD k 0 + L.getD (i + k) 0)) % W)) ((c + (d * Y.getD k 0 + L.getD (i + k) 0)) / W) := by
  obtain ⟨b1, b2, b3, b4⟩ := h.bound hY d0 d1
  have h3 := h.c0
  have h4 := h.c1
  have e2 : W ^ (i + k) * (c + (d * Y.getD k 0 + L.getD (i + k) 0) - L.getD (i + k) 0) = W ^ (i + k) * c + W ^ i * d * (W ^ k * Y.getD k 0) := by
    rw [show c + (d * Y.getD k 0 + L.getD (i + k) 0) - L.getD (i + k) 0 = c + d * Y.getD k 0 by omega, Int.mul_add, Int.pow_add]
    congr 1
    rw [Int.mul_assoc, Int.mul_assoc, Int.mul_left_comm (W ^ k)]
  generalize d * Y.getD k 0 = p at *
  refine ⟨?_, ?_, h.u.set _ _, by simpa using h.len, ?_, ?_⟩
  · unfold W at *; omega
  · unfold W at *; omega
  · intro j hj; rw [getD_set_ne L _ (by omega)]; exact h.z j hj
  · rw [show i + (k + 1) = i + k + 1 by omega, carry_step L (i + k) _ (by rw [h.len]; exact hi), val_take_next, e2, Int.mul_add]
    have e := h.eq
    omega

structure MulOut (X Y : List Int) (i : Nat) (L : List Int) : Prop where
  u : U32 L
  len : L.length = X.length + Y.length
  z : ∀ j, i + Y.length ≤ j → L.getD j 0 = 0
  eq : val L = val (X.take i) * val Y
theorem MulOut.enter {X Y L : List Int} {i : Nat} {d : Int} (h : MulOut X Y i L) : MulIn L Y d i 0 L 0 :=
  ⟨by omega, by decide, h.u, rfl, h.z, by simp [val]⟩
theorem MulOut.step {X Y L L' : List Int} {i : Nat} {c : Int} (h : MulOut X Y i L) (hi : i < X.length) (h' : MulIn L Y (X.getD i 0) i Y.length L' c) :
    MulOut X Y (i + 1) (L'.set (i + Y.length) (c % W)) := by
  have h3 := h'.c0
  have h4 := h'.c1
  have hc : c % W = c := by unfold W at *; omega
  have hz := h'.z (i + Y.length) (by omega)
  have hl : i + Y.length < L'.length := by rw [h'.len, h.len]; omega
  refine ⟨h'.u.set _ _, by simp [h'.len, h.len], fun j hj => ?_, ?_⟩
  · rw [getD_set_ne L' _ (by omega)]; exact h'.z j (by omega)
  · rw [hc, val_set L' _ _ hl, hz, val_take_next]
    have e := h'.eq
    rw [List.take_of_length_le (Nat.le_refl _), h.eq] at e
    rw [Int.add_mul]
    rw [Int.sub_zero, Int.mul_comm c]
    omega
theorem MulOut.done {X Y L : List Int} (h : MulOut X Y X.length L) : val (strip L) = val X * val Y := by
  rw [val_strip, h.eq, List.take_of_length_le (Nat.le_refl _)]
theorem U32.zeros (n : Nat) : U32 (List.replicate n 0) := by
  intro y hy; rw [(List.mem_replicate.1 hy).2]; unfold W; omega
theorem val_zeros : ∀ n : Nat, val (List.replicate n 0) = 0
  | 0 => rfl
  | n + 1 => by rw [List.replicate_succ, val, val_zeros n]; simp
theorem MulOut.start (X Y : List Int) : MulOut X Y 0 (List.replicate (X.length + Y.length) 0) := by
  refine ⟨U32.zeros _, by simp, fun j hj => ?_, by simp [val_zeros, val]⟩
  rw [List.getD_eq_getElem?_getD, List.getElem?_replicate]; split <;> rfl
end Go.NT
