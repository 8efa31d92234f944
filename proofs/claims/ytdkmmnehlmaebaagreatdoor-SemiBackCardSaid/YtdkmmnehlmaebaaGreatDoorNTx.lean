import Derived.Lib.ItoaNum
import Derived.Lib.Repeat
import Derived.Lib.Join

/- Plain facts on numbers written in digits of 32 bits, the least first: what they are worth, and that digits without noughts at the end tell the worth. No condition. -/
namespace Go.NT
abbrev W : Int := 4294967296
def U32 (l : List Int) : Prop := ∀ x ∈ l, 0 ≤ x ∧ x < W
def val : List Int → Int
  | [] => 0
  | x :: t => x + W * val t
def strip : List Int → List Int
  | [] => []
  | x :: t => if strip t = [] ∧ x = 0 then [] else x :: strip t

theorem U32.tail {x : Int} {l : List Int} (h : U32 (x :: l)) : U32 l := fun y hy => h y (List.mem_cons_of_mem _ hy)
theorem U32.head {x : Int} {l : List Int} (h : U32 (x :: l)) : 0 ≤ x ∧ x < W := h x (List.mem_cons_self ..)
theorem U32.append {l m : List Int} (h : U32 l) (k : U32 m) : U32 (l ++ m) := fun x hx => (List.mem_append.1 hx).elim (h x) (k x)
theorem U32.nil : U32 [] := by intro x hx; cases hx
theorem U32.take {l : List Int} (h : U32 l) (k : Nat) : U32 (l.take k) := fun x hx => h x (List.mem_of_mem_take hx)
theorem U32.drop {l : List Int} (h : U32 l) (k : Nat) : U32 (l.drop k) := fun x hx => h x (List.mem_of_mem_drop hx)
theorem U32.getD {l : List Int} (h : U32 l) (k : Nat) : 0 ≤ l.getD k 0 ∧ l.getD k 0 < W := by
  rw [List.getD_eq_getElem?_getD]
  by_cases hk : k < l.length
  · rw [List.getElem?_eq_getElem hk]; exact h _ (List.getElem_mem hk)
  · rw [List.getElem?_eq_none (by omega)]; exact ⟨by simp, by decide⟩
theorem val_nonneg : ∀ {l : List Int}, U32 l → 0 ≤ val l
  | [], _ => by simp [val]
  | x :: t, h => by
    have := val_nonneg h.tail
    have := h.head
    simp only [val]; unfold W at *; omega
theorem Wpow_pos (n : Nat) : (0 : Int) < W ^ n := Int.pow_pos (by decide)
theorem val_lt : ∀ {l : List Int}, U32 l → val l < W ^ l.length
  | [], _ => by simp [val]
  | x :: t, h => by
    have h1 := val_lt h.tail
    have h2 := h.head
    rw [List.length_cons, Int.pow_succ, Int.mul_comm]
    simp only [val]
    have h3 : W * (val t + 1) ≤ W * W ^ t.length := Int.mul_le_mul_of_nonneg_left (by omega) (by decide)
    rw [Int.mul_add] at h3
    omega
theorem val_append : ∀ (l m : List Int), val (l ++ m) = val l + W ^ l.length * val m
  | [], m => by simp [val]
  | x :: t, m => by
    rw [List.cons_append]
    simp only [val]
    rw [val_append t m, List.length_cons, Int.pow_succ, Int.mul_add, ← Int.mul_assoc, Int.mul_comm W (W ^ t.length)]
    omega
theorem val_take_drop (l : List Int) (k : Nat) (h : k ≤ l.length) : val l = val (l.take k) + W ^ k * val (l.drop k) := by
  have := val_append (l.take k) (l.drop k)
  rwa [List.take_append_drop, List.length_take, Nat.min_eq_left h] at this
theorem drop_cons (l : List Int) (k : Nat) (h : k < l.length) : l.drop k = l.getD k 0 :: l.drop (k + 1) := by
  rw [List.drop_eq_getElem_cons h, List.getD_eq_getElem?_getD, List.getElem?_eq_getElem h, Option.getD_some]
theorem take_snoc (l : List Int) (k : Nat) (h : k < l.length) : l.take (k + 1) = l.take k ++ [l.getD k 0] := by
  rw [List.take_succ_eq_append_getElem h, List.getD_eq_getElem?_getD, List.getElem?_eq_getElem h, Option.getD_some]
theorem val_take_succ (l : List Int) (k : Nat) (h : k < l.length) : val (l.take (k + 1)) = val (l.take k) + W ^ k * l.getD k 0 := by
  rw [take_snoc l k h, val_append, List.length_take, Nat.min_eq_left (by omega)]
  simp [val]
theorem val_set : ∀ (l : List Int) (j : Nat) (d : Int), j < l.length → val (l.set j d) = val l + (d - l.getD j 0) * W ^ j
  | [], _, _, h => absurd h (by simp)
  | x :: t, 0, d, _ => by simp [val]; omega
  | x :: t, j + 1, d, h => by
    have hj : j < t.length := by simpa using h
    rw [List.set_cons_succ]
    simp only [val]
    rw [val_set t j d hj, Int.pow_succ, Int.mul_add]
    have : (x :: t).getD (j + 1) 0 = t.getD j 0 := by simp [List.getD_eq_getElem?_getD]
    rw [this]
    have e : W * ((d - t.getD j 0) * W ^ j) = (d - t.getD j 0) * (W ^ j * W) := by
      rw [← Int.mul_assoc, Int.mul_comm W (d - t.getD j 0), Int.mul_assoc, Int.mul_comm W]
    rw [e]; omega

theorem strip_cons_nil {x : Int} {t : List Int} (h : strip t = [] ∧ x = 0) : strip (x :: t) = [] := by rw [strip, if_pos h]
theorem strip_cons {x : Int} {t : List Int} (h : ¬ (strip t = [] ∧ x = 0)) : strip (x :: t) = x :: strip t := by rw [strip, if_neg h]
theorem val_strip : ∀ (l : List Int), val (strip l) = val l
  | [] => rfl
  | x :: t => by
    by_cases h : strip t = [] ∧ x = 0
    · rw [strip_cons_nil h]
      have := val_strip t
      rw [h.1] at this
      simp only [val] at this ⊢
      rw [← this, h.2]; simp
    · rw [strip_cons h]; simp only [val]; rw [val_strip t]
theorem strip_take : ∀ (l : List Int), strip l = l.take (strip l).length ∧ (strip l).length ≤ l.length
  | [] => ⟨rfl, Nat.le_refl _⟩
  | x :: t => by
    obtain ⟨a, b⟩ := strip_take t
    by_cases h : strip t = [] ∧ x = 0
    · rw [strip_cons_nil h]; simp
    · rw [strip_cons h]
      refine ⟨?_, by simp; omega⟩
      rw [List.length_cons, List.take_succ_cons, ← a]
theorem strip_strip : ∀ (l : List Int), strip (strip l) = strip l
  | [] => rfl
  | x :: t => by
    have a := strip_strip t
    by_cases h : strip t = [] ∧ x = 0
    · rw [strip_cons_nil h]; rfl
    · rw [strip_cons h, strip_cons (by rw [a]; exact h), a]
theorem U32.strip {l : List Int} (h : U32 l) : U32 (strip l) := by rw [(strip_take l).1]; exact h.take _
theorem strip_snoc_zero : ∀ (l : List Int), strip (l ++ [0]) = strip l
  | [] => by simp [strip]
  | x :: t => by rw [List.cons_append, strip, strip_snoc_zero t]; rfl
theorem strip_snoc : ∀ (l : List Int) {x : Int}, x ≠ 0 → strip (l ++ [x]) = l ++ [x]
  | [], x, h => by rw [List.nil_append, strip_cons (fun a => h a.2)]; rfl
  | y :: t, x, h => by
    rw [List.cons_append, strip_cons (fun a => by rw [strip_snoc t h] at a; simp at a), strip_snoc t h]
/-- Digits without noughts at the end. -/
def Norm (l : List Int) : Prop := strip l = l
theorem Norm.strip (l : List Int) : Norm (strip l) := strip_strip l
theorem Norm.nil : Norm [] := rfl
theorem Norm.tail {x : Int} {t : List Int} (h : Norm (x :: t)) : Norm t := by
  unfold Norm at h ⊢
  by_cases e : NT.strip t = [] ∧ x = 0
  · rw [strip_cons_nil e] at h; cases h
  · rw [strip_cons e] at h; exact (List.cons.inj h).2
theorem Norm.pos : ∀ {l : List Int}, Norm l → U32 l → l ≠ [] → W ^ (l.length - 1) ≤ val l
  | [], _, _, h => absurd rfl h
  | [x], h, hu, _ => by
    have hx : x ≠ 0 := by
      rintro rfl
      have : NT.strip [0] = [] := by simp [NT.strip]
      unfold Norm at h; rw [this] at h; cases h
    have := hu.head
    simp [val]; omega
  | x :: y :: t, h, hu, _ => by
    have := Norm.pos h.tail hu.tail (by simp)
    have h1 := hu.head
    simp only [List.length_cons, Nat.add_sub_cancel] at this ⊢
    rw [Int.pow_succ, Int.mul_comm]
    have h3 : W * W ^ t.length ≤ W * val (y :: t) := Int.mul_le_mul_of_nonneg_left this (by decide)
    show W * W ^ t.length ≤ x + W * val (y :: t)
    omega
theorem pow_mono {a b : Nat} (h : a ≤ b) : W ^ a ≤ W ^ b := by
  obtain ⟨k, rfl⟩ := Nat.le.dest h
  rw [Int.pow_add]
  have h1 := Wpow_pos a
  have h2 := Wpow_pos k
  have := Int.mul_le_mul_of_nonneg_left (show (1 : Int) ≤ W ^ k by omega) (Int.le_of_lt h1)
  rwa [Int.mul_one] at this
theorem val_lt_of_length {l m : List Int} (hl : U32 l) (hm : U32 m) (hn : Norm m) (h : l.length < m.length) : val l < val m := by
  have h1 := val_lt hl
  have h2 := Norm.pos hn hm (by intro e; subst e; simp at h)
  have h3 : W ^ l.length ≤ W ^ (m.length - 1) := pow_mono (by omega)
  omega
theorem inj : ∀ {l m : List Int}, U32 l → U32 m → Norm l → Norm m → val l = val m → l = m := by
  intro l
  induction l with
  | nil =>
    intro m _ hm _ hn h
    by_cases e : m = []
    · exact e.symm
    · have := Norm.pos hn hm e
      have h2 := Wpow_pos (m.length - 1)
      simp only [val] at h
      omega
  | cons x t ih =>
    intro m hl hm hln hn h
    cases m with
    | nil =>
      have := Norm.pos hln hl (by simp)
      have h2 := Wpow_pos ((x :: t).length - 1)
      simp only [val] at h this
      omega
    | cons y s =>
      have hx := hl.head
      have hy := hm.head
      simp only [val] at h
      have hxy : x = y := by unfold W at *; omega
      have hv : val t = val s := by unfold W at *; omega
      rw [hxy, ih hl.tail hm.tail hln.tail hn.tail hv]
theorem strip_eq_of_val {l m : List Int} (hl : U32 l) (hm : U32 m) (h : val l = val m) : strip l = strip m :=
  inj hl.strip hm.strip (Norm.strip l) (Norm.strip m) (by rw [val_strip, val_strip, h])
theorem val_zero_iff {l : List Int} (hl : U32 l) : val l = 0 ↔ strip l = [] := by
  constructor
  · intro h; exact strip_eq_of_val (m := []) hl U32.nil h
  · intro h; rw [← val_strip, h]; rfl
/-- The first digit from above that differs decides. -/
theorem val_lt_of_digit {l m : List Int} (hl : U32 l) (hm : U32 m) {i : Nat} (h1 : i < l.length) (h2 : i < m.length) (hd : l.drop (i + 1) = m.drop (i + 1)) (h : l.getD i 0 < m.getD i 0) : val l < val m := by
  have e1 := val_take_drop l i (by omega)
  have e2 := val_take_drop m i (by omega)
  rw [drop_cons l i h1] at e1
  rw [drop_cons m i h2] at e2
  have v1 := val_lt (hl.take i)
  have v2 := val_nonneg (hm.take i)
  rw [List.length_take, Nat.min_eq_left (by omega)] at v1
  simp only [val] at e1 e2
  rw [hd] at e1
  generalize val (m.drop (i + 1)) = T at *
  have hp := Wpow_pos i
  have h3 : W ^ i * (l.getD i 0 + W * T + 1) ≤ W ^ i * (m.getD i 0 + W * T) := Int.mul_le_mul_of_nonneg_left (by omega) (by omega)
  rw [Int.mul_add] at h3
  omega
end Go.NT


/- Sums and products of digits, carried. No condition. -/
namespace Go.NT

-- how sums and products are carried
theorem carry_id (P s : Int) : P * (s % W) + P * W * (s / W) = P * s := by
  have h := Int.emod_add_mul_ediv s W
  calc P * (s % W) + P * W * (s / W) = P * (s % W + W * (s / W)) := by rw [Int.mul_add, Int.mul_assoc]
    _ = P * s := by rw [h]
theorem carry_step (L : List Int) (j : Nat) (s : Int) (h : j < L.length) :
    val (L.set j (s % W)) + W ^ (j + 1) * (s / W) = val L + W ^ j * (s - L.getD j 0) := by
  rw [val_set L j _ h, Int.pow_succ]
  have h2 := carry_id (W ^ j) s
  rw [Int.mul_sub, Int.sub_mul, Int.mul_comm (s % W), Int.mul_comm (L.getD j 0)]
  omega
theorem U32.set {L : List Int} (h : U32 L) (j : Nat) (s : Int) : U32 (L.set j (s % W)) := by
  intro y hy
  rcases List.mem_or_eq_of_mem_set hy with hy | rfl
  · exact h y hy
  · unfold W; omega
theorem getD_out {Y : List Int} {k : Nat} (h : Y.length ≤ k) : Y.getD k 0 = 0 := by
  rw [List.getD_eq_getElem?_getD, List.getElem?_eq_none h]; rfl
theorem val_take_next (Y : List Int) (k : Nat) : val (Y.take (k + 1)) = val (Y.take k) + W ^ k * Y.getD k 0 := by
  by_cases h : k < Y.length
  · exact val_take_succ Y k h
  · rw [List.take_of_length_le (by omega), List.take_of_length_le (by omega), getD_out (by omega)]; simp

structure AddInv (X Y : List Int) (k : Nat) (L : List Int) (c : Int) : Prop where
  c0 : 0 ≤ c
  c1 : c ≤ 1
  u : U32 L
  len : L.length = X.length
  eq : val L + W ^ k * c = val X + val (Y.take k)
theorem AddInv.start {X Y : List Int} (h : U32 X) : AddInv X Y 0 X 0 := ⟨by omega, by omega, h, rfl, by simp [val]⟩
theorem AddInv.step {X Y L : List Int} {k : Nat} {c : Int} (hY : U32 Y) (h : AddInv X Y k L c) (hk : k < X.length) :
    AddInv X Y (k + 1) (L.set k ((c + L.getD k 0 + Y.getD k 0) % W)) ((c + L.getD k 0 + Y.getD k 0) / W) := by
  have h1 := h.u.getD k
  have h2 := hY.getD k
  have h3 := h.c0
  have h4 := h.c1
  refine ⟨?_, ?_, h.u.set _ _, by simpa using h.len, ?_⟩
  · unfold W at *; omega
  · unfold W at *; omega
  · rw [carry_step L k _ (by rw [h.len]; exact hk), val_take_next]
    have e := h.eq
    have e2 : W ^ k * (c + L.getD k 0 + Y.getD k 0 - L.getD k 0) = W ^ k * c + W ^ k * Y.getD k 0 := by
      rw [show c + L.getD k 0 + Y.getD k 0 - L.getD k 0 = c + Y.getD k 0 by omega, Int.mul_add]
    rw [e2]; omega
theorem AddInv.done {X Y L : List Int} {c : Int} (h : AddInv X Y X.length L c) (hl : Y.length ≤ X.length) :
    val (strip (L ++ [c % W])) = val X + val Y ∧ U32 (L ++ [c % W]) := by
  have h3 := h.c0
  have h4 := h.c1
  have hc : c % W = c := by unfold W; omega
  rw [hc]
  refine ⟨?_, h.u.append (by intro y hy; rw [List.mem_singleton.1 hy]; unfold W; omega)⟩
  rw [val_strip, val_append, h.len]
  have e := h.eq
  rw [List.take_of_length_le hl] at e
  rw [← e]; simp [val]

structure MulIn (L0 Y : List Int) (d : Int) (i k : Nat) (L : List Int) (c : Int) : Prop where
  c0 : 0 ≤ c
  c1 : c < W
  u : U32 L
  len : L.length = L0.length
  z : ∀ j, i + Y.length ≤ j → L.getD j 0 = 0
  eq : val L + W ^ (i + k) * c = val L0 + W ^ i * d * val (Y.take k)
theorem getD_set_ne (L : List Int) {j k : Nat} (x : Int) (h : j ≠ k) : (L.set j x).getD k 0 = L.getD k 0 := by
  rw [List.getD_eq_getElem?_getD, List.getD_eq_getElem?_getD, List.getElem?_set_ne h]
theorem MulIn.bound {L0 Y L : List Int} {d c : Int} {i k : Nat} (hY : U32 Y) (h : MulIn L0 Y d i k L c) (d0 : 0 ≤ d) (d1 : d < W) :
    0 ≤ d * Y.getD k 0 ∧ d * Y.getD k 0 ≤ (W - 1) * (W - 1) ∧ 0 ≤ L.getD (i + k) 0 ∧ L.getD (i + k) 0 < W := by
  have h1 := h.u.getD (i + k)
  have h2 := hY.getD k
  exact ⟨Int.mul_nonneg d0 h2.1, Int.mul_le_mul (by omega) (by omega) h2.1 (by unfold W; omega), h1.1, h1.2⟩
theorem MulIn.step {L0 Y L : List Int} {d c : Int} {i k : Nat} (hY : U32 Y) (h : MulIn L0 Y d i k L c) (d0 : 0 ≤ d) (d1 : d < W) (hk : k < Y.length) (hi : i + k < L0.length) :
    MulIn L0 Y d i (k + 1) (L.set (i + k) ((c + (d * Y.getD k 0 + L.getD (i + k) 0)) % W)) ((c + (d * Y.getD k 0 + L.getD (i + k) 0)) / W) := by
  obtain ⟨b1, b2, b3, b4⟩ := h.bound hY d0 d1
  have h3 := h.c0
  have h4 := h.c1
  have e2 : W ^ (i + k) * (c + (d * Y.getD k 0 + L.getD (i + k) 0) - L.getD (i + k) 0) = W ^ (i + k) * c + W ^ i * d * (W ^ k * Y.getD k 0) := by
    rw [show c + (d * Y.getD k 0 + L.getD (i + k) 0) - L.getD (i + k) 0 = c + d * Y.getD k 0 by omega, Int.mul_add, Int.pow_add]
    congr 1
    rw [Int.mul_assoc, Int.mul_assoc, Int.mul_left_comm (W ^ k)]
  generalize d * Y.getD k 0 = p at *
  refine ⟨?_, ?_, h.u.set _ _, by simpa using h.len, ?_, ?_⟩
  · unfold W at *; omega
  · unfold W at *; omega
  · intro j hj; rw [getD_set_ne L _ (by omega)]; exact h.z j hj
  · rw [show i + (k + 1) = i + k + 1 by omega, carry_step L (i + k) _ (by rw [h.len]; exact hi), val_take_next, e2, Int.mul_add]
    have e := h.eq
    omega

structure MulOut (X Y : List Int) (i : Nat) (L : List Int) : Prop where
  u : U32 L
  len : L.length = X.length + Y.length
  z : ∀ j, i + Y.length ≤ j → L.getD j 0 = 0
  eq : val L = val (X.take i) * val Y
theorem MulOut.enter {X Y L : List Int} {i : Nat} {d : Int} (h : MulOut X Y i L) : MulIn L Y d i 0 L 0 :=
  ⟨by omega, by decide, h.u, rfl, h.z, by simp [val]⟩
theorem MulOut.step {X Y L L' : List Int} {i : Nat} {c : Int} (h : MulOut X Y i L) (hi : i < X.length) (h' : MulIn L Y (X.getD i 0) i Y.length L' c) :
    MulOut X Y (i + 1) (L'.set (i + Y.length) (c % W)) := by
  have h3 := h'.c0
  have h4 := h'.c1
  have hc : c % W = c := by unfold W at *; omega
  have hz := h'.z (i + Y.length) (by omega)
  have hl : i + Y.length < L'.length := by rw [h'.len, h.len]; omega
  refine ⟨h'.u.set _ _, by simp [h'.len, h.len], fun j hj => ?_, ?_⟩
  · rw [getD_set_ne L' _ (by omega)]; exact h'.z j (by omega)
  · rw [hc, val_set L' _ _ hl, hz, val_take_next]
    have e := h'.eq
    rw [List.take_of_length_le (Nat.le_refl _), h.eq] at e
    rw [Int.add_mul]
    rw [Int.sub_zero, Int.mul_comm c]
    omega
theorem MulOut.done {X Y L : List Int} (h : MulOut X Y X.length L) : val (strip L) = val X * val Y := by
  rw [val_strip, h.eq, List.take_of_length_le (Nat.le_refl _)]
theorem U32.zeros (n : Nat) : U32 (List.replicate n 0) := by
  intro y hy; rw [(List.mem_replicate.1 hy).2]; unfold W; omega
theorem val_zeros : ∀ n : Nat, val (List.replicate n 0) = 0
  | 0 => rfl
  | n + 1 => by rw [List.replicate_succ, val, val_zeros n]; simp
theorem MulOut.start (X Y : List Int) : MulOut X Y 0 (List.replicate (X.length + Y.length) 0) := by
  refine ⟨U32.zeros _, by simp, fun j hj => ?_, by simp [val_zeros, val]⟩
  rw [List.getD_eq_getElem?_getD, List.getElem?_replicate]; split <;> rfl
end Go.NT


/- Dividing digits by a piece. No condition. -/
namespace Go.NT
abbrev piece : Int := 1000000000
/-- j digits are still to be divided. -/
structure PartInv (X : List Int) (j : Nat) (L : List Int) (r : Int) : Prop where
  r0 : 0 ≤ r
  r1 : r < piece
  u : U32 L
  len : L.length = X.length
  tk : L.take j = X.take j
  eq : val (L.drop j) * piece + r = val (X.drop j)
theorem PartInv.start {X : List Int} (h : U32 X) : PartInv X X.length X 0 := ⟨by omega, by decide, h, rfl, rfl, by simp [val]⟩
theorem PartInv.get {X L : List Int} {j : Nat} {r : Int} (h : PartInv X (j + 1) L r) : L.getD j 0 = X.getD j 0 := by
  have e : (L.take (j + 1)).getD j 0 = (X.take (j + 1)).getD j 0 := by rw [h.tk]
  simpa [List.getD_eq_getElem?_getD, List.getElem?_take] using e
theorem PartInv.step {X L : List Int} {j : Nat} {r : Int} (h : PartInv X (j + 1) L r) (hj : j < X.length) :
    PartInv X j (L.set j (((r * W + L.getD j 0) / piece) % W)) ((r * W + L.getD j 0) % piece) := by
  have hg := h.get
  have hb := h.u.getD j
  have h0 := h.r0
  have h1 := h.r1
  have hjl : j < L.length := by rw [h.len]; exact hj
  have hq : ((r * W + L.getD j 0) / piece) % W = (r * W + L.getD j 0) / piece := by unfold W piece at *; omega
  refine ⟨by unfold piece; omega, by unfold piece; omega, h.u.set _ _, by simpa using h.len, ?_, ?_⟩
  · rw [List.take_set_of_le (Nat.le_refl j)]
    have := congrArg (List.take j) h.tk
    rwa [List.take_take, List.take_take, Nat.min_eq_left (by omega)] at this
  · rw [hq]
    have hd : (L.set j ((r * W + L.getD j 0) / piece)).drop j = ((r * W + L.getD j 0) / piece) :: L.drop (j + 1) := by
      rw [drop_cons _ j (by simpa using hjl), List.drop_set_of_lt (by omega)]
      congr 1
      rw [List.getD_eq_getElem?_getD, List.getElem?_set_self (by omega)]; rfl
    rw [hd, drop_cons X j hj, val, val, ← h.eq, ← hg]
    have e := Int.emod_add_mul_ediv (r * W + L.getD j 0) piece
    generalize (r * W + L.getD j 0) / piece = q at *
    generalize (r * W + L.getD j 0) % piece = t at *
    generalize val (L.drop (j + 1)) = v at *
    generalize L.getD j 0 = x at *
    unfold W piece at *
    omega
theorem PartInv.done {X L : List Int} {r : Int} (h : PartInv X 0 L r) : val (strip L) * piece + r = val X := by
  have := h.eq
  simpa [val_strip] using this
end Go.NT


/- Decimal digits, nine at a time. No condition. -/
namespace Go.NT
open Go.Lib

theorem dec_big {u : Nat} (h : ¬ u < 10) : decDigits u = decDigits (u / 10) ++ [UInt8.ofNat (48 + u % 10)] := by rw [decDigits, dif_neg h]
/-- r written in k digits. -/
def pad (k r : Nat) : List UInt8 := List.replicate (k - nDigits r) 48 ++ decDigits r
theorem nDigits_le {k r : Nat} (hk : 1 ≤ k) (h : r < 10 ^ k) : nDigits r ≤ k := by
  induction k generalizing r with
  | zero => omega
  | succ k ih =>
    by_cases hr : r < 10
    · rw [nDigits_small hr]; omega
    · rw [nDigits_big hr]
      by_cases hk0 : k = 0
      · subst hk0; exact absurd h (by simpa using hr)
      · have : r / 10 < 10 ^ k := by rw [Nat.div_lt_iff_lt_mul (by omega)]; rw [Nat.pow_succ] at h; exact h
        have := ih (by omega) this
        omega
theorem pad_succ {k r : Nat} (hk : 1 ≤ k) (h : r < 10 ^ (k + 1)) : pad (k + 1) r = pad k (r / 10) ++ [UInt8.ofNat (48 + r % 10)] := by
  unfold pad
  by_cases hr : r < 10
  · rw [nDigits_small hr, decDigits_one hr, Nat.div_eq_of_lt hr, nDigits_small (by omega : 0 < 10), decDigits_one (by omega : 0 < 10), Nat.mod_eq_of_lt hr, Nat.add_sub_cancel]
    congr 1
    obtain ⟨j, rfl⟩ : ∃ j, k = j + 1 := ⟨k - 1, by omega⟩
    rw [Nat.add_sub_cancel, List.replicate_succ']; rfl
  · rw [nDigits_big hr, dec_big hr, ← List.append_assoc]
    congr 3
    omega
theorem dec_split : ∀ (k : Nat) {q r : Nat}, 1 ≤ k → 1 ≤ q → r < 10 ^ k → decDigits (q * 10 ^ k + r) = decDigits q ++ pad k r
  | 0, _, _, h, _, _ => by omega
  | 1, q, r, _, hq, hr => by
    have hr : r < 10 := by simpa using hr
    have hb : ¬ (q * 10 ^ 1 + r < 10) := by omega
    rw [dec_big hb]
    have e1 : (q * 10 ^ 1 + r) / 10 = q := by omega
    have e2 : (q * 10 ^ 1 + r) % 10 = r := by omega
    rw [e1, e2]
    congr 1
    unfold pad
    rw [nDigits_small hr, decDigits_one hr]; rfl
  | k + 2, q, r, _, hq, hr => by
    have hp : 1 ≤ 10 ^ (k + 1) := Nat.one_le_pow _ _ (by omega)
    have hm : 10 ^ (k + 1) ≤ q * 10 ^ (k + 1) := Nat.le_mul_of_pos_left _ hq
    have e0 : q * 10 ^ (k + 2) = 10 * (q * 10 ^ (k + 1)) := by rw [Nat.pow_succ 10 (k + 1), ← Nat.mul_assoc, Nat.mul_comm]
    have hb : ¬ (q * 10 ^ (k + 2) + r < 10) := by omega
    have e1 : (q * 10 ^ (k + 2) + r) / 10 = q * 10 ^ (k + 1) + r / 10 := by omega
    have e2 : (q * 10 ^ (k + 2) + r) % 10 = r % 10 := by omega
    have hr' : r / 10 < 10 ^ (k + 1) := by rw [Nat.div_lt_iff_lt_mul (by omega)]; rw [Nat.pow_succ] at hr; exact hr
    rw [dec_big hb, e1, e2, dec_split (k + 1) (by omega) hq hr', List.append_assoc, ← pad_succ (by omega) hr]

/-- The digits of a number that is not below nought. -/
def decI (x : Int) : List UInt8 := decDigits x.toNat
theorem decI_split {q r x : Int} (h : q * 1000000000 + r = x) (h0 : 0 ≤ r) (h1 : r < 1000000000) (hq : 1 ≤ q) : decI x = decI q ++ (List.replicate (9 - nDigits r.toNat) 48 ++ decDigits r.toNat) := by
  subst h
  have e : (q * 1000000000 + r).toNat = q.toNat * 10 ^ 9 + r.toNat := by simp; omega
  unfold decI
  rw [e]
  exact dec_split 9 (by omega) (by omega) (by simp; omega)
theorem nd9 {r : Int} (h1 : r < 1000000000) : nDigits r.toNat ≤ 9 := nDigits_le (by omega) (by simp; omega)

theorem wg : ∀ n : Nat, (W : Int) ^ n ≤ (536870912 : Int) ^ (2 * n)
  | 0 => by simp
  | n + 1 => by
    rw [show 2 * (n + 1) = 2 * n + 1 + 1 by omega, Int.pow_succ, Int.pow_succ, Int.pow_succ, Int.mul_assoc]
    have h := wg n
    have hp : (0 : Int) < W ^ n := Int.pow_pos (by decide)
    exact Int.mul_le_mul h (by decide) (by decide) (by omega)
theorem gmono {a b : Nat} (h : a ≤ b) : (536870912 : Int) ^ a ≤ (536870912 : Int) ^ b := by
  obtain ⟨k, rfl⟩ := Nat.exists_eq_add_of_le h
  rw [Int.pow_add]
  have h1 : (0 : Int) < (536870912 : Int) ^ a := Int.pow_pos (by decide)
  have h2 : (0 : Int) < (536870912 : Int) ^ k := Int.pow_pos (by decide)
  have := Int.mul_le_mul_of_nonneg_left (show (1 : Int) ≤ (536870912 : Int) ^ k by omega) (Int.le_of_lt h1)
  omega

/-- So far: the pieces ahead, the least first, and the digits that are left. -/
structure TextInv (X : List Int) (P : List (List UInt8)) (Q : List Int) : Prop where
  u : U32 Q
  n : Norm Q
  a : Q ≠ [] ∨ P = [] → decI (val X) = decI (val Q) ++ P.reverse.flatten
  b : Q = [] → P ≠ [] → decI (val X) = P.reverse.flatten
  c : (536870912 : Int) ^ P.length * val Q ≤ val X
  d : Q ≠ [] ∨ P = [] ∨ P.length ≤ 2 * X.length + 1
theorem TextInv.start {X : List Int} (h : U32 X) (hn : Norm X) : TextInv X [] X :=
  ⟨h, hn, fun _ => by simp, fun _ h => absurd rfl h, by simp, .inr (.inl rfl)⟩
theorem val_pos {Q : List Int} (h : U32 Q) (hn : Norm Q) (hq : Q ≠ []) : 1 ≤ val Q := by
  have h0 := val_nonneg h
  rcases Int.lt_or_eq_of_le h0 with h1 | h1
  · omega
  · have := (val_zero_iff h).1 h1.symm
    rw [show strip Q = Q from hn] at this
    exact absurd this hq
theorem TextInv.count {X Q : List Int} {P : List (List UInt8)} (h : TextInv X P Q) (hX : U32 X) (hq : Q ≠ []) : P.length ≤ 2 * X.length := by
  have h1 := val_pos h.u h.n hq
  have h2 := h.c
  have h3 := val_lt hX
  have h4 := wg X.length
  rcases Nat.lt_or_ge (2 * X.length) P.length with hc | hc
  · exfalso
    have h5 : (536870912 : Int) ^ (2 * X.length) ≤ (536870912 : Int) ^ P.length := gmono (by omega)
    have h6 : (536870912 : Int) ^ P.length * 1 ≤ (536870912 : Int) ^ P.length * val Q := Int.mul_le_mul_of_nonneg_left h1 (Int.le_of_lt (Int.pow_pos (by decide)))
    omega
  · exact hc
theorem TextInv.more {X Q Q' : List Int} {P : List (List UInt8)} {r : Int} (h : TextInv X P Q) (hc : Q ≠ [] ∨ P = []) (hu : U32 Q') (hn : Norm Q') (hq : Q' ≠ []) (hv : val Q' * 1000000000 + r = val Q) (h0 : 0 ≤ r) (h1 : r < 1000000000) :
    TextInv X (P ++ [List.replicate (9 - nDigits r.toNat) 48 ++ decDigits r.toNat]) Q' := by
  have hp := val_pos hu hn hq
  refine ⟨hu, hn, fun _ => ?_, fun e => absurd e hq, ?_, .inl hq⟩
  · rw [h.a hc, decI_split hv h0 h1 hp]
    simp
  · rw [List.length_append, List.length_singleton, Int.pow_succ, Int.mul_assoc]
    refine Int.le_trans (Int.mul_le_mul_of_nonneg_left ?_ (Int.le_of_lt (Int.pow_pos (by decide)))) h.c
    omega
theorem TextInv.last {X Q : List Int} {P : List (List UInt8)} {r : Int} (h : TextInv X P Q) (hX : U32 X) (hc : Q ≠ [] ∨ P = []) (hv : (0 : Int) * 1000000000 + r = val Q) :
    TextInv X (P ++ [decDigits r.toNat]) [] := by
  refine ⟨U32.nil, Norm.nil, fun e => ?_, fun _ _ => ?_, ?_, .inr (.inr ?_)⟩
  · rcases e with e | e
    · exact absurd rfl e
    · simp at e
  · rw [h.a hc, ← hv]
    simp [decI]
  · simp only [val, Int.mul_zero]; exact val_nonneg hX
  · rcases hc with hc | hc
    · have := h.count hX hc
      rw [List.length_append, List.length_singleton]; omega
    · subst hc; simp
theorem w10 : ∀ n : Nat, (W : Int) ^ n ≤ ((10 ^ (10 * n) : Nat) : Int)
  | 0 => by simp
  | n + 1 => by
    rw [show 10 * (n + 1) = 10 * n + 10 by omega, Nat.pow_add, Int.natCast_mul, Int.pow_succ]
    have h := w10 n
    have hp : (0 : Int) < W ^ n := Int.pow_pos (by decide)
    exact Int.mul_le_mul h (by decide) (by decide) (by omega)
theorem dec_len {X : List Int} (h : U32 X) : (decI (val X)).length ≤ 10 * X.length + 1 := by
  unfold decI
  rw [decDigits_length]
  refine nDigits_le (by omega) ?_
  have h1 := val_lt h
  have h2 := w10 X.length
  have h3 := val_nonneg h
  have h4 : (val X).toNat < 10 ^ (10 * X.length) := by omega
  rw [Nat.pow_succ]
  omega
theorem join_flat (xs : List (List UInt8)) : Lib.join xs [] = xs.flatten := by
  cases xs with
  | nil => rfl
  | cons x r => rw [join_cons]; simp [joinTail]
end Go.NT
