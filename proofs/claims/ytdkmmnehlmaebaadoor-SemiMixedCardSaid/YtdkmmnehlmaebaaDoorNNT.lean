/- Plain facts on numbers written in digits of 32 bits, the least first: what they are worth, and that digits without noughts at the end tell the worth. No condition. -/
namespace Go.NT
abbrev W : Int := 4294967296
def U32 (l : List Int) : Prop := ∀ x ∈ l, 0 ≤ x ∧ x < W
def val : List Int → Int
  | [] => 0
  | x :: t => x + W * val t
def strip : List Int → List Int
  | [] => []
  | x :: t => if strip t = [] ∧ x = 0 then [] else x :: strip t

theorem U32.tail {x : Int} {l : List Int} (h : U32 (x :: l)) : U32 l := fun y hy => h y (List.mem_cons_of_mem _ hy)
theorem U32.head {x : Int} {l : List Int} (h : U32 (x :: l)) : 0 ≤ x ∧ x < W := h x (List.mem_cons_self ..)
theorem U32.append {l m : List Int} (h : U32 l) (k : U32 m) : U32 (l ++ m) := fun x hx => (List.mem_append.1 hx).elim (h x) (k x)
theorem U32.nil : U32 [] := by intro x hx; cases hx
theorem U32.take {l : List Int} (h : U32 l) (k : Nat) : U32 (l.take k) := fun x hx => h x (List.mem_of_mem_take hx)
theorem U32.drop {l : List Int} (h : U32 l) (k : Nat) : U32 (l.drop k) := fun x hx => h x (List.mem_of_mem_drop hx)
theorem U32.getD {l : List Int} (h : U32 l) (k : Nat) : 0 ≤ l.getD k 0 ∧ l.getD k 0 < W := by
  rw [List.getD_eq_getElem?_getD]
  by_cases hk : k < l.length
  · rw [List.getElem?_eq_getElem hk]; exact h _ (List.getElem_mem hk)
  · rw [List.getElem?_eq_none (by omega)]; exact ⟨by simp, by decide⟩
theorem val_nonneg : ∀ {l : List Int}, U32 l → 0 ≤ val l
  | [], _ => by simp [val]
  | x :: t, h => by
    have := val_nonneg h.tail
    have := h.head
    simp only [val]; unfold W at *; omega
theorem Wpow_pos (n : Nat) : (0 : Int) < W ^ n := Int.pow_pos (by decide)
theorem val_lt : ∀ {l : List Int}, U32 l → val l < W ^ l.length
  | [], _ => by simp [val]
  | x :: t, h => by
    have h1 := val_lt h.tail
    have h2 := h.head
    rw [List.length_cons, Int.pow_succ, Int.mul_comm]
    simp only [val]
    have h3 : W * (val t + 1) ≤ W * W ^ t.length := Int.mul_le_mul_of_nonneg_left (by omega) (by decide)
    rw [Int.mul_add] at h3
    omega
theorem val_append : ∀ (l m : List Int), val (l ++ m) = val l + W ^ l.length * val m
  | [], m => by simp [val]
  | x :: t, m => by
    rw [List.cons_append]
    simp only [val]
    rw [val_append t m, List.length_cons, Int.pow_succ, Int.mul_add, ← Int.mul_assoc, Int.mul_comm W (W ^ t.length)]
    omega
theorem val_take_drop (l : List Int) (k : Nat) (h : k ≤ l.length) : val l = val (l.take k) + W ^ k * val (l.drop k) := by
  have := val_append (l.take k) (l.drop k)
  rwa [List.take_append_drop, List.length_take, Nat.min_eq_left h] at this
theorem drop_cons (l : List Int) (k : Nat) (h : k < l.length) : l.drop k = l.getD k 0 :: l.drop (k + 1) := by
  rw [List.drop_eq_getElem_cons h, List.getD_eq_getElem?_getD, List.getElem?_eq_getElem h, Option.getD_some]
theorem take_snoc (l : List Int) (k : Nat) (h : k < l.length) : l.take (k + 1) = l.take k ++ [l.getD k 0] := by
  rw [List.take_succ_eq_append_getElem h, List.getD_eq_getElem?_getD, List.getElem?_eq_getElem h, Option.getD_some]
theorem val_take_succ (l : List Int) (k : Nat) (h : k < l.length) : val (l.take (k + 1)) = val (l.take k) + W ^ k * l.getD k 0 := by
  rw [take_snoc l k h, val_append, List.length_take, Nat.min_eq_left (by omega)]
  simp [val]
theorem val_set : ∀ (l : List Int) (j : Nat) (d : Int), j < l.length → val (l.set j d) = val l + (d - l.getD j 0) * W ^ j
  | [], _, _, h => absurd h (by simp)
  | x :: t, 0, d, _ => by simp [val]; omega
  | x :: t, j + 1, d, h => by
    have hj : j < t.length := by simpa using h
    rw [List.set_cons_succ]
    simp only [val]
    rw [val_set t j d hj, Int.pow_succ, Int.mul_add]
    have : (x :: t).getD (j + 1) 0 = t.getD j 0 := by simp [List.getD_eq_getElem?_getD]
    rw [this]
    have e : W * ((d - t.getD j 0) * W ^ j) = (d - t.getD j 0) * (W ^ j * W) := by
      rw [← Int.mul_assoc, Int.mul_comm W (d - t.getD j 0), Int.mul_assoc, Int.mul_comm W]
    rw [e]; omega

theorem strip_cons_nil {x : Int} {t : List Int} (h : strip t = [] ∧ x = 0) : strip (x :: t) = [] := by rw [strip, if_pos h]
theorem strip_cons {x : Int} {t : List Int} (h : ¬ (strip t = [] ∧ x = 0)) : strip (x :: t) = x :: strip t := by rw [strip, if_neg h]
theorem val_strip : ∀ (l : List Int), val (strip l) = val l
  | [] => rfl
  | x :: t => by
    by_cases h : strip t = [] ∧ x = 0
    · rw [strip_cons_nil h]
      have := val_strip t
      rw [h.1] at this
      simp only [val] at this ⊢
      rw [← this, h.2]; simp
    · rw [strip_cons h]; simp only [val]; rw [val_strip t]
theorem strip_take : ∀ (l : List Int), strip l = l.take (strip l).length ∧ (strip l).length ≤ l.length
  | [] => ⟨rfl, Nat.le_refl _⟩
  | x :: t => by
    obtain ⟨a, b⟩ := strip_take t
    by_cases h : strip t = [] ∧ x = 0
    · rw [strip_cons_nil h]; simp
    · rw [strip_cons h]
      refine ⟨?_, by simp; omega⟩
      rw [List.length_cons, List.take_succ_cons, ← a]
theorem strip_strip : ∀ (l : List Int), strip (strip l) = strip l
  | [] => rfl
  | x :: t => by
    have a := strip_strip t
    by_cases h : strip t = [] ∧ x = 0
    · rw [strip_cons_nil h]; rfl
    · rw [strip_cons h, strip_cons (by rw [a]; exact h), a]
theorem U32.strip {l : List Int} (h : U32 l) : U32 (strip l) := by rw [(strip_take l).1]; exact h.take _
theorem strip_snoc_zero : ∀ (l : List Int), strip (l ++ [0]) = strip l
  | [] => by simp [strip]
  | x :: t => by rw [List.cons_append, strip, strip_snoc_zero t]; rfl
theorem strip_snoc : ∀ (l : List Int) {x : Int}, x ≠ 0 → strip (l ++ [x]) = l ++ [x]
  | [], x, h => by rw [List.nil_append, strip_cons (fun a => h a.2)]; rfl
  | y :: t, x, h => by
    rw [List.cons_append, strip_cons (fun a => by rw [strip_snoc t h] at a; simp at a), strip_snoc t h]
/-- Digits without noughts at the end. -/
def Norm (l : List Int) : Prop := strip l = l
theorem Norm.strip (l : List Int) : Norm (strip l) := strip_strip l
theorem Norm.nil : Norm [] := rfl
theorem Norm.tail {x : Int} {t : List Int} (h : Norm (x :: t)) : Norm t := by
  unfold Norm at h ⊢
  by_cases e : NT.strip t = [] ∧ x = 0
  · rw [strip_cons_nil e] at h; cases h
  · rw [strip_cons e] at h; exact (List.cons.inj h).2
theorem Norm.pos : ∀ {l : List Int}, Norm l → U32 l → l ≠ [] → W ^ (l.length - 1) ≤ val l
  | [], _, _, h => absurd rfl h
  | [x], h, hu, _ => by
    have hx : x ≠ 0 := by
      rintro rfl
      have : NT.strip [0] = [] := by simp [NT.strip]
      unfold Norm at h; rw [this] at h; cases h
    have := hu.head
    simp [val]; omega
  | x :: y :: t, h, hu, _ => by
    have := Norm.pos h.tail hu.tail (by simp)
    have h1 := hu.head
    simp only [List.length_cons, Nat.add_sub_cancel] at this ⊢
    rw [Int.pow_succ, Int.mul_comm]
    have h3 : W * W ^ t.length ≤ W * val (y :: t) := Int.mul_le_mul_of_nonneg_left this (by decide)
    show W * W ^ t.length ≤ x + W * val (y :: t)
    omega
theorem pow_mono {a b : Nat} (h : a ≤ b) : W ^ a ≤ W ^ b := by
  obtain ⟨k, rfl⟩ := Nat.le.dest h
  rw [Int.pow_add]
  have h1 := Wpow_pos a
  have h2 := Wpow_pos k
  have := Int.mul_le_mul_of_nonneg_left (show (1 : Int) ≤ W ^ k by omega) (Int.le_of_lt h1)
  rwa [Int.mul_one] at this
theorem val_lt_of_length {l m : List Int} (hl : U32 l) (hm : U32 m) (hn : Norm m) (h : l.length < m.length) : val l < val m := by
  have h1 := val_lt hl
  have h2 := Norm.pos hn hm (by intro e; subst e; simp at h)
  have h3 : W ^ l.length ≤ W ^ (m.length - 1) := pow_mono (by omega)
  omega
theorem inj : ∀ {l m : List Int}, U32 l → U32 m → Norm l → Norm m → val l = val m → l = m := by
  intro l
  induction l with
  | nil =>
    intro m _ hm _ hn h
    by_cases e : m = []
    · exact e.symm
    · have := Norm.pos hn hm e
      have h2 := Wpow_pos (m.length - 1)
      simp only [val] at h
      omega
  | cons x t ih =>
    intro m hl hm hln hn h
    cases m with
    | nil =>
      have := Norm.pos hln hl (by simp)
      have h2 := Wpow_pos ((x :: t).length - 1)
      simp only [val] at h this
      omega
    | cons y s =>
      have hx := hl.head
      have hy := hm.head
      simp only [val] at h
      have hxy : x = y := by unfold W at *; omega
      have hv : val t = val s := by unfold W at *; omega
      rw [hxy, ih hl.tail hm.tail hln.tail hn.tail hv]
theorem strip_eq_of_val {l m : List Int} (hl : U32 l) (hm : U32 m) (h : val l = val m) : strip l = strip m :=
  inj hl.strip hm.strip (Norm.strip l) (Norm.strip m) (by rw [val_strip, val_strip, h])
theorem val_zero_iff {l : List Int} (hl : U32 l) : val l = 0 ↔ strip l = [] := by
  constructor
  · intro h; exact strip_eq_of_val (m := []) hl U32.nil h
  · intro h; rw [← val_strip, h]; rfl
/-- The first digit from above that differs decides. -/
theorem val_lt_of_digit {l m : List Int} (hl : U32 l) (hm : U32 m) {i : Nat} (h1 : i < l.length) (h2 : i < m.length) (hd : l.drop (i + 1) = m.drop (i + 1)) (h : l.getD i 0 < m.getD i 0) : val l < val m := by
  have e1 := val_take_drop l i (by omega)
  have e2 := val_take_drop m i (by omega)
  rw [drop_cons l i h1] at e1
  rw [drop_cons m i h2] at e2
  have v1 := val_lt (hl.take i)
  have v2 := val_nonneg (hm.take i)
  rw [List.length_take, Nat.min_eq_left (by omega)] at v1
  simp only [val] at e1 e2
  rw [hd] at e1
  generalize val (m.drop (i + 1)) = T at *
  have hp := Wpow_pos i
  have h3 : W ^ i * (l.getD i 0 + W * T + 1) ≤ W ^ i * (m.getD i 0 + W * T) := Int.mul_le_mul_of_nonneg_left (by omega) (by omega)
  rw [Int.mul_add] at h3
  omega
end Go.NT
