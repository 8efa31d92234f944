/- Plain facts about a name's text: unlike names have unlike texts; it is no shorter. No condition. -/
namespace Go.PN

/-- Does a byte stand in a name as it is? -/
def plainB (c : UInt8) : Bool := (decide (97 ≤ c.toNat) && decide (c.toNat ≤ 122)) || (decide (65 ≤ c.toNat) && decide (c.toNat ≤ 90)) || (decide (48 ≤ c.toNat) && decide (c.toNat ≤ 57)) || decide (c.toNat = 95)
/-- Is it written as two digits? -/
def oddB (c : UInt8) : Bool := decide (c.toNat < 32) || decide (126 < c.toNat) || decide (c.toNat = 60) || decide (c.toNat = 62) || decide (c.toNat = 92)
def hexes : List UInt8 := [48, 49, 50, 51, 52, 53, 54, 55, 56, 57, 97, 98, 99, 100, 101, 102]
def hexD (n : Nat) : UInt8 := hexes.getD n 0
def esc (c : UInt8) : List UInt8 := if oddB c then [92, hexD (c.toNat / 16), hexD (c.toNat % 16)] else [c]
def bareB (l : List UInt8) : Bool := !l.isEmpty && l.all plainB
def nameT (l : List UInt8) : List UInt8 := if bareB l then l else 60 :: (l.flatMap esc ++ [62])
theorem hexD_inj {n m : Nat} (hn : n < 16) (hm : m < 16) (h : hexD n = hexD m) : n = m := by
  have key : ∀ n : Fin 16, ∀ m : Fin 16, hexD n.val = hexD m.val → n = m := by decide
  have := key ⟨n, hn⟩ ⟨m, hm⟩ h
  simpa using this
theorem esc_cons (c : UInt8) (t : List UInt8) : (esc c ++ t = 92 :: hexD (c.toNat / 16) :: hexD (c.toNat % 16) :: t ∧ oddB c = true) ∨ (esc c ++ t = c :: t ∧ oddB c = false) := by
  unfold esc
  cases h : oddB c
  · exact .inr ⟨rfl, rfl⟩
  · exact .inl ⟨rfl, rfl⟩
theorem not_odd_92 {c : UInt8} (h : oddB c = false) : c ≠ 92 := by
  intro e; subst e; revert h; decide
theorem byte_of {c d : UInt8} (h1 : c.toNat / 16 = d.toNat / 16) (h2 : c.toNat % 16 = d.toNat % 16) : c = d := by
  have : c.toNat = d.toNat := by omega
  exact UInt8.toNat_inj.1 this
theorem flat_inj : ∀ {a b : List UInt8}, a.flatMap esc = b.flatMap esc → a = b
  | [], [], _ => rfl
  | [], d :: t, h => by
    rw [List.flatMap_nil, List.flatMap_cons] at h
    rcases esc_cons d (t.flatMap esc) with ⟨e, _⟩ | ⟨e, _⟩ <;> rw [e] at h <;> cases h
  | c :: s, [], h => by
    rw [List.flatMap_nil, List.flatMap_cons] at h
    rcases esc_cons c (s.flatMap esc) with ⟨e, _⟩ | ⟨e, _⟩ <;> rw [e] at h <;> cases h
  | c :: s, d :: t, h => by
    rw [List.flatMap_cons, List.flatMap_cons] at h
    rcases esc_cons c (s.flatMap esc) with ⟨e1, o1⟩ | ⟨e1, o1⟩ <;> rcases esc_cons d (t.flatMap esc) with ⟨e2, o2⟩ | ⟨e2, o2⟩ <;> rw [e1, e2] at h
    · simp only [List.cons.injEq, true_and] at h
      have hc := c.toNat_lt
      have hd := d.toNat_lt
      have k1 := hexD_inj (by omega) (by omega) h.1
      have k2 := hexD_inj (by omega) (by omega) h.2.1
      rw [byte_of k1 k2, flat_inj h.2.2]
    · simp only [List.cons.injEq] at h
      exact absurd h.1.symm (not_odd_92 o2)
    · simp only [List.cons.injEq] at h
      exact absurd h.1 (not_odd_92 o1)
    · simp only [List.cons.injEq] at h
      rw [h.1, flat_inj h.2]
theorem bare_head {l : List UInt8} (h : bareB l = true) : l.head? ≠ some 60 := by
  cases l with
  | nil => intro e; cases e
  | cons c t =>
    unfold bareB at h
    rw [List.all_cons, Bool.and_eq_true, Bool.and_eq_true] at h
    intro e
    have e : c = 60 := by simpa using e
    rw [e] at h
    exact absurd h.2.1 (by decide)
theorem nameT_inj {a b : List UInt8} (h : nameT a = nameT b) : a = b := by
  unfold nameT at h
  cases h1 : bareB a <;> cases h2 : bareB b <;> rw [h1, h2] at h
  · rw [if_neg Bool.false_ne_true, if_neg Bool.false_ne_true] at h
    simp only [List.cons.injEq, true_and] at h
    exact flat_inj (List.append_cancel_right h)
  · rw [if_neg Bool.false_ne_true, if_pos rfl] at h
    exact absurd (by rw [← h]; rfl) (bare_head h2)
  · rw [if_pos rfl, if_neg Bool.false_ne_true] at h
    exact absurd (by rw [h]; rfl) (bare_head h1)
  · rw [if_pos rfl, if_pos rfl] at h
    exact h
theorem esc_len (c : UInt8) : 1 ≤ (esc c).length ∧ (esc c).length ≤ 3 := by
  unfold esc; split <;> simp
theorem flat_len (l : List UInt8) : l.length ≤ (l.flatMap esc).length ∧ (l.flatMap esc).length ≤ 3 * l.length := by
  induction l with
  | nil => simp
  | cons c t ih =>
    have := esc_len c
    rw [List.flatMap_cons, List.length_append, List.length_cons]
    omega
theorem nameT_len (l : List UInt8) : l.length ≤ (nameT l).length ∧ (nameT l).length ≤ 3 * l.length + 2 := by
  have := flat_len l
  unfold nameT
  split
  · omega
  · rw [List.length_cons, List.length_append]
    simp only [List.length_cons, List.length_nil]
    omega
theorem nameT_same (a b : List UInt8) : decide (nameT a = nameT b) = decide (a = b) := by
  rw [decide_eq_decide]
  exact ⟨nameT_inj, fun h => by rw [h]⟩
end Go.PN
