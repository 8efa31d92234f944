/- Plain facts: names read back from their texts. No condition. -/
import Derived.Test.YtpaehicfndkliaaGreatDoorPN
namespace Go.PN

def hexV (c : UInt8) : Option Nat := if 48 ≤ c.toNat ∧ c.toNat ≤ 57 then some (c.toNat - 48) else if 97 ≤ c.toNat ∧ c.toNat ≤ 102 then some (c.toNat - 87) else none
/-- What stands in angle brackets, and what stands behind them. -/
def escR : List UInt8 → Option (List UInt8 × List UInt8)
  | [] => none
  | c :: t =>
    if c = 62 then some ([], t)
    else if c = 92 then
      match t with
      | a :: b :: u => match hexV a, hexV b with
        | some x, some y => (escR u).map fun r => (UInt8.ofNat (x * 16 + y) :: r.1, r.2)
        | _, _ => none
      | _ => none
    else (escR t).map fun r => (c :: r.1, r.2)
theorem escR_nil : escR [] = none := rfl
theorem escR_end (t : List UInt8) : escR (62 :: t) = some ([], t) := by
  match t with
  | [] => rfl
  | [_] => rfl
  | _ :: _ :: _ => rfl
theorem escR_one (c : UInt8) (t : List UInt8) (h : c ≠ 62) (h2 : c ≠ 92) : escR (c :: t) = (escR t).map fun r => (c :: r.1, r.2) := by
  match t with
  | [] => unfold escR; rw [if_neg h, if_neg h2]; rfl
  | [a] => rw [escR, if_neg h, if_neg h2]; intro a b u h; cases h
  | a :: b :: u => rw [escR, if_neg h, if_neg h2]
theorem escR_hex (a b : UInt8) (u : List UInt8) : escR (92 :: a :: b :: u) = match hexV a, hexV b with
        | some x, some y => (escR u).map fun r => (UInt8.ofNat (x * 16 + y) :: r.1, r.2)
        | _, _ => none := by rw [escR, if_neg (by decide), if_pos rfl]
theorem escR_cut0 : escR [92] = none := rfl
theorem escR_cut1 (a : UInt8) : escR [92, a] = none := rfl
theorem escR_suf (n : Nat) : ∀ (t : List UInt8) (r : List UInt8 × List UInt8), t.length ≤ n → escR t = some r → ∃ p, t = p ++ r.2 ∧ 1 ≤ p.length := by
  induction n with
  | zero =>
    intro t r h e
    have : t = [] := List.eq_nil_of_length_eq_zero (by omega)
    subst this; cases e
  | succ n ih =>
    intro t r h e
    cases t with
    | nil => cases e
    | cons c t =>
      rw [List.length_cons] at h
      by_cases h1 : c = 62
      · subst h1; rw [escR_end] at e; injection e with e; subst e; exact ⟨[62], rfl, by simp⟩
      · by_cases h2 : c = 92
        · subst h2
          match t with
          | [] => rw [escR_cut0] at e; cases e
          | [a] => rw [escR_cut1] at e; cases e
          | a :: b :: u =>
            rw [escR_hex] at e
            cases ha : hexV a with
            | none => rw [ha] at e; cases e
            | some x =>
              cases hb : hexV b with
              | none => rw [ha, hb] at e; cases e
              | some y =>
                rw [ha, hb] at e
                simp only at e
                cases hu : escR u with
                | none => rw [hu] at e; cases e
                | some q =>
                  rw [hu] at e
                  injection e with e
                  subst e
                  obtain ⟨p, hp, _⟩ := ih u q (by simp only [List.length_cons] at h; omega) hu
                  exact ⟨92 :: a :: b :: p, by rw [hp]; rfl, by simp⟩
        · rw [escR_one c t h1 h2] at e
          cases hu : escR t with
          | none => rw [hu] at e; cases e
          | some q =>
            rw [hu] at e
            injection e with e
            subst e
            obtain ⟨p, hp, _⟩ := ih t q (by omega) hu
            exact ⟨c :: p, by rw [hp]; rfl, by simp⟩
theorem hexV_hexD (n : Nat) (h : n < 16) : hexV (hexD n) = some n := by
  have key : ∀ i : Fin 16, hexV (hexD i.val) = some i.val := by decide
  exact key ⟨n, h⟩
theorem escR_flat (l r : List UInt8) : escR (l.flatMap esc ++ 62 :: r) = some (l, r) := by
  induction l with
  | nil => exact escR_end r
  | cons c l ih =>
    rw [List.flatMap_cons, List.append_assoc]
    rcases esc_cons c (l.flatMap esc ++ 62 :: r) with ⟨e, ho⟩ | ⟨e, ho⟩
    · have h1 : c.toNat / 16 < 16 := by have := c.toNat_lt; omega
      have h2 : c.toNat % 16 < 16 := by omega
      rw [e, escR_hex, hexV_hexD _ h1, hexV_hexD _ h2, ih]
      simp only [Option.map_some]
      have : UInt8.ofNat (c.toNat / 16 * 16 + c.toNat % 16) = c := by
        rw [show c.toNat / 16 * 16 + c.toNat % 16 = c.toNat from by omega]
        exact UInt8.ofNat_toNat
      rw [this]
    · have h1 : c ≠ 62 := by
        intro h; subst h; cases ho
      rw [e, escR_one c _ h1 (not_odd_92 ho), ih]
      rfl
/-- How many bytes of a word a text begins with. -/
def bareN (t : List UInt8) : Nat := (t.takeWhile plainB).length
/-- The name that a text begins with; the rest. -/
def nameR (t : List UInt8) : Option (List UInt8 × List UInt8) :=
  if 0 < bareN t then some (t.take (bareN t), t.drop (bareN t))
  else match t with
    | [] => none
    | c :: u => if c = 60 then match escR u with
        | some r => if nameT r.1 ++ r.2 = t then some r else none
        | none => none
      else none
theorem bareN_app (l r : List UInt8) (h : l.all plainB = true) (hr : ∀ c, r.head? = some c → plainB c = false) : bareN (l ++ r) = l.length := by
  unfold bareN
  induction l with
  | nil =>
    cases r with
    | nil => rfl
    | cons c r => rw [List.nil_append, List.takeWhile_cons, hr c rfl]; rfl
  | cons c l ih =>
    rw [List.all_cons, Bool.and_eq_true] at h
    rw [List.cons_append, List.takeWhile_cons, h.1]
    simp only [if_true, List.length_cons]
    rw [ih h.2]
theorem bareN_le (t : List UInt8) : bareN t ≤ t.length := by
  unfold bareN
  induction t with
  | nil => simp
  | cons c t ih =>
    rw [List.takeWhile_cons]
    split <;> simp <;> omega
theorem nameR_suf (t : List UInt8) (r : List UInt8 × List UInt8) (h : nameR t = some r) : ∃ p, t = p ++ r.2 ∧ 1 ≤ p.length := by
  unfold nameR at h
  split at h
  · injection h with h; subst h
    exact ⟨t.take (bareN t), (List.take_append_drop _ _).symm, by rw [List.length_take]; have := bareN_le t; omega⟩
  · cases t with
    | nil => cases h
    | cons c u =>
      simp only at h
      split at h
      · cases hu : escR u with
        | none => rw [hu] at h; cases h
        | some q =>
          rw [hu] at h
          simp only at h
          split at h
          · injection h with h; subst h
            obtain ⟨p, hp, _⟩ := escR_suf _ u q (Nat.le_refl _) hu
            exact ⟨c :: p, by rw [hp]; rfl, by simp⟩
          · cases h
      · cases h
/-- What was written is read, whatever stands behind it that is no letter. -/
theorem nameR_back (l r : List UInt8) (h : ∀ c, r.head? = some c → plainB c = false) : nameR (nameT l ++ r) = some (l, r) := by
  unfold nameT
  by_cases hb : bareB l = true
  · rw [if_pos hb]
    have hb2 := hb
    unfold bareB at hb2
    rw [Bool.and_eq_true] at hb2
    have hn := bareN_app l r hb2.2 h
    have hl : 0 < l.length := by
      cases l with
      | nil => cases hb2.1
      | cons => simp
    unfold nameR
    rw [hn, if_pos hl, List.take_left, List.drop_left]
  · rw [if_neg hb, List.cons_append, List.append_assoc]
    have h0 : bareN (60 :: (l.flatMap esc ++ ([62] ++ r))) = 0 := by
      unfold bareN; rw [List.takeWhile_cons]; rfl
    unfold nameR
    rw [h0, if_neg (by omega)]
    simp only [if_true]
    have : l.flatMap esc ++ ([62] ++ r) = l.flatMap esc ++ 62 :: r := rfl
    rw [this, escR_flat]
    simp only
    rw [if_pos]
    unfold nameT
    rw [if_neg hb, List.cons_append, List.append_assoc]
    rfl
end Go.PN
