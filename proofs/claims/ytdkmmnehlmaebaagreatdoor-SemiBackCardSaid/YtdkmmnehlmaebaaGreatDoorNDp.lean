/- Decimal digits read: what they are worth, and that a number's digits are read as it. No condition. -/
import Derived.Test.YtdkmmnehlmaebaaGreatDoorNTx
namespace Go.NT
open Go.Lib

def dig (d : UInt8) : Prop := 48 ≤ d.toNat ∧ d.toNat ≤ 57
def dval (l : List UInt8) : Int := l.foldl (fun a d => a * 10 + ((d.toNat : Int) - 48)) 0
theorem dval_snoc (l : List UInt8) (d : UInt8) : dval (l ++ [d]) = dval l * 10 + ((d.toNat : Int) - 48) := by
  unfold dval; rw [List.foldl_append]; rfl
theorem dval_take (l : List UInt8) (k : Nat) (h : k < l.length) : dval (l.take (k + 1)) = dval (l.take k) * 10 + (((l[k]'h).toNat : Int) - 48) := by
  rw [List.take_succ_eq_append_getElem h, dval_snoc]
theorem snoc_ind {P : List UInt8 → Prop} (h0 : P []) (h1 : ∀ l d, P l → P (l ++ [d])) (l : List UInt8) : P l := by
  have : ∀ (m : List UInt8), P m.reverse := by
    intro m
    induction m with
    | nil => exact h0
    | cons x t ih => rw [List.reverse_cons]; exact h1 _ _ ih
  have := this l.reverse
  rwa [List.reverse_reverse] at this
theorem dval_nonneg (l : List UInt8) : (∀ d ∈ l, dig d) → 0 ≤ dval l := by
  induction l using snoc_ind with
  | h0 => intro _; exact Int.le_refl 0
  | h1 l d ih =>
    intro h
    have := ih (fun x hx => h x (by simp [hx]))
    have hd := (h d (by simp)).1
    rw [dval_snoc]; omega
theorem dval_pos (l : List UInt8) : l ≠ [] → (∀ d ∈ l, dig d) → l.head? ≠ some 48 → 1 ≤ dval l := by
  induction l using snoc_ind with
  | h0 => intro h; exact absurd rfl h
  | h1 l d ih =>
    intro _ h hh
    have hd := h d (by simp)
    rw [dval_snoc]
    by_cases e : l = []
    · subst e
      have : d ≠ 48 := fun e => hh (by rw [e]; rfl)
      have h2 : d.toNat ≠ 48 := fun e => this (UInt8.toNat_inj.1 e)
      show 1 ≤ 0 * 10 + ((d.toNat : Int) - 48)
      have := hd.1
      omega
    · have := ih e (fun x hx => h x (by simp [hx])) (by
        cases l with
        | nil => exact absurd rfl e
        | cons x t => simpa using hh)
      have := hd.1
      omega
theorem ofNat_dig (d : UInt8) {m : Nat} (h : 48 + m = d.toNat) : UInt8.ofNat (48 + m) = d := by
  rw [h]; exact UInt8.ofNat_toNat
theorem decI_dval (l : List UInt8) : l ≠ [] → (∀ d ∈ l, dig d) → l.head? ≠ some 48 → decI (dval l) = l := by
  induction l using snoc_ind with
  | h0 => intro h; exact absurd rfl h
  | h1 l d ih =>
    intro _ h hh
    have hd := h d (by simp)
    by_cases e : l = []
    · subst e
      show decDigits (0 * 10 + ((d.toNat : Int) - 48)).toNat = [d]
      rw [decDigits_one (by have := hd.1; have := hd.2; omega), ofNat_dig d (by have := hd.1; omega)]
    · have hh' : l.head? ≠ some 48 := by
        cases l with
        | nil => exact absurd rfl e
        | cons x t => simpa using hh
      have hp := dval_pos l e (fun x hx => h x (by simp [hx])) hh'
      have hi := ih e (fun x hx => h x (by simp [hx])) hh'
      rw [dval_snoc]
      unfold decI at hi ⊢
      have h1 := hd.1
      have h2 := hd.2
      rw [dec_big (by omega), show (dval l * 10 + ((d.toNat : Int) - 48)).toNat / 10 = (dval l).toNat by omega, hi, ofNat_dig d (by omega)]
theorem dval_cons0 (l : List UInt8) : dval (48 :: l) = dval l := rfl
theorem dec_dig (u : Nat) : ∀ d ∈ decDigits u, dig d := by
  induction u using Nat.strongRecOn with
  | _ u ih =>
    by_cases h : u < 10
    · rw [decDigits_one h]
      intro d hd
      simp only [List.mem_singleton] at hd
      subst hd
      unfold dig
      rw [UInt8.toNat_ofNat']
      omega
    · rw [dec_big h]
      intro d hd
      rcases List.mem_append.1 hd with h1 | h1
      · exact ih (u / 10) (by omega) d h1
      · simp only [List.mem_singleton] at h1
        subst h1
        unfold dig
        rw [UInt8.toNat_ofNat']
        omega
theorem dval_dec (u : Nat) : dval (decDigits u) = u := by
  induction u using Nat.strongRecOn with
  | _ u ih =>
    by_cases h : u < 10
    · rw [decDigits_one h]
      show 0 * 10 + (((UInt8.ofNat (48 + u)).toNat : Int) - 48) = u
      rw [UInt8.toNat_ofNat']
      omega
    · rw [dec_big h, dval_snoc, ih (u / 10) (by omega), UInt8.toNat_ofNat']
      omega
end Go.NT
