/- Decimal digits, nine at a time. No condition. -/
import Derived.Test.YtdkmmnehlmaebaaDoorNNV
import Derived.Lib.ItoaNum
import Derived.Lib.Repeat
import Derived.Lib.Join
namespace Go.NT
open Go.Lib

theorem dec_big {u : Nat} (h : ¬ u < 10) : decDigits u = decDigits (u / 10) ++ [UInt8.ofNat (48 + u % 10)] := by rw [decDigits, dif_neg h]
/-- r written in k digits. -/
def pad (k r : Nat) : List UInt8 := List.replicate (k - nDigits r) 48 ++ decDigits r
theorem nDigits_le {k r : Nat} (hk : 1 ≤ k) (h : r < 10 ^ k) : nDigits r ≤ k := by
  induction k generalizing r with
  | zero => omega
  | succ k ih =>
    by_cases hr : r < 10
    · rw [nDigits_small hr]; omega
    · rw [nDigits_big hr]
      by_cases hk0 : k = 0
      · subst hk0; exact absurd h (by simpa using hr)
      · have : r / 10 < 10 ^ k := by rw [Nat.div_lt_iff_lt_mul (by omega)]; rw [Nat.pow_succ] at h; exact h
        have := ih (by omega) this
        omega
theorem pad_succ {k r : Nat} (hk : 1 ≤ k) (h : r < 10 ^ (k + 1)) : pad (k + 1) r = pad k (r / 10) ++ [UInt8.ofNat (48 + r % 10)] := by
  unfold pad
  by_cases hr : r < 10
  · rw [nDigits_small hr, decDigits_one hr, Nat.div_eq_of_lt hr, nDigits_small (by omega : 0 < 10), decDigits_one (by omega : 0 < 10), Nat.mod_eq_of_lt hr, Nat.add_sub_cancel]
    congr 1
    obtain ⟨j, rfl⟩ : ∃ j, k = j + 1 := ⟨k - 1, by omega⟩
    rw [Nat.add_sub_cancel, List.replicate_succ']; rfl
  · rw [nDigits_big hr, dec_big hr, ← List.append_assoc]
    congr 3
    omega
theorem dec_split : ∀ (k : Nat) {q r : Nat}, 1 ≤ k → 1 ≤ q → r < 10 ^ k → decDigits (q * 10 ^ k + r) = decDigits q ++ pad k r
  | 0, _, _, h, _, _ => by omega
  | 1, q, r, _, hq, hr => by
    have hr : r < 10 := by simpa using hr
    have hb : ¬ (q * 10 ^ 1 + r < 10) := by omega
    rw [dec_big hb]
    have e1 : (q * 10 ^ 1 + r) / 10 = q := by omega
    have e2 : (q * 10 ^ 1 + r) % 10 = r := by omega
    rw [e1, e2]
    congr 1
    unfold pad
    rw [nDigits_small hr, decDigits_one hr]; rfl
  | k + 2, q, r, _, hq, hr => by
    have hp : 1 ≤ 10 ^ (k + 1) := Nat.one_le_pow _ _ (by omega)
    have hm : 10 ^ (k + 1) ≤ q * 10 ^ (k + 1) := Nat.le_mul_of_pos_left _ hq
    have e0 : q * 10 ^ (k + 2) = 10 * (q * 10 ^ (k + 1)) := by rw [Nat.pow_succ 10 (k + 1), ← Nat.mul_assoc, Nat.mul_comm]
    have hb : ¬ (q * 10 ^ (k + 2) + r < 10) := by omega
    have e1 : (q * 10 ^ (k + 2) + r) / 10 = q * 10 ^ (k + 1) + r / 10 := by omega
    have e2 : (q * 10 ^ (k + 2) + r) % 10 = r % 10 := by omega
    have hr' : r / 10 < 10 ^ (k + 1) := by rw [Nat.div_lt_iff_lt_mul (by omega)]; rw [Nat.pow_succ] at hr; exact hr
    rw [dec_big hb, e1, e2, dec_split (k + 1) (by omega) hq hr', List.append_assoc, ← pad_succ (by omega) hr]

/-- The digits of a number that is not below nought. -/
def decI (x : Int) : List UInt8 := decDigits x.toNat
theorem decI_split {q r x : Int} (h : q * 1000000000 + r = x) (h0 : 0 ≤ r) (h1 : r < 1000000000) (hq : 1 ≤ q) : decI x = decI q ++ (List.replicate (9 - nDigits r.toNat) 48 ++ decDigits r.toNat) := by
  subst h
  have e : (q * 1000000000 + r).toNat = q.toNat * 10 ^ 9 + r.toNat := by simp; omega
  unfold decI
  rw [e]
  exact dec_split 9 (by omega) (by omega) (by simp; omega)
theorem nd9 {r : Int} (h1 : r < 1000000000) : nDigits r.toNat ≤ 9 := nDigits_le (by omega) (by simp; omega)

theorem wg : ∀ n : Nat, (W : Int) ^ n ≤ (536870912 : Int) ^ (2 * n)
  | 0 => by simp
  | n + 1 => by
    rw [show 2 * (n + 1) = 2 * n + 1 + 1 by omega, Int.pow_succ, Int.pow_succ, Int.pow_succ, Int.mul_assoc]
    have h := wg n
    have hp : (0 : Int) < W ^ n := Int.pow_pos (by decide)
    exact Int.mul_le_mul h (by decide) (by decide) (by omega)
theorem gmono {a b : Nat} (h : a ≤ b) : (536870912 : Int) ^ a ≤ (536870912 : Int) ^ b := by
  obtain ⟨k, rfl⟩ := Nat.exists_eq_add_of_le h
  rw [Int.pow_add]
  have h1 : (0 : Int) < (536870912 : Int) ^ a := Int.pow_pos (by decide)
  have h2 : (0 : Int) < (536870912 : Int) ^ k := Int.pow_pos (by decide)
  have := Int.mul_le_mul_of_nonneg_left (show (1 : Int) ≤ (536870912 : Int) ^ k by omega) (Int.le_of_lt h1)
  omega

/-- So far: the pieces ahead, the least first, and the digits that are left. -/
structure TextInv (X : List Int) (P : List (List UInt8)) (Q : List Int) : Prop where
  u : U32 Q
  n : Norm Q
  a : Q ≠ [] ∨ P = [] → decI (val X) = decI (val Q) ++ P.reverse.flatten
  b : Q = [] → P ≠ [] → decI (val X) = P.reverse.flatten
  c : (536870912 : Int) ^ P.length * val Q ≤ val X
  d : Q ≠ [] ∨ P = [] ∨ P.length ≤ 2 * X.length + 1
theorem TextInv.start {X : List Int} (h : U32 X) (hn : Norm X) : TextInv X [] X :=
  ⟨h, hn, fun _ => by simp, fun _ h => absurd rfl h, by simp, .inr (.inl rfl)⟩
theorem val_pos {Q : List Int} (h : U32 Q) (hn : Norm Q) (hq : Q ≠ []) : 1 ≤ val Q := by
  have h0 := val_nonneg h
  rcases Int.lt_or_eq_of_le h0 with h1 | h1
  · omega
  · have := (val_zero_iff h).1 h1.symm
    rw [show strip Q = Q from hn] at this
    exact absurd this hq
theorem TextInv.count {X Q : List Int} {P : List (List UInt8)} (h : TextInv X P Q) (hX : U32 X) (hq : Q ≠ []) : P.length ≤ 2 * X.length := by
  have h1 := val_pos h.u h.n hq
  have h2 := h.c
  have h3 := val_lt hX
  have h4 := wg X.length
  rcases Nat.lt_or_ge (2 * X.length) P.length with hc | hc
  · exfalso
    have h5 : (536870912 : Int) ^ (2 * X.length) ≤ (536870912 : Int) ^ P.length := gmono (by omega)
    have h6 : (536870912 : Int) ^ P.length * 1 ≤ (536870912 : Int) ^ P.length * val Q := Int.mul_le_mul_of_nonneg_left h1 (Int.le_of_lt (Int.pow_pos (by decide)))
    omega
  · exact hc
theorem TextInv.more {X Q Q' : List Int} {P : List (List UInt8)} {r : Int} (h : TextInv X P Q) (hc : Q ≠ [] ∨ P = []) (hu : U32 Q') (hn : Norm Q') (hq : Q' ≠ []) (hv : val Q' * 1000000000 + r = val Q) (h0 : 0 ≤ r) (h1 : r < 1000000000) :
    TextInv X (P ++ [List.replicate (9 - nDigits r.toNat) 48 ++ decDigits r.toNat]) Q' := by
  have hp := val_pos hu hn hq
  refine ⟨hu, hn, fun _ => ?_, fun e => absurd e hq, ?_, .inl hq⟩
  · rw [h.a hc, decI_split hv h0 h1 hp]
    simp
  · rw [List.length_append, List.length_singleton, Int.pow_succ, Int.mul_assoc]
    refine Int.le_trans (Int.mul_le_mul_of_nonneg_left ?_ (Int.le_of_lt (Int.pow_pos (by decide)))) h.c
    omega
theorem TextInv.last {X Q : List Int} {P : List (List UInt8)} {r : Int} (h : TextInv X P Q) (hX : U32 X) (hc : Q ≠ [] ∨ P = []) (hv : (0 : Int) * 1000000000 + r = val Q) :
    TextInv X (P ++ [decDigits r.toNat]) [] := by
  refine ⟨U32.nil, Norm.nil, fun e => ?_, fun _ _ => ?_, ?_, .inr (.inr ?_)⟩
  · rcases e with e | e
    · exact absurd rfl e
    · simp at e
  · rw [h.a hc, ← hv]
    simp [decI]
  · simp only [val, Int.mul_zero]; exact val_nonneg hX
  · rcases hc with hc | hc
    · have := h.count hX hc
      rw [List.length_append, List.length_singleton]; omega
    · subst hc; simp
theorem w10 : ∀ n : Nat, (W : Int) ^ n ≤ ((10 ^ (10 * n) : Nat) : Int)
  | 0 => by simp
  | n + 1 => by
    rw [show 10 * (n + 1) = 10 * n + 10 by omega, Nat.pow_add, Int.natCast_mul, Int.pow_succ]
    have h := w10 n
    have hp : (0 : Int) < W ^ n := Int.pow_pos (by decide)
    exact Int.mul_le_mul h (by decide) (by decide) (by omega)
theorem dec_len {X : List Int} (h : U32 X) : (decI (val X)).length ≤ 10 * X.length + 1 := by
  unfold decI
  rw [decDigits_length]
  refine nDigits_le (by omega) ?_
  have h1 := val_lt h
  have h2 := w10 X.length
  have h3 := val_nonneg h
  have h4 : (val X).toNat < 10 ^ (10 * X.length) := by omega
  rw [Nat.pow_succ]
  omega
theorem join_flat (xs : List (List UInt8)) : Lib.join xs [] = xs.flatten := by
  cases xs with
  | nil => rfl
  | cons x r => rw [join_cons]; simp [joinTail]
end Go.NT
