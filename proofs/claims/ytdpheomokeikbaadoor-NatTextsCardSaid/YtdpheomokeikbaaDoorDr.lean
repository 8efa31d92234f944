/- Plain facts for the document's TextNat: how many digits there can be, the digits from below cut and turned round. No condition. -/
import Derived.Test.YtdpheomokeikbaaDoorDq
namespace Go.NT
open Go.Lib

theorem leV_nonneg (l : List UInt8) (h : ∀ d ∈ l, dig d) : 0 ≤ leV l := by
  rw [← dval_reverse]
  exact dval_nonneg _ (fun d hd => h d (List.mem_reverse.1 hd))
theorem pow_le_pow10 (n : Nat) : (4294967296 : Int) ^ n ≤ 10 ^ (10 * n) := by
  induction n with
  | zero => simp
  | succ n ih =>
    have h1 : (0 : Int) ≤ 4294967296 ^ n := Int.le_of_lt (Int.pow_pos (by decide))
    rw [Int.pow_succ, Nat.mul_add, Int.pow_add]
    exact Int.mul_le_mul ih (by decide) (by decide) (Int.le_of_lt (Int.pow_pos (by decide)))
theorem pow10_mono {a b : Nat} (h : a ≤ b) : (10 : Int) ^ a ≤ 10 ^ b := by
  obtain ⟨k, rfl⟩ := Nat.le.dest h
  rw [Int.pow_add]
  have h1 : (0 : Int) < 10 ^ a := Int.pow_pos (by decide)
  have h2 : (0 : Int) < 10 ^ k := Int.pow_pos (by decide)
  have := Int.mul_le_mul_of_nonneg_left (show (1 : Int) ≤ 10 ^ k by omega) (Int.le_of_lt h1)
  rwa [Int.mul_one] at this
/-- While something is left there are fewer digits than ten for each of the number's own. -/
theorem len_bound {ds : List UInt8} {q v : Int} {n : Nat} (hd : ∀ d ∈ ds, dig d) (hq : 1 ≤ q) (h : leV ds + 10 ^ ds.length * q = v) (hv : v < 4294967296 ^ n) : ds.length < 10 * n := by
  by_cases e : ds.length < 10 * n
  · exact e
  · exfalso
    have h0 := leV_nonneg ds hd
    have h1 := pow_le_pow10 n
    have h2 := pow10_mono (show 10 * n ≤ ds.length by omega)
    have hp : (0 : Int) < 10 ^ ds.length := Int.pow_pos (by decide)
    have h3 := Int.mul_le_mul_of_nonneg_left hq (Int.le_of_lt hp)
    rw [Int.mul_one] at h3
    omega
/-- Digits from below, without noughts at the end, turned round are the number's. -/
theorem decI_reverse {es : List UInt8} {v : Int} (hd : ∀ d ∈ es, dig d) (h : leV es = v) (hv : 1 ≤ v) (hl : es.getLast? ≠ some 48) : decI v = es.reverse := by
  have he : es ≠ [] := fun e => by subst e; simp [leV] at h; omega
  rw [← h, ← dval_reverse]
  refine decI_dval _ (by simpa using he) (fun d hd' => hd d (List.mem_reverse.1 hd')) ?_
  rwa [List.head?_reverse]
/-- The state of a turning round behind k exchanges. -/
def RevInv (ds : List UInt8) (k : Nat) (L : List UInt8) : Prop :=
  L.length = ds.length ∧ ∀ i, i < ds.length → L.getD i 0 = if i < k ∨ ds.length - k ≤ i then ds.getD (ds.length - 1 - i) 0 else ds.getD i 0
theorem RevInv.start (ds : List UInt8) : RevInv ds 0 ds := ⟨rfl, fun i hi => by rw [if_neg (by omega)]⟩
theorem getD_set (L : List UInt8) (j i : Nat) (x : UInt8) (hj : j < L.length) : (L.set j x).getD i 0 = if i = j then x else L.getD i 0 := by
  rw [List.getD_eq_getElem?_getD, List.getElem?_set]
  by_cases e : j = i
  · subst e; simp [hj]
  · rw [if_neg e, if_neg (fun h => e h.symm), List.getD_eq_getElem?_getD]
theorem RevInv.step {ds L : List UInt8} {k : Nat} (h : RevInv ds k L) (hk : 2 * k + 1 < ds.length) :
    L.getD k 0 = ds.getD k 0 ∧ L.getD (ds.length - 1 - k) 0 = ds.getD (ds.length - 1 - k) 0 ∧ RevInv ds (k + 1) ((L.set k (L.getD (ds.length - 1 - k) 0)).set (ds.length - 1 - k) (L.getD k 0)) := by
  obtain ⟨h1, h2⟩ := h
  have a1 : L.getD k 0 = ds.getD k 0 := by rw [h2 k (by omega), if_neg (by omega)]
  have a2 : L.getD (ds.length - 1 - k) 0 = ds.getD (ds.length - 1 - k) 0 := by rw [h2 _ (by omega), if_neg (by omega)]
  refine ⟨a1, a2, by simp [h1], fun i hi => ?_⟩
  rw [getD_set _ _ _ _ (by simp; omega), getD_set _ _ _ _ (by omega)]
  by_cases e1 : i = ds.length - 1 - k
  · rw [if_pos e1, if_pos (by omega), a1, e1]
    congr 1
    omega
  · rw [if_neg e1]
    by_cases e2 : i = k
    · rw [if_pos e2, if_pos (by omega), a2, e2]
    · rw [if_neg e2, h2 i hi]
      by_cases e3 : i < k ∨ ds.length - k ≤ i
      · rw [if_pos e3, if_pos (by omega)]
      · rw [if_neg e3, if_neg (by omega)]
theorem RevInv.done {ds L : List UInt8} {k : Nat} (h : RevInv ds k L) (hk : ds.length ≤ 2 * k + 1) (hk2 : k ≤ ds.length) : L = ds.reverse := by
  obtain ⟨h1, h2⟩ := h
  apply List.ext_getElem (by simp [h1])
  intro i hi1 hi2
  have hi : i < ds.length := by omega
  have a := h2 i hi
  rw [List.getD_eq_getElem?_getD, List.getElem?_eq_getElem hi1, Option.getD_some] at a
  rw [a, List.getElem_reverse]
  by_cases e : i < k ∨ ds.length - k ≤ i
  · rw [if_pos e, List.getD_eq_getElem?_getD, List.getElem?_eq_getElem (by omega), Option.getD_some]
  · rw [if_neg e, List.getD_eq_getElem?_getD, List.getElem?_eq_getElem hi, Option.getD_some]
    congr 1
    omega
end Go.NT
