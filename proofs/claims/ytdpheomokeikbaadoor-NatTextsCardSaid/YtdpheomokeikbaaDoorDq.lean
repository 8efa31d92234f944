/- Digits from below: what they are worth, one piece of nine more; a number divided by a piece from above. No condition. -/
import Derived.Test.YtdpheomokeikbaaDoorDp
namespace Go.NT
open Go.Lib

/-- Digits, the lowest first. -/
def leV : List UInt8 → Int
  | [] => 0
  | d :: t => ((d.toNat : Int) - 48) + 10 * leV t
theorem leV_snoc (l : List UInt8) (d : UInt8) : leV (l ++ [d]) = leV l + 10 ^ l.length * ((d.toNat : Int) - 48) := by
  induction l with
  | nil => simp [leV]
  | cons x t ih =>
    rw [List.cons_append]
    simp only [leV]
    rw [ih, List.length_cons, Int.pow_succ, Int.mul_add, ← Int.mul_assoc, Int.mul_comm 10 (10 ^ t.length)]
    omega
theorem dval_reverse (l : List UInt8) : dval l.reverse = leV l := by
  induction l with
  | nil => rfl
  | cons d t ih => rw [List.reverse_cons, dval_snoc, ih]; simp only [leV]; omega
theorem leV_zero (l : List UInt8) : leV (l ++ [48]) = leV l := by
  rw [leV_snoc]; simp
/-- The state of nine digits written behind k of them: what was written, and what is left of the piece r0. -/
def Nine (ds : List UInt8) (r0 : Int) (k : Nat) (es : List UInt8) (r : Int) : Prop :=
  es.length = ds.length + k ∧ (∀ d ∈ es, dig d) ∧ 0 ≤ r ∧ r * 10 ^ k ≤ r0 ∧ leV es + 10 ^ es.length * r = leV ds + 10 ^ ds.length * r0
theorem Nine.start (ds : List UInt8) (r0 : Int) (h : 0 ≤ r0) (hd : ∀ d ∈ ds, dig d) : Nine ds r0 0 ds r0 := ⟨rfl, hd, h, by simp, rfl⟩
theorem dig_of {r : Int} (_h : 0 ≤ r) : 48 + r % 10 = ((UInt8.ofNat (48 + (r % 10).toNat)).toNat : Int) := by
  rw [UInt8.toNat_ofNat']; omega
theorem Nine.step {ds es : List UInt8} {r0 r : Int} {k : Nat} (h : Nine ds r0 k es r) {d : UInt8} (hd : 48 + r % 10 = (d.toNat : Int)) : Nine ds r0 (k + 1) (es ++ [d]) (r / 10) := by
  obtain ⟨h1, h2, h3, h4, h5⟩ := h
  refine ⟨by simp [h1]; omega, fun x hx => ?_, by omega, ?_, ?_⟩
  · rcases List.mem_append.1 hx with hx | hx
    · exact h2 x hx
    · simp only [List.mem_singleton] at hx
      subst hx
      unfold dig
      omega
  · have hp : (0 : Int) < 10 ^ k := Int.pow_pos (by decide)
    have h6 : r / 10 * 10 ≤ r := by omega
    have h7 := Int.mul_le_mul_of_nonneg_right h6 (Int.le_of_lt hp)
    rw [Int.pow_succ, Int.mul_comm (10 ^ k) 10, ← Int.mul_assoc]
    exact Int.le_trans h7 h4
  · rw [leV_snoc, ← h5, List.length_append, List.length_singleton, Int.pow_succ, Int.mul_assoc]
    have e : r = ((d.toNat : Int) - 48) + 10 * (r / 10) := by omega
    generalize hq : r / 10 = q at *
    rw [e, Int.mul_add]
    omega
theorem Nine.done {ds es : List UInt8} {r0 r : Int} (h : Nine ds r0 9 es r) (h1 : r0 < 1000000000) : leV es = leV ds + 10 ^ ds.length * r0 := by
  obtain ⟨_, _, h3, h4, h5⟩ := h
  have : r = 0 := by omega
  subst this
  simpa using h5
/-- The state of a division by a piece, from above, behind all digits from j on. -/
def DivInv (X : List Int) (j : Nat) (L : List Int) (r : Int) : Prop :=
  L.length = X.length ∧ U32 L ∧ 0 ≤ r ∧ r < 1000000000 ∧ val (L.drop j) * 1000000000 + r = val (X.drop j)
theorem DivInv.start (X : List Int) : DivInv X X.length (List.replicate X.length 0) 0 := by
  refine ⟨by simp, U32.zeros _, by omega, by omega, ?_⟩
  rw [List.drop_eq_nil_of_le (by simp), List.drop_eq_nil_of_le (Nat.le_refl _)]
  rfl
theorem DivInv.step {X L : List Int} {j : Nat} {r : Int} (uX : U32 X) (h : DivInv X (j + 1) L r) (hj : j < X.length) :
    DivInv X j (L.set j ((r * 4294967296 + X.getD j 0) / 1000000000)) ((r * 4294967296 + X.getD j 0) % 1000000000) := by
  obtain ⟨h1, h2, h3, h4, h5⟩ := h
  have hx := uX.getD j
  have hx0 := hx.1
  have hx1 : X.getD j 0 < 4294967296 := hx.2
  have hdx := drop_cons X j hj
  generalize X.getD j 0 = x at *
  have hl : j < L.length := by omega
  have hset : (L.set j ((r * 4294967296 + x) / 1000000000)).drop j = ((r * 4294967296 + x) / 1000000000) :: L.drop (j + 1) := by
    rw [List.drop_set, if_neg (by omega), Nat.sub_self, List.drop_eq_getElem_cons hl, List.set_cons_zero]
  refine ⟨by simp [h1], fun y hy => ?_, by omega, by omega, ?_⟩
  · rcases List.mem_or_eq_of_mem_set hy with hy | hy
    · exact h2 y hy
    · subst hy
      show 0 ≤ _ ∧ _ < (4294967296 : Int)
      omega
  · rw [hset, hdx]
    show (_ + 4294967296 * val (L.drop (j + 1))) * 1000000000 + _ = x + 4294967296 * val (X.drop (j + 1))
    rw [← h5]
    omega
theorem DivInv.done {X L : List Int} {r : Int} (h : DivInv X 0 L r) : val L * 1000000000 + r = val X := by
  have := h.2.2.2.2
  simpa using this
end Go.NT
