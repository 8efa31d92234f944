/- Plain facts about the text of a double: an odd number, a 'b', a power of two; unlike doubles have unlike texts. No condition. -/
import Derived.Test.YtdkmmnehlmaebaaDoorFT
import Derived.Lib.TrailingZeros
import Derived.Lib.ItoaNum
import Derived.Lib.ParseIntBCases
import Derived.Lib.IndexMore
import Derived.Lib.IndexLaws
namespace Go.FX
open Go.FT Go.Lib

theorem ctz_of : ∀ (f k q : Nat), k < f → ctzFrom f (2 ^ k * (2 * q + 1)) = k
  | 0, k, q, h => by omega
  | f + 1, 0, q, _ => by
    rw [ctzFrom, if_pos (by rw [Nat.pow_zero]; omega)]
  | f + 1, k + 1, q, h => by
    have e : 2 ^ (k + 1) * (2 * q + 1) = 2 * (2 ^ k * (2 * q + 1)) := by rw [Nat.pow_succ, Nat.mul_comm (2 ^ k) 2, Nat.mul_assoc]
    rw [ctzFrom, e, if_neg (by omega), Nat.mul_div_cancel_left _ (by decide), ctz_of f k q (by omega)]
    omega
def tz (m : Nat) : Nat := ctz 64 m
def od (m : Nat) : Nat := m / 2 ^ tz m
theorem tz_spec {m : Nat} (h0 : 0 < m) (h : m < 2 ^ 64) : m = od m * 2 ^ tz m ∧ od m % 2 = 1 ∧ tz m < 64 := by
  obtain ⟨q, hq, hk⟩ := ctzFrom_spec 64 m h0 h
  have e : tz m = ctzFrom 64 m := by unfold tz ctz; rw [if_neg (by omega)]
  have ho : od m = 2 * q + 1 := by
    unfold od; rw [e]
    have hp : 0 < 2 ^ ctzFrom 64 m := Nat.two_pow_pos _
    calc m / 2 ^ ctzFrom 64 m = (2 ^ ctzFrom 64 m * (2 * q + 1)) / 2 ^ ctzFrom 64 m := by rw [← hq]
      _ = 2 * q + 1 := Nat.mul_div_cancel_left _ hp
  refine ⟨?_, by rw [ho]; omega, by rw [e]; exact hk⟩
  rw [ho, e, Nat.mul_comm]; exact hq
theorem tz_of {m k o : Nat} (h : m < 2 ^ 64) (ho : o % 2 = 1) (e : m = o * 2 ^ k) : tz m = k ∧ od m = o := by
  have hk : k < 64 := by
    apply Nat.lt_of_not_le
    intro hle
    have h1 : 2 ^ 64 ≤ 2 ^ k := Nat.pow_le_pow_right (by decide) hle
    have h2 : 2 ^ k ≤ o * 2 ^ k := Nat.le_mul_of_pos_left _ (by omega)
    omega
  have hp : 0 < 2 ^ k := Nat.two_pow_pos k
  have hm : m ≠ 0 := by
    rw [e]; exact Nat.mul_ne_zero (by omega) (by omega)
  have ht : tz m = k := by
    unfold tz ctz
    rw [if_neg hm, e, Nat.mul_comm, show o = 2 * (o / 2) + 1 by omega]
    exact ctz_of 64 k (o / 2) hk
  refine ⟨ht, ?_⟩
  unfold od; rw [ht, e, Nat.mul_div_cancel _ hp]
theorem tz_half {m : Nat} (h0 : 0 < m) (h : m < 2 ^ 64) (he : m % 2 = 0) : tz m = tz (m / 2) + 1 ∧ od m = od (m / 2) := by
  obtain ⟨e, ho, _⟩ := tz_spec (m := m / 2) (by omega) (by omega)
  refine tz_of h ho ?_
  rw [Nat.pow_succ, ← Nat.mul_assoc, ← e]
  omega
theorem tz_odd {m : Nat} (h : m < 2 ^ 64) (he : m % 2 = 1) : tz m = 0 ∧ od m = m := tz_of h he (by simp)

/-- The odd number and the power of two of a rung. -/
def oe (r : Nat) : Nat × Int := if r = 0 then (0, 0) else (od (mag r), (ex r : Int) + tz (mag r) - 1074)
theorem ex_le {r : Nat} (h : r < INF) : ex r ≤ 2045 := by
  unfold ex; unfold INF at h; unfold B; split <;> omega
theorem oe_zero : oe 0 = (0, 0) := by unfold oe; rw [if_pos rfl]
theorem oe_pos {r : Nat} (h : r ≠ 0) : oe r = (od (mag r), (ex r : Int) + tz (mag r) - 1074) := by unfold oe; rw [if_neg h]
theorem oe_val {r : Nat} (h0 : r ≠ 0) (k : Nat) (hk : k = tz (mag r) + ex r) : V r = od (mag r) * 2 ^ k := by
  have hm := mag_lt r
  have hp := mag_pos (r := r) (by omega)
  obtain ⟨e, ho, ht⟩ := tz_spec hp (by unfold B at hm; omega)
  rw [hk, Nat.pow_add, ← Nat.mul_assoc, ← e]; rfl
theorem oe_spec {r : Nat} (h : r < INF) : V r = (oe r).1 * 2 ^ ((oe r).2 + 1074).toNat ∧ -1074 ≤ (oe r).2 ∧ (oe r).2 ≤ 1034 ∧ (oe r).1 < 2 * B := by
  by_cases h0 : r = 0
  · subst h0
    have h1 : (oe 0).1 = 0 := by rw [oe_zero]
    have h2 : (oe 0).2 = 0 := by rw [oe_zero]
    refine ⟨?_, by omega, by omega, by rw [h1]; decide⟩
    rw [h1, Nat.zero_mul]; exact V_zero
  · have h1 : (oe r).1 = od (mag r) := by rw [oe_pos h0]
    have h2 : (oe r).2 = (ex r : Int) + tz (mag r) - 1074 := by rw [oe_pos h0]
    have hm := mag_lt r
    have hp := mag_pos (r := r) (by omega)
    obtain ⟨e, ho, ht⟩ := tz_spec hp (by unfold B at hm; omega)
    have hx := ex_le h
    refine ⟨?_, by omega, by omega, ?_⟩
    · rw [h1]; exact oe_val h0 _ (by omega)
    · rw [h1]; exact Nat.lt_of_le_of_lt (Nat.div_le_self _ _) hm

/-- The text of a rung, and of a double. -/
def body (r : Nat) : List UInt8 := if r = INF then [105, 110, 102] else decDigits (oe r).1 ++ 98 :: itoa (oe r).2
def isN (b : Nat) : Bool := decide (INF < b % SGN)
def ng (b : Nat) : Bool := decide (SGN ≤ b)
def T (b : Nat) : List UInt8 := if isN b then [110, 97, 110] else (if ng b then [45] else []) ++ body (b % SGN)
def can (b : Nat) : Nat := if isN b then NAN else b

/-! decimal digits, read -/
def isD (d : UInt8) : Prop := 48 ≤ d.toNat ∧ d.toNat ≤ 57
theorem dec_isD (u : Nat) : ∀ d ∈ decDigits u, isD d := by
  induction u using Nat.strongRecOn with
  | _ u ih =>
    rw [decDigits]
    split
    · intro d hd
      simp only [List.mem_singleton] at hd
      subst hd; unfold isD; rw [UInt8.toNat_ofNat']; omega
    · intro d hd
      rcases List.mem_append.1 hd with h1 | h1
      · exact ih (u / 10) (by omega) d h1
      · simp only [List.mem_singleton] at h1
        subst h1; unfold isD; rw [UInt8.toNat_ofNat']; omega
theorem dec_ne (u : Nat) : decDigits u ≠ [] := by
  rw [decDigits]; split <;> simp
theorem pu_app : ∀ (l : List UInt8) (acc a : Nat) (r : List UInt8), parseUint10 acc l = .ok a → parseUint10 acc (l ++ r) = parseUint10 a r
  | [], acc, a, r, h => by
    simp only [parseUint10] at h; injection h with h; subst h; rfl
  | c :: l, acc, a, r, h => by
    simp only [parseUint10, List.cons_append] at h ⊢
    split at h
    · rename_i hc
      rw [if_pos hc]
      split at h
      · cases h
      · rename_i h1
        rw [if_neg h1]
        split at h
        · cases h
        · rename_i h2
          rw [if_neg h2]
          exact pu_app l _ a r h
    · cases h
theorem pu_dec (u : Nat) : u < 18446744073709551616 → parseUint10 0 (decDigits u) = .ok u := by
  induction u using Nat.strongRecOn with
  | _ u ih =>
    intro hu
    rw [decDigits]
    split
    · rename_i h
      simp only [parseUint10]
      rw [UInt8.toNat_ofNat']
      rw [if_pos (by omega), if_neg (by omega), if_neg (by omega)]
      congr 1; omega
    · rename_i h
      rw [pu_app _ 0 (u / 10) _ (ih (u / 10) (by omega) (by omega))]
      simp only [parseUint10]
      rw [UInt8.toNat_ofNat']
      rw [if_pos (by omega), if_neg (by omega), if_neg (by omega)]
      congr 1; omega
theorem mag_dec {u : Nat} (h : u < 18446744073709551616) : parseMag (decDigits u) = .ok u := by
  unfold parseMag; rw [if_neg (dec_ne u)]; exact pu_dec u h
theorem uint_dec {u : Nat} (h : u < 18446744073709551616) : parseUintB 64 (decDigits u) = .ok u := by rw [parseUintB_64]; exact mag_dec h
theorem dec_cons (u : Nat) : ∃ c r, decDigits u = c :: r ∧ isD c := by
  cases h : decDigits u with
  | nil => exact absurd h (dec_ne u)
  | cons c r => exact ⟨c, r, rfl, dec_isD u c (by rw [h]; simp)⟩
theorem atoi_itoa {e : Int} (h : -9223372036854775808 ≤ e) (h2 : e ≤ 9223372036854775807) : atoiAll (itoa e) = .ok e := by
  unfold itoa
  split
  · rename_i h0
    rw [atoiAll_minus, mag_dec (u := e.natAbs) (by omega)]
    unfold signed
    simp only
    rw [if_neg (by omega)]
    congr 1; omega
  · obtain ⟨c, r, hc, hd⟩ := dec_cons e.toNat
    unfold isD at hd
    rw [hc, atoiAll_plain c r (by omega) (by omega), ← hc, mag_dec (by omega)]
    unfold signless
    simp only
    rw [if_neg (by omega)]
    congr 1; omega
theorem itoa_chars (e : Int) : ∀ d ∈ itoa e, d.toNat = 45 ∨ isD d := by
  unfold itoa
  split
  · intro d hd
    rcases List.mem_cons.1 hd with rfl | h
    · left; rfl
    · right; exact dec_isD _ d h
  · intro d hd; right; exact dec_isD _ d hd
theorem dec_inj {a b : Nat} (h : decDigits a = decDigits b) (ha : a < 18446744073709551616) (hb : b < 18446744073709551616) : a = b := by
  have h1 := pu_dec a ha
  rw [h, pu_dec b hb] at h1
  injection h1 with h1; exact h1.symm
theorem itoa_inj {a b : Int} (h : itoa a = itoa b) (ha : -9223372036854775808 ≤ a ∧ a ≤ 9223372036854775807) (hb : -9223372036854775808 ≤ b ∧ b ≤ 9223372036854775807) : a = b := by
  have h1 := atoi_itoa ha.1 ha.2
  rw [h, atoi_itoa hb.1 hb.2] at h1
  injection h1 with h1; exact h1.symm

/-! what stands ahead of the first 'b' -/
theorem split_inj : ∀ {xs ys us vs : List UInt8}, (∀ d ∈ xs, d ≠ 98) → (∀ d ∈ us, d ≠ 98) → xs ++ 98 :: ys = us ++ 98 :: vs → xs = us ∧ ys = vs
  | [], ys, [], vs, _, _, h => by simpa using h
  | [], ys, u :: us, vs, _, h2, h => by
    simp only [List.nil_append, List.cons_append, List.cons.injEq] at h
    exact absurd h.1.symm (h2 u (by simp))
  | x :: xs, ys, [], vs, h1, _, h => by
    simp only [List.nil_append, List.cons_append, List.cons.injEq] at h
    exact absurd h.1 (h1 x (by simp))
  | x :: xs, ys, u :: us, vs, h1, h2, h => by
    simp only [List.cons_append, List.cons.injEq] at h
    obtain ⟨e1, e2⟩ := split_inj (xs := xs) (us := us) (fun d hd => h1 d (by simp [hd])) (fun d hd => h2 d (by simp [hd])) h.2
    exact ⟨by rw [h.1, e1], e2⟩
theorem isD_ne98 {d : UInt8} (h : isD d) : d ≠ 98 := by
  intro e; subst e; unfold isD at h
  rw [show (98 : UInt8).toNat = 98 from rfl] at h; omega
theorem dec_ne98 (u : Nat) : ∀ d ∈ decDigits u, d ≠ 98 := fun d hd => isD_ne98 (dec_isD u d hd)
theorem index_b (xs ys : List UInt8) (h : ∀ d ∈ xs, d ≠ 98) : index (xs ++ 98 :: ys) [98] = xs.length := by
  refine index_first (by simp) (by simp [occAt]) (fun j hj => ?_)
  rw [Bool.eq_false_iff]
  intro ho
  have h1 := occAt_head (c := 98) (t := []) rfl ho
  rw [List.getElem?_append_left hj, List.getElem?_eq_getElem hj] at h1
  injection h1 with h1
  exact h _ (List.getElem_mem hj) h1
theorem cut_b (xs ys : List UInt8) (h : ∀ d ∈ xs, d ≠ 98) : cut (xs ++ 98 :: ys) [98] = (xs, ys, true) := by
  have hi := index_b xs ys h
  unfold cut
  rw [hi, if_pos (by omega)]
  simp

theorem body_head {r : Nat} : ∃ c t, body r = c :: t ∧ c ≠ 45 ∧ c ≠ 110 := by
  unfold body
  split
  · exact ⟨105, [110, 102], rfl, by decide, by decide⟩
  · obtain ⟨c, t, hc, hd⟩ := dec_cons (oe r).1
    refine ⟨c, t ++ 98 :: itoa (oe r).2, by rw [hc]; rfl, ?_, ?_⟩ <;> (intro e; subst e; unfold isD at hd)
    · rw [show (45 : UInt8).toNat = 45 from rfl] at hd; omega
    · rw [show (110 : UInt8).toNat = 110 from rfl] at hd; omega
theorem V_eq_oe {r s : Nat} (hr : r < INF) (hs : s < INF) (h : oe r = oe s) : r = s := by
  apply V_inj
  rw [(oe_spec hr).1, (oe_spec hs).1, h]
theorem body_inj {r s : Nat} (hr : r ≤ INF) (hs : s ≤ INF) (h : body r = body s) : r = s := by
  have key : ∀ t : Nat, body t = [105, 110, 102] → t = INF := by
    intro t ht
    unfold body at ht
    split at ht
    · assumption
    · obtain ⟨c, u, hc, hd⟩ := dec_cons (oe t).1
      rw [hc] at ht
      simp only [List.cons_append, List.cons.injEq] at ht
      unfold isD at hd
      rw [ht.1, show (105 : UInt8).toNat = 105 from rfl] at hd
      omega
  have key2 : body INF = [105, 110, 102] := by unfold body; rw [if_pos rfl]
  by_cases h1 : r = INF
  · subst h1; rw [key2] at h; exact (key s h.symm).symm
  · by_cases h2 : s = INF
    · subst h2; rw [key2] at h; exact key r h
    · have hr' : r < INF := by omega
      have hs' : s < INF := by omega
      unfold body at h
      rw [if_neg h1, if_neg h2] at h
      obtain ⟨e1, e2⟩ := split_inj (dec_ne98 _) (dec_ne98 _) h
      obtain ⟨_, a1, a2, a3⟩ := oe_spec hr'
      obtain ⟨_, b1, b2, b3⟩ := oe_spec hs'
      have f1 := dec_inj e1 (by unfold B at a3; omega) (by unfold B at b3; omega)
      have f2 := itoa_inj e2 (by omega) (by omega)
      exact V_eq_oe hr' hs' (Prod.ext f1 f2)
theorem T_inj {a b : Nat} (ha : a < W64) (hb : b < W64) (h : T a = T b) : can a = can b := by
  have key : ∀ c : Nat, T c = [110, 97, 110] → isN c = true := by
    intro c hc
    unfold T at hc
    split at hc
    · assumption
    · obtain ⟨d, t, hd, h1, h2⟩ := body_head (r := c % SGN)
      rw [hd] at hc
      split at hc
      · simp only [List.cons_append, List.cons.injEq] at hc
        exact absurd hc.1 (by decide)
      · simp only [List.nil_append, List.cons.injEq] at hc
        exact absurd hc.1 h2
  by_cases h1 : isN a = true
  · have e : T a = [110, 97, 110] := by unfold T; rw [if_pos h1]
    rw [e] at h
    unfold can
    rw [if_pos h1, if_pos (key b h.symm)]
  · by_cases h2 : isN b = true
    · have e : T b = [110, 97, 110] := by unfold T; rw [if_pos h2]
      rw [e] at h
      exact absurd (key a h) h1
    · unfold can
      rw [if_neg h1, if_neg h2]
      unfold T at h
      rw [if_neg h1, if_neg h2] at h
      obtain ⟨d, t, hd, g1, g2⟩ := body_head (r := a % SGN)
      obtain ⟨d', t', hd', g1', g2'⟩ := body_head (r := b % SGN)
      unfold isN at h1 h2
      simp only [decide_eq_true_eq] at h1 h2
      have hng : ng a = ng b := by
        cases p : ng a <;> cases q : ng b
        · rfl
        · rw [p, q, hd, hd'] at h
          simp only [Bool.false_eq_true, if_false, if_true, List.nil_append, List.cons_append, List.cons.injEq] at h
          exact absurd h.1 g1
        · rw [p, q, hd, hd'] at h
          simp only [Bool.false_eq_true, if_false, if_true, List.nil_append, List.cons_append, List.cons.injEq] at h
          exact absurd h.1.symm g1'
        · rfl
      rw [hng] at h
      have hb2 := body_inj (by omega) (by omega) (List.append_cancel_left h)
      unfold ng at hng
      unfold W64 at ha hb
      have hq : (SGN ≤ a) ↔ (SGN ≤ b) := by
        constructor <;> intro hx
        · rw [decide_eq_true hx] at hng; exact of_decide_eq_true hng.symm
        · rw [decide_eq_true hx] at hng; exact of_decide_eq_true hng
      unfold SGN at *
      omega
end Go.FX
