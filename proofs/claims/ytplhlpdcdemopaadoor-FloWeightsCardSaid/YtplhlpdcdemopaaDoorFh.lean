/- The walk of the document's small numbers. No condition. -/
import Derived.Test.YtplhlpdcdemopaaDoorFg
namespace Go.Proofs.YtplhlpdcdemopaaDoor
open Go.RowKit Go.FT Go.FX Go.Lib

/-- What digits are worth. -/
def dv (l : List UInt8) : Nat := l.foldl (fun a d => a * 10 + (d.toNat - 48)) 0
theorem dv_snoc (l : List UInt8) (d : UInt8) : dv (l ++ [d]) = dv l * 10 + (d.toNat - 48) := by unfold dv; rw [List.foldl_append]; rfl
theorem dv_dec (u : Nat) : dv (decDigits u) = u := by
  induction u using Nat.strongRecOn with
  | _ u ih =>
    rw [decDigits]
    split
    · show 0 * 10 + ((UInt8.ofNat (48 + u)).toNat - 48) = u
      rw [UInt8.toNat_ofNat']; omega
    · rw [dv_snoc, ih (u / 10) (by omega), UInt8.toNat_ofNat']; omega
/-- The sign, and what stands behind it. -/
def sgn (l : List UInt8) : Bool := l.head? == some 45
def mgn (l : List UInt8) : List UInt8 := if sgn l then l.drop 1 else l
def so (l : List UInt8) : Nat := if sgn l then 1 else 0
/-- How far 'small' is: the digits so far are digits, and worth n. -/
def SmI (l : List UInt8) (i n : Nat) : Prop := n = dv ((mgn l).take (i - so l)) ∧ n < 10 ^ (i - so l) ∧ ∀ d ∈ (mgn l).take (i - so l), isD d
theorem SmI.start (l : List UInt8) : SmI l 0 0 := by
  unfold SmI; rw [Nat.zero_sub]; simp [dv]
theorem so_le (l : List UInt8) : so l ≤ 1 := by unfold so; split <;> omega
theorem SmI.skip {l : List UInt8} {n : Nat} (h : SmI l 0 n) (hs : sgn l = true) : SmI l 1 n := by
  have e : so l = 1 := by unfold so; rw [hs, if_pos rfl]
  unfold SmI at h ⊢
  rw [e] at h ⊢
  exact h
theorem mgn_get {l : List UInt8} {i : Nat} (hi : i < l.length) (hc : so l ≤ i) : (mgn l)[i - so l]? = some l[i] := by
  unfold mgn so at *
  cases h : sgn l
  · rw [h, if_neg Bool.false_ne_true, if_neg Bool.false_ne_true] at *
    rw [Nat.sub_zero, List.getElem?_eq_getElem hi]
  · rw [h, if_pos rfl] at hc
    rw [if_pos rfl, if_pos rfl, List.getElem?_drop, show 1 + (i - 1) = i by omega, List.getElem?_eq_getElem hi]
theorem SmI.step {l : List UInt8} {i n : Nat} (h : SmI l i n) (hi : i < l.length) (hc : so l ≤ i) (hd : isD l[i]) : SmI l (i + 1) (n * 10 + (l[i].toNat - 48)) := by
  obtain ⟨h1, h2, h3⟩ := h
  have hg := mgn_get hi hc
  have hlt : i - so l < (mgn l).length := (List.getElem?_eq_some_iff.1 hg).1
  have hge : (mgn l)[i - so l] = l[i] := (List.getElem?_eq_some_iff.1 hg).2
  have ht : (mgn l).take (i + 1 - so l) = (mgn l).take (i - so l) ++ [l[i]] := by
    rw [show i + 1 - so l = (i - so l) + 1 by omega, List.take_succ_eq_append_getElem hlt, hge]
  unfold isD at hd
  refine ⟨by rw [ht, dv_snoc, ← h1], ?_, ?_⟩
  · rw [show i + 1 - so l = (i - so l) + 1 by omega, Nat.pow_succ]; omega
  · rw [ht]
    intro d hm
    rcases List.mem_append.1 hm with hm | hm
    · exact h3 d hm
    · rw [List.mem_singleton.1 hm]; exact hd
/-- Of a whole number's text. -/
theorem itoa_parts {v : Int} {l : List UInt8} (h : l = itoa v) : sgn l = decide (v < 0) ∧ mgn l = decDigits v.natAbs ∧ (∀ (i : Nat) (hi : i < l.length), so l ≤ i → isD l[i]) := by
  subst h
  have hs : sgn (itoa v) = decide (v < 0) ∧ mgn (itoa v) = decDigits v.natAbs := by
    unfold mgn
    by_cases h0 : v < 0
    · have e : itoa v = 45 :: decDigits v.natAbs := by unfold itoa; rw [if_pos h0]
      have e2 : sgn (itoa v) = true := by rw [e]; rfl
      rw [e2, if_pos rfl, decide_eq_true h0]
      exact ⟨rfl, by rw [e]; rfl⟩
    · have e : itoa v = decDigits v.natAbs := by unfold itoa; rw [if_neg h0]; congr 1; omega
      obtain ⟨c, r, hc, hd⟩ := dec_cons v.natAbs
      have e2 : sgn (itoa v) = false := by
        rw [e, hc]
        unfold sgn
        simp only [List.head?_cons, beq_eq_false_iff_ne, ne_eq, Option.some.injEq]
        intro h1; subst h1; unfold isD at hd
        rw [show (45 : UInt8).toNat = 45 from rfl] at hd; omega
      rw [e2, if_neg Bool.false_ne_true, decide_eq_false h0]
      exact ⟨rfl, e⟩
  refine ⟨hs.1, hs.2, fun i hi hc => ?_⟩
  have hg := mgn_get hi hc
  rw [hs.2] at hg
  exact dec_isD _ _ (List.mem_of_getElem? hg)
theorem mgn_len (l : List UInt8) : (mgn l).length = l.length - so l := by
  unfold mgn so; split <;> simp
theorem SmI.done {l : List UInt8} {n : Nat} (h : SmI l l.length n) {v : Int} (hv : l = itoa v) : (if sgn l then -(n : Int) else n) = v := by
  obtain ⟨h1, _, _⟩ := h
  obtain ⟨a, b, _⟩ := itoa_parts hv
  rw [List.take_of_length_le (by rw [mgn_len]; omega), b, dv_dec] at h1
  rw [a, h1]
  by_cases g : v < 0
  · rw [decide_eq_true g, if_pos rfl]; omega
  · rw [decide_eq_false g, if_neg Bool.false_ne_true]; omega
/-- What 'small' gives. -/
def SmR (S : ByteArray) (most : Nat) (w w' : World) (e : Ending) : Prop := ∃ (n : Int) (ok : Bool), e = .returned (.tuple #[.int .i64 n, .bool ok]) ∧ Sm S.data.toList most n ok ∧ -1000000000000000000 ≤ n ∧ n ≤ 1000000000000000000 ∧ Below w.heap.size w w'
theorem sm_long {l : List UInt8} {most : Nat} (hm : 0 < most) (h : most + 1 < l.length) (n : Int) (ok : Bool) : Sm l most n ok := by
  intro v h1 h2 hv
  exfalso
  have hp : ((10 : Int) ^ most) = ((10 ^ most : Nat) : Int) := by simp
  rw [hp] at h1 h2
  have hd := dec_len (u := v.natAbs) hm (by omega)
  rw [hv] at h
  unfold itoa at h
  split at h
  · rw [List.length_cons] at h; omega
  · rw [show v.toNat = v.natAbs by omega] at h; omega
theorem sm_bad {l : List UInt8} {most : Nat} {i : Nat} (hi : i < l.length) (hc : so l ≤ i) (hd : ¬ isD l[i]) (n : Int) (ok : Bool) : Sm l most n ok := by
  intro v _ _ hv
  exact absurd ((itoa_parts hv).2.2 i hi hc) hd
theorem sm_end {l : List UInt8} {n most : Nat} (h : SmI l l.length n) {z : Int} (hz : (if sgn l then -(n : Int) else n) = z) {ok : Bool} (hok : ok = decide (itoa z = l)) : Sm l most z ok := by
  intro v _ _ hv
  have := h.done hv
  rw [hz] at this
  refine ⟨this, ?_⟩
  rw [hok, this, hv]; simp
end Go.Proofs.YtplhlpdcdemopaaDoor
