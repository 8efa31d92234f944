/- The walks of the document's 'May' and 'MayValue'. Conditions: the values can be read. -/
import Derived.Test.YtdkmmnehlmaebaaDoorSm
namespace Go.Proofs.YtdkmmnehlmaebaaDoor.Na
open Go.RowKit Go.NT Go.Lib

set_option maxHeartbeats 1000000 in
theorem rmay_any (b : Bool) (A : Option Addr) (n c : Nat) (xs : List Int) (w : World) (h : NV w A n c xs) :
    Calls Tryd.prog 48 #[.agg #[.bool b, .slice A n c]] w fun e w' => e = .returned (.bool (if b then ((n : Int) == 0) else (((strip xs).length : Int) == (n : Int)))) ∧ Below w.heap.size w w' := by
  obtain ⟨h1, h2, h3, h4⟩ := h
  have hl := h1.len
  cases b with
  | true =>
    clear hl
    go_enter Tryd.func48, Tryd.ntmps48
    go_wp2_with fail
    go_ret
    exact ⟨rfl, below_al (Below.refl _ _) _⟩
  | false =>
    by_cases hn : n = 0
    · subst hn
      obtain rfl : xs = [] := List.eq_nil_of_length_eq_zero hl
      clear hl h1
      go_enter Tryd.func48, Tryd.ntmps48
      go_wp2_with fail
      go_ret
      exact ⟨rfl, below_al (Below.refl _ _) _⟩
    · obtain ⟨ad, rfl, hb, hcell⟩ := (h1.alloc (Nat.le_refl _) (.cells #[.bool false, .slice A n c] 24)).get (show n - 1 < n by omega)
      have hz := strip_take_z (xs := xs) (m := n) (by omega) (by omega)
      have hnz := strip_take_nz (xs := xs) (m := n) (by omega) (by omega)
      rw [List.take_of_length_le (by omega)] at hz hnz
      have h0 : 0 < n := by omega
      have hn0 : ((n : Int) == 0) = false := by simpa using hn
      have hq : ((xs.getD (n - 1) 0 == 0) = true ∧ (((strip xs).length : Int) == (n : Int)) = false) ∨ ((xs.getD (n - 1) 0 == 0) = false ∧ (((strip xs).length : Int) == (n : Int)) = true) := by
        by_cases e : xs.getD (n - 1) 0 = 0
        · left
          have := (strip_take (xs.take (n - 1))).2
          have h5 := hz e
          rw [List.length_take] at this
          refine ⟨by simpa using e, ?_⟩
          rw [h5]
          simp only [beq_eq_false_iff_ne, ne_eq]
          omega
        · right
          refine ⟨by simpa using e, ?_⟩
          rw [hnz e, hl]; simp
      have HQ := Lib.hid hq
      clear hq hz hnz hl hn
      generalize xs.getD (n - 1) 0 = x at *
      go_enter Tryd.func48, Tryd.ntmps48
      rcases HQ.out with ⟨q1, q2⟩ | ⟨q1, q2⟩
      all_goals
        have Q2 := Lib.hid q2
        clear q2 HQ
        go_wp2_with fail
        go_ret
        exact ⟨by show Ending.returned (.bool (!(x == 0))) = Ending.returned (.bool (((strip xs).length : Int) == (n : Int))); rw [Q2.out, q1]; rfl, below_al (Below.refl _ _) _⟩
end Go.Proofs.YtdkmmnehlmaebaaDoor.Na
