/- The document's own OfNat, May; two numbers alike, digit by digit. Conditions: the digits can be read. -/
import Derived.Test.YtdpheomokeikbaaDoorRa
namespace Go.Proofs.YtdpheomokeikbaaDoor
open Go.RowKit Go.NT Go.Lib

set_option maxRecDepth 100000 in
set_option maxHeartbeats 1000000 in
theorem ofnat_any (x : Int) (w : World) (h0 : 0 ≤ x) (h1 : x < 18446744073709551616) :
    Calls Tryd.prog 24 #[.int .u64 x] w fun e w' => ∃ (A : Option Addr) (n c : Nat), e = .returned (.agg #[.bool false, .slice A n c]) ∧ NV w' A n c (ofD x) ∧ Below w.heap.size w w' := by
  have h1' : x ≤ 18446744073709551615 := by omega
  have e1 : x / 4294967296 < 4294967296 := by omega
  have e2 : 0 ≤ x / 4294967296 := by omega
  have HU := of_u32 h0 h1
  clear h1
  have hr2 := fun o => reads2' w o (x % 4294967296) (x / 4294967296) 60
  have hq := hr2 (.cells #[.bool false, .slice none 0 0] 24)
  have hnv : NV ((w.alloc (.cells #[.bool false, .slice none 0 0] 24)).alloc (.cells #[.int .u32 (x % 4294967296), .int .u32 (x / 4294967296)] 60)) (some ⟨w.heap.size + 1, 0, none⟩) 2 2 [x % 4294967296, x / 4294967296] :=
    ⟨hq.more (by simp), Nat.le_refl _, HU, by omega⟩
  clear hr2 hq
  go_enter Tryd.func24, Tryd.ntmps24
  go_wp2_with (go_at_call 38; (with_reducible refine (clean_any false (some ⟨w.heap.size + 1, 0, none⟩) 2 2 [x % 4294967296, x / 4294967296] _ hnv (by omega)).mono ?_); rintro e w' ⟨A, n, c, rfl, hv, hf, hn, hb⟩; have hR : Res w' w.heap.size false (.slice none 0 0) := Res.go (w := (w.alloc (.cells #[.bool false, .slice none 0 0] 24)).alloc (.cells #[.int .u32 (x % 4294967296), .int .u32 (x / 4294967296)] 60)) ⟨by go_simp, by go_simp, by go_simp, by go_simp, by simp; omega⟩ hb (by simp; omega); have g0 := hR.1; have g1 := hR.2.1; have g2 := hR.2.2.1; have g3 := hR.2.2.2.1)
  have hF : Fresh (w.heap.size + 1) A := hf.out.mono (by simp)
  have hbw : Below w.heap.size w w' := below_step (below_al (below_al (Below.refl _ _) _) _) hb (by simp; omega)
  exact bodyPost_ret (v := .agg #[.bool false, .slice A n c]) (by simp [results, Tryd.results24, go_sem, g0, g1]) rfl
    ⟨A, n, c, rfl, NV.set (NV.set hv hF 0 _) hF 1 _, (hbw.setCell (p := ⟨w.heap.size, 0, none⟩) (Nat.le_refl _) _).setCell (p := ⟨w.heap.size, 1, none⟩) (Nat.le_refl _) _⟩

set_option maxHeartbeats 1000000 in
theorem rmay_any (b : Bool) (A : Option Addr) (n c : Nat) (xs : List Int) (w : World) (h : NV w A n c xs) :
    Calls Tryd.prog 23 #[.agg #[.bool b, .slice A n c]] w fun e w' => e = .returned (.bool (if b then ((n : Int) == 0) else (((strip xs).length : Int) == (n : Int)))) ∧ Below w.heap.size w w' := by
  obtain ⟨h1, h2, h3, h4⟩ := h
  have hl := h1.len
  cases b with
  | true =>
    clear hl
    go_enter Tryd.func23, Tryd.ntmps23
    go_wp2_with fail
    go_ret
    exact ⟨rfl, below_al (Below.refl _ _) _⟩
  | false =>
    by_cases hn : n = 0
    · subst hn
      obtain rfl : xs = [] := List.eq_nil_of_length_eq_zero hl
      clear hl h1
      go_enter Tryd.func23, Tryd.ntmps23
      go_wp2_with fail
      go_ret
      exact ⟨rfl, below_al (Below.refl _ _) _⟩
    · obtain ⟨ad, rfl, hb, hcell⟩ := (h1.alloc (Nat.le_refl _) (.cells #[.bool false, .slice A n c] 24)).get (show n - 1 < n by omega)
      have hz := strip_take_z (xs := xs) (m := n) (by omega) (by omega)
      have hnz := strip_take_nz (xs := xs) (m := n) (by omega) (by omega)
      rw [List.take_of_length_le (by omega)] at hz hnz
      have h0 : 0 < n := by omega
      have hn0 : ((n : Int) == 0) = false := by simpa using hn
      have hq : ((xs.getD (n - 1) 0 == 0) = true ∧ (((strip xs).length : Int) == (n : Int)) = false) ∨ ((xs.getD (n - 1) 0 == 0) = false ∧ (((strip xs).length : Int) == (n : Int)) = true) := by
        by_cases e : xs.getD (n - 1) 0 = 0
        · left
          have := (strip_take (xs.take (n - 1))).2
          have h5 := hz e
          rw [List.length_take] at this
          refine ⟨by simpa using e, ?_⟩
          rw [h5]
          simp only [beq_eq_false_iff_ne, ne_eq]
          omega
        · right
          refine ⟨by simpa using e, ?_⟩
          rw [hnz e, hl]; simp
      have HQ := Lib.hid hq
      clear hq hz hnz hl hn
      generalize xs.getD (n - 1) 0 = x at *
      go_enter Tryd.func23, Tryd.ntmps23
      rcases HQ.out with ⟨q1, q2⟩ | ⟨q1, q2⟩
      all_goals
        have Q2 := Lib.hid q2
        clear q2 HQ
        go_wp2_with fail
        go_ret
        exact ⟨by show Ending.returned (.bool (!(x == 0))) = Ending.returned (.bool (((strip xs).length : Int) == (n : Int))); rw [Q2.out, q1]; rfl, below_al (Below.refl _ _) _⟩
end Go.Proofs.YtdpheomokeikbaaDoor
