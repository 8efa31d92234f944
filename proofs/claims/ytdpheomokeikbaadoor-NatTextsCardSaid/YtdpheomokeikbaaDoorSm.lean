/- The walk of small: are numbers looked at? Conditions: the cells of the numbers can be read. -/
import Derived.Test.YtdpheomokeikbaaDoorWd
namespace Go.Proofs.YtdpheomokeikbaaDoor
open Go.RowKit Go.NT Go.Lib

set_option maxRecDepth 100000 in
set_option maxHeartbeats 1000000 in
theorem small_any (g : Nat) (L C : Nat → Nat) (F : Nat → Option Addr) (N c : Nat) (w : World) (hN : N ≤ 4) (hc : N ≤ c)
    (hcell : ∀ i, i < N → w.cell? ⟨g, i * 2 + 1, none⟩ = some (.slice (F i) (L i) (C i))) (hL : ∀ i, L i ≤ 9223372036854775807) :
    Calls Tryd.prog 10 #[.slice (some ⟨g, 0, none⟩) N c] w fun e w' => e = .returned (.bool (decide (∀ i, i < N → L i ≤ 100))) ∧ w' = w := by
  have hL' := Lib.hid hL
  have hcell' := Lib.hid hcell
  clear hL hcell
  go_enter Tryd.func10, Tryd.ntmps10
  go_wp2_with fail
  go_loop [3] (fun v => ∃ k : Nat, k ≤ N ∧ v = .int .i64 k ∧ Hid (∀ i, i < k → L i ≤ 100)) (fun v => N - (intOf v).toNat)
  case atStart => exact ⟨0, Nat.zero_le _, rfl, Lib.hid (fun i h => absurd h (by omega))⟩
  case round =>
    obtain ⟨k, hk, rfl, hp⟩ := hrel
    by_cases hlt : k < N
    · have hcl := hcell'.out k hlt
      have hlk := hL'.out k
      have hlt' : (k : Int) < N := by omega
      by_cases hbig : 100 < L k
      · have hf : Hid (decide (∀ i, i < N → L i ≤ 100) = false) := Lib.hid (decide_eq_false (fun h => by have := h k hlt; omega))
        generalize L k = m at *
        have hbig' : (100 : Int) < m := by omega
        go_wp2_with fail
        go_ret
        exact ⟨by rw [hf.out]; rfl, rfl⟩
      · have hst : Hid (∀ i, i < k + 1 → L i ≤ 100) := Lib.hid (fun i hi => by
          by_cases e : i = k
          · subst e; omega
          · exact hp.out i (by omega))
        generalize L k = m at *
        have hbig' : ¬ (100 : Int) < m := by omega
        go_wp2_with fail
        exact ⟨⟨k + 1, by omega, by go_num, hst⟩, by simp [intOf]; omega⟩
    · obtain rfl : k = N := by omega
      have hf : Hid (decide (∀ i, i < k → L i ≤ 100) = true) := Lib.hid (decide_eq_true hp.out)
      go_wp2_with fail
      go_ret
      exact ⟨by rw [hf.out]; rfl, rfl⟩
end Go.Proofs.YtdpheomokeikbaaDoor
