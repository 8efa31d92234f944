/- The walks of 'small', of the text of a count. Conditions: the values' lengths can be read; the table of powers is laid. -/
import Derived.Test.YtdkmmnehlmaebaaDoorSj
namespace Go.Proofs.YtdkmmnehlmaebaaDoor.Se
open Go.RowKit Go.NT Go.FT Go.Lib Na

set_option maxRecDepth 100000 in
set_option maxHeartbeats 1000000 in
theorem small_any (g : Nat) (L C : Nat → Nat) (F : Nat → Option Addr) (N c : Nat) (w : World) (hN : N ≤ 4) (hc : N ≤ c)
    (hcell : ∀ i, i < N → w.cell? ⟨g, i * 5 + 2, none⟩ = some (.slice (F i) (L i) (C i))) (hL : ∀ i, L i ≤ 9223372036854775807) :
    Calls Tryd.prog 12 #[.slice (some ⟨g, 0, none⟩) N c] w fun e w' => e = .returned (.bool (decide (∀ i, i < N → L i ≤ 60))) ∧ w' = w := by
  have hL' := Lib.hid hL
  have hcell' := Lib.hid hcell
  clear hL hcell
  go_enter Tryd.func12, Tryd.ntmps12
  go_wp2_with fail
  go_loop [3] (fun v => ∃ k : Nat, k ≤ N ∧ v = .int .i64 k ∧ Hid (∀ i, i < k → L i ≤ 60)) (fun v => N - (RowKit.intOf v).toNat)
  case atStart => exact ⟨0, Nat.zero_le _, rfl, Lib.hid (fun i h => absurd h (by omega))⟩
  case round =>
    obtain ⟨k, hk, rfl, hp⟩ := hrel
    by_cases hlt : k < N
    · have hcl := hcell'.out k hlt
      have hlk := hL'.out k
      have hlt' : (k : Int) < N := by omega
      by_cases hbig : 60 < L k
      · have hf : Hid (decide (∀ i, i < N → L i ≤ 60) = false) := Lib.hid (decide_eq_false (fun h => by have := h k hlt; omega))
        generalize L k = m at *
        have hbig' : (60 : Int) < m := by omega
        go_wp2_with fail
        go_ret
        exact ⟨by rw [hf.out]; rfl, rfl⟩
      · have hst : Hid (∀ i, i < k + 1 → L i ≤ 60) := Lib.hid (fun i hi => by
          by_cases e : i = k
          · subst e; omega
          · exact hp.out i (by omega))
        generalize L k = m at *
        have hbig' : ¬ (60 : Int) < m := by omega
        go_wp2_with fail
        exact ⟨⟨k + 1, by omega, by go_num, hst⟩, by simp [RowKit.intOf]; omega⟩
    · obtain rfl : k = N := by omega
      have hf : Hid (decide (∀ i, i < k → L i ≤ 60) = true) := Lib.hid (decide_eq_true hp.out)
      go_wp2_with fail
      go_ret
      exact ⟨by rw [hf.out]; rfl, rfl⟩
set_option maxRecDepth 100000 in
set_option maxHeartbeats 1000000 in
theorem text_nat (a : SV) (w : World) (ha : a.ok w) (hn : a.n ≤ 1099511627776) (ht : Tab w) (HM : Hid (a.may = 0)) (HN : Hid (natB a.s = true)) :
    Calls Tryd.prog 44 #[a.v] w fun e w' => e = .returned (strV (textM (mean a.b a.xs))) ∧ Below w.heap.size w w' := by
  have h0 := Lib.hid (below_al (Below.refl w.heap.size w) (.cells #[.int .i64 a.s, .bool a.b, .slice a.A a.n a.c, .int .i64 a.lv, .float .f64 a.x] 27))
  have hF := Lib.hid (five_new w a ha)
  have hT := Lib.hid (ht.below h0.out)
  clear ha ht
  unfold SV.v
  go_enter Tryd.func44, Tryd.ntmps44
  go_wp2_with (first
    | (go_at_call 32; (with_reducible refine (may_sv a _ hF.out.ok).mono ?_); rw [HM.out]; rintro e w1 ⟨rfl, hb1⟩; have HF := Lib.hid (hF.out.go hb1); have H1 := Lib.hid (below_go h0.out hb1); have HT := Lib.hid (hT.out.below hb1); have HX := Lib.hid HF.out.ok.1; obtain ⟨p0, p1, p2, p3, p4, p5, _⟩ := HF.out)
    | (go_at_call 57; (with_reducible refine (isNat_any a.s _).mono ?_); rw [HN.out]; rintro e w' ⟨rfl, rfl⟩)
    | (go_at_call 84; (with_reducible refine (Na.text_any a.b a.A a.n a.c a.xs _ HX.out hn HT.out).mono ?_); rintro e w2 ⟨rfl, hb2⟩; have H2 := Lib.hid (below_go H1.out hb2)))
  go_ret
  exact ⟨rfl, H2.out⟩
end Go.Proofs.YtdkmmnehlmaebaaDoor.Se
