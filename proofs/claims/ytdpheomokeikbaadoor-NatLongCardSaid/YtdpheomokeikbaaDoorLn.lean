/- The walk of the law NatLong, whatever the text. Condition: the table of powers is laid. -/
import Derived.Test.YtdpheomokeikbaaDoorLg
namespace Go.Proofs.YtdpheomokeikbaaDoor
open Go.RowKit Go.NT Go.Lib

set_option maxRecDepth 100000 in
set_option maxHeartbeats 2000000 in
theorem long_none (S : ByteArray) (c : Int) (w : World) (ht : Tab w) (h : S.size = 0) :
    Calls Tryd.prog 7 #[.string S, .int .i64 c] w fun e w' => e = .returned (.bool true) ∧ Below w.heap.size w w' := by
  have g1 : ((S.size : Int) == 0) = true := by rw [h]; rfl
  clear h
  go_enter Tryd.func7, Tryd.ntmps7
  go_wp2_with (go_at_call 11; (with_reducible refine (awake_any _ ht).mono ?_); rintro e w2 ⟨rfl, hb2⟩)
  go_ret
  exact ⟨rfl, hb2⟩
set_option maxRecDepth 100000 in
set_option maxHeartbeats 2000000 in
theorem long_much (S : ByteArray) (c : Int) (w : World) (ht : Tab w) (h : 720 < S.size) :
    Calls Tryd.prog 7 #[.string S, .int .i64 c] w fun e w' => e = .returned (.bool true) ∧ Below w.heap.size w w' := by
  have g1 : ((S.size : Int) == 0) = false := by simp only [beq_eq_false_iff_ne, ne_eq]; omega
  have g2 : (720 : Int) < (S.size : Int) := by omega
  go_enter Tryd.func7, Tryd.ntmps7
  go_wp2_with (go_at_call 11; (with_reducible refine (awake_any _ ht).mono ?_); rintro e w2 ⟨rfl, hb2⟩)
  go_ret
  exact ⟨rfl, hb2⟩
set_option maxRecDepth 100000 in
set_option maxHeartbeats 2000000 in
theorem long_nought (S : ByteArray) (c : Int) (w : World) (ht : Tab w) (hp0 : 0 < S.size) (h720 : S.size ≤ 720) (h48 : ((S[0]'hp0).toNat == 48) = true) :
    Calls Tryd.prog 7 #[.string S, .int .i64 c] w fun e w' => e = .returned (.bool true) ∧ Below w.heap.size w w' := by
  have g1 : ((S.size : Int) == 0) = false := by simp only [beq_eq_false_iff_ne, ne_eq]; omega
  have g2 : ¬ (720 : Int) < (S.size : Int) := by omega
  have g3 : (((S[0]'hp0).toNat : Int) == 48) = true := by simp only [beq_iff_eq] at h48 ⊢; omega
  have g4 : (0 : Int) < (S.size : Int) := by omega
  go_enter Tryd.func7, Tryd.ntmps7
  go_wp2_with (go_at_call 11; (with_reducible refine (awake_any _ ht).mono ?_); rintro e w2 ⟨rfl, hb2⟩)
  go_ret
  exact ⟨rfl, hb2⟩
theorem tmod10 (c : Int) : -10 < c.tmod 10 ∧ c.tmod 10 < 10 := by
  rcases Int.le_total 0 c with h | h
  · rw [Int.tmod_eq_emod_of_nonneg h]; omega
  · have e : c.tmod 10 = -((-c).tmod 10) := by rw [Int.neg_tmod]; omega
    rw [e, Int.tmod_eq_emod_of_nonneg (by omega)]; omega
theorem own_text' {S : ByteArray} (hl : S.data.toList ≠ []) (hh : S.data.toList.head? ≠ some 48) (h : ∀ d ∈ S.data.toList, dig d) : ((bs (decI (dval S.data.toList))).toList == S.toList) = true := by
  rw [ByteArray.toList_eq, ByteArray.toList_eq, show (bs (decI (dval S.data.toList))).data.toList = decI (dval S.data.toList) from rfl, decI_dval _ hl h hh]
  simp
theorem natLong_law (w : World) (ht : Tab w) (S : ByteArray) (c : Int) :
    Calls Tryd.prog 7 #[.string S, .int .i64 c] w fun e w' => e = .returned (.bool true) ∧ Below w.heap.size w w' := by
  by_cases hz : S.size = 0
  · exact long_none S c w ht hz
  by_cases h720 : 720 < S.size
  · exact long_much S c w ht h720
  have hp0 : 0 < S.size := by omega
  by_cases h48 : ((S[0]'hp0).toNat == 48) = true
  · exact long_nought S c w ht hp0 (by omega) h48
  have h48 : ((S[0]'hp0).toNat == 48) = false := by simpa using h48
  by_cases h700 : 700 < S.size
  · exact long_a S c w ht hp0 (by omega) h48 h700
  obtain ⟨l, hl⟩ : ∃ l, l = S.data.toList := ⟨_, rfl⟩
  have hll : l.length = S.size := by rw [hl]; simp
  have hl0 : l ≠ [] := fun e => by rw [e] at hll; simp at hll; omega
  have hh : l.head? ≠ some 48 := by
    intro e
    have e0 : S.data.toList[0]'(by simpa using hp0) = S[0]'hp0 := rfl
    rw [hl, List.head?_eq_getElem?, List.getElem?_eq_getElem (by simpa using hp0), e0] at e
    have := Option.some.inj e
    rw [this] at h48
    exact absurd h48 (by decide)
  have ht1 := tmod10 c
  have hw : wrap64 (c.tmod 10 + 10) = c.tmod 10 + 10 := IntWalk.wrap64_in _ (by omega)
  obtain ⟨y, hy⟩ : ∃ y, y = (wrap64 (c.tmod 10 + 10)).tmod 10 := ⟨_, rfl⟩
  have hy' : y = (c.tmod 10 + 10) % 10 := by rw [hy, hw, Int.tmod_eq_emod_of_nonneg (by omega)]
  have hy0 : 0 ≤ y := by omega
  have hy9 : y ≤ 9 := by omega
  obtain ⟨d, hd⟩ : ∃ d, d = UInt8.ofNat (48 + y.toNat) := ⟨_, rfl⟩
  have hdn : d.toNat = 48 + y.toNat := by rw [hd, UInt8.toNat_ofNat']; omega
  have hdy : 48 + y = (d.toNat : Int) := by omega
  obtain ⟨S2, hS2⟩ : ∃ S2, S2 = S ++ (⟨#[d]⟩ : ByteArray) := ⟨_, rfl⟩
  have hm : S2.data.toList = l ++ [d] := by rw [hS2, hl]; exact more_list S d
  have hs2 : S2.size = S.size + 1 := by
    have : S2.data.toList.length = S2.size := by simp
    rw [hm, List.length_append, hll] at this
    simpa using this.symm
  have HC : Hid ((∀ d ∈ S.data.toList, dig d) → (S.toList == [105, 110, 102]) = false ∧ ((bs (decI (dval S.data.toList))).toList == S.toList) = true) :=
    Lib.hid (fun h => ⟨inf_no h, own_text' (by rw [← hl]; exact hl0) (by rw [← hl]; exact hh) h⟩)
  by_cases hs : S.size = 700
  · exact long_b S c w ht hp0 (by omega) h48 h700 (by rw [hs]; rfl) _ (Lib.hid rfl) HC y hy0 hy9 hy.symm d hdy S2 hS2.symm (by omega) (by omega)
  · refine long_c S c w ht hp0 (by omega) h48 h700 (by simp only [beq_eq_false_iff_ne, ne_eq]; omega) _ (Lib.hid rfl) HC y hy0 hy9 hy.symm d hdy S2 hS2.symm (by omega) _ (Lib.hid rfl) (Lib.hid (fun h => ?_))
    have hd2 : ∀ x ∈ S2.data.toList, dig x := by
      intro x hx
      rw [hm] at hx
      rcases List.mem_append.1 hx with hx | hx
      · exact h x (by rw [← hl]; exact hx)
      · simp only [List.mem_singleton] at hx
        subst hx
        unfold dig
        omega
    refine ⟨inf_no hd2, hd2, own_text' (by rw [hm]; simp) ?_ hd2, ?_⟩
    · rw [hm]
      cases l with
      | nil => exact absurd rfl hl0
      | cons x t => simpa using hh
    · rw [hm, dval_snoc, ← hl]
      omega
end Go.Proofs.YtdpheomokeikbaaDoor
