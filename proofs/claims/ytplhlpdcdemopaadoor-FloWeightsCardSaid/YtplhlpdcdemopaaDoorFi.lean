/- The walk of the document's small numbers. No condition. -/
import Derived.Test.YtplhlpdcdemopaaDoorFh
import Derived.Outline
namespace Go.Proofs.YtplhlpdcdemopaaDoor
open Go.RowKit Go.FT Go.FX Go.Lib

theorem sgn_at {S : ByteArray} (h : 0 < S.size) : (((S[0]).toNat : Int) == 45) = sgn S.data.toList := by
  have h' : 0 < S.data.toList.length := by rw [← size_eq]; exact h
  have e : S.data.toList.head? = some S[0] := by
    rw [List.head?_eq_getElem?, List.getElem?_eq_getElem h']; rfl
  unfold sgn
  rw [e, Bool.eq_iff_iff, beq_iff_eq, beq_iff_eq]
  constructor
  · intro h1; congr 1; apply UInt8.toNat_inj.1; show S[0].toNat = 45; omega
  · intro h1; injection h1 with h1; rw [h1]; rfl
theorem sgn_nil {S : ByteArray} (h : S.size = 0) : sgn S.data.toList = false := by
  rw [size_eq] at h
  rw [List.eq_nil_of_length_eq_zero h]; rfl
theorem text_eq {S S2 : ByteArray} {l : List UInt8} (h : S2.data.toList = l) : (S2.toList == S.toList) = decide (l = S.data.toList) := by
  rw [ByteArray.toList_eq, ByteArray.toList_eq, h, Bool.eq_iff_iff, beq_iff_eq, decide_eq_true_iff]
set_option maxRecDepth 100000 in
set_option maxHeartbeats 2000000 in
theorem small_nil (S : ByteArray) (most : Nat) (hm : most ≤ 17) (h0 : S.size = 0) (hlong : S.size ≤ most + 1) (w : World) :
    Calls Tryd.prog 56 #[.string S, .int .i64 most] w fun e w' => SmR S most w w' e := by
  have H0 := Lib.hid h0
  have h0' : ¬ 0 < S.size := by omega
  clear h0
  have hl := Lib.hid (size_eq S)
  have HG : Hid (sgn S.data.toList = false) := Lib.hid (sgn_nil H0.out)
  go_enter Tryd.func56, Tryd.ntmps56
  go_wp2
  go_loopw [7, 8] (fun n i wr => ∃ k m : Nat, wr = w ∧ n = .int .i64 m ∧ i = .int .i64 k ∧ k ≤ S.size ∧ Hid (SmI S.data.toList k m)) (fun _ i _ => S.size - (RowKit.intOf i).toNat)
  case atStart => exact ⟨0, 0, rfl, rfl, rfl, Nat.zero_le _, Lib.hid (SmI.start _)⟩
  case round =>
    obtain ⟨k, m, rfl, rfl, rfl, hk, hI⟩ := hrel
    by_cases hlt : k < S.size
    · have hso : Hid (so S.data.toList = 0) := Lib.hid (by unfold so; rw [HG.out]; rfl)
      have hm17 : m < 100000000000000000 := Nat.lt_of_lt_of_le hI.out.2.1 (Nat.le_trans (Nat.pow_le_pow_right (by decide) (by have := hso.out; omega)) (by decide : 10 ^ 17 ≤ 100000000000000000))
      have hkl : Hid (k < S.data.toList.length) := Lib.hid (by rw [← hl.out]; exact hlt)
      have hget : Hid (S.data.toList[k]'hkl.out = S[k]) := Lib.hid rfl
      exact absurd hlt (by have := H0.out; omega)
    · obtain rfl : k = S.size := by omega
      have hfin : Hid (SmI S.data.toList S.data.toList.length m) := Lib.hid (by rw [← hl.out]; exact hI.out)
      have hm18 : m < 1000000000000000000 := Nat.lt_of_lt_of_le hI.out.2.1 (Nat.le_trans (Nat.pow_le_pow_right (by decide) (by omega)) (by decide : 10 ^ 18 ≤ 1000000000000000000))
      have hz : Hid ((if sgn S.data.toList then -(m : Int) else m) = (m : Int)) := Lib.hid (by rw [HG.out]; rfl)
      go_wp2_with (go_at_call 61; refine (decimal_any ((m : Int)) (by omega) (by omega) _).mono ?_; rintro e w1 ⟨S2, rfl, HS2, hs2, hb2⟩)
      go_ret2
      exact ⟨(m : Int), _, rfl, sm_end hfin.out hz.out (text_eq HS2.out), by omega, by omega, hb2⟩
set_option maxRecDepth 100000 in
set_option maxHeartbeats 2000000 in
theorem small_pos (S : ByteArray) (most : Nat) (hm : most ≤ 17) (h0 : 0 < S.size) (hg : sgn S.data.toList = false) (hlong : S.size ≤ most + 1) (w : World) :
    Calls Tryd.prog 56 #[.string S, .int .i64 most] w fun e w' => SmR S most w w' e := by
  have hl := Lib.hid (size_eq S)
  have HG : Hid (sgn S.data.toList = false) := Lib.hid hg
  have hneg := (sgn_at h0).trans hg
  clear hg
  go_enter Tryd.func56, Tryd.ntmps56
  go_wp2
  go_loopw [7, 8] (fun n i wr => ∃ k m : Nat, wr = w ∧ n = .int .i64 m ∧ i = .int .i64 k ∧ k ≤ S.size ∧ Hid (SmI S.data.toList k m)) (fun _ i _ => S.size - (RowKit.intOf i).toNat)
  case atStart => exact ⟨0, 0, rfl, rfl, rfl, Nat.zero_le _, Lib.hid (SmI.start _)⟩
  case round =>
    obtain ⟨k, m, rfl, rfl, rfl, hk, hI⟩ := hrel
    by_cases hlt : k < S.size
    · have hso : Hid (so S.data.toList = 0) := Lib.hid (by unfold so; rw [HG.out]; rfl)
      have hm17 : m < 100000000000000000 := Nat.lt_of_lt_of_le hI.out.2.1 (Nat.le_trans (Nat.pow_le_pow_right (by decide) (by have := hso.out; omega)) (by decide : 10 ^ 17 ≤ 100000000000000000))
      have hkl : Hid (k < S.data.toList.length) := Lib.hid (by rw [← hl.out]; exact hlt)
      have hget : Hid (S.data.toList[k]'hkl.out = S[k]) := Lib.hid rfl
      by_cases hk0 : k = 0
      · subst hk0
        by_cases hd : isD S[0]
        · have d1 : 48 ≤ S[0].toNat := hd.1
          have d2 : S[0].toNat ≤ 57 := hd.2
          have hs := Lib.hid (hI.out.step hkl.out (by have := hso.out; omega) (by rw [hget.out]; exact hd))
          rw [hget.out] at hs
          clear hd
          go_wp2
          all_goals
            go_roundw
            case rel => exact ⟨0 + 1, m * 10 + (S[0].toNat - 48), trivial, congrArg (Value.int .i64) (by omega), rfl, by omega, hs⟩
            case measure => simp [RowKit.intOf]; omega
        · have hbad := Lib.hid (fun n ok => sm_bad (l := S.data.toList) (most := most) (i := 0) hkl.out (by have := hso.out; omega) (by rw [hget.out]; exact hd) n ok)
          have hd' : S[0].toNat < 48 ∨ 57 < S[0].toNat := by unfold isD at hd; omega
          clear hd
          rcases hd' with hd' | hd'
          · go_wp2
            all_goals
              go_ret2
              exact ⟨0, false, rfl, hbad.out _ _, by omega, by omega, Below.refl _ _⟩
          · have hd2 : 48 ≤ S[0].toNat := by omega
            go_wp2
            all_goals
              go_ret2
              exact ⟨0, false, rfl, hbad.out _ _, by omega, by omega, Below.refl _ _⟩
      · have hkn : ((k : Int) == 0) = false := by simpa using hk0
        by_cases hd : isD S[k]
        · have d1 : 48 ≤ S[k].toNat := hd.1
          have d2 : S[k].toNat ≤ 57 := hd.2
          have hs := Lib.hid (hI.out.step hkl.out (by have := hso.out; omega) (by rw [hget.out]; exact hd))
          rw [hget.out] at hs
          clear hd
          go_wp2
          all_goals
            go_roundw
            case rel => exact ⟨k + 1, m * 10 + (S[k].toNat - 48), trivial, congrArg (Value.int .i64) (by omega), by go_num, by omega, hs⟩
            case measure => simp [RowKit.intOf]; omega
        · have hbad := Lib.hid (fun n ok => sm_bad (l := S.data.toList) (most := most) (i := k) hkl.out (by have := hso.out; omega) (by rw [hget.out]; exact hd) n ok)
          have hd' : S[k].toNat < 48 ∨ 57 < S[k].toNat := by unfold isD at hd; omega
          clear hd
          rcases hd' with hd' | hd'
          · go_wp2
            all_goals
              go_ret2
              exact ⟨0, false, rfl, hbad.out _ _, by omega, by omega, Below.refl _ _⟩
          · have hd2 : 48 ≤ S[k].toNat := by omega
            go_wp2
            all_goals
              go_ret2
              exact ⟨0, false, rfl, hbad.out _ _, by omega, by omega, Below.refl _ _⟩
    · obtain rfl : k = S.size := by omega
      have hfin : Hid (SmI S.data.toList S.data.toList.length m) := Lib.hid (by rw [← hl.out]; exact hI.out)
      have hm18 : m < 1000000000000000000 := Nat.lt_of_lt_of_le hI.out.2.1 (Nat.le_trans (Nat.pow_le_pow_right (by decide) (by omega)) (by decide : 10 ^ 18 ≤ 1000000000000000000))
      have hz : Hid ((if sgn S.data.toList then -(m : Int) else m) = (m : Int)) := Lib.hid (by rw [HG.out]; rfl)
      go_wp2_with (go_at_call 61; refine (decimal_any ((m : Int)) (by omega) (by omega) _).mono ?_; rintro e w1 ⟨S2, rfl, HS2, hs2, hb2⟩)
      go_ret2
      exact ⟨(m : Int), _, rfl, sm_end hfin.out hz.out (text_eq HS2.out), by omega, by omega, hb2⟩
set_option maxRecDepth 100000 in
set_option maxHeartbeats 2000000 in
theorem small_neg (S : ByteArray) (most : Nat) (hm : most ≤ 17) (h0 : 0 < S.size) (hg : sgn S.data.toList = true) (hlong : S.size ≤ most + 1) (w : World) :
    Calls Tryd.prog 56 #[.string S, .int .i64 most] w fun e w' => SmR S most w w' e := by
  have hl := Lib.hid (size_eq S)
  have HG : Hid (sgn S.data.toList = true) := Lib.hid hg
  have hneg := (sgn_at h0).trans hg
  clear hg
  go_enter Tryd.func56, Tryd.ntmps56
  go_wp2
  go_loopw [7, 8] (fun n i wr => ∃ k m : Nat, wr = w ∧ n = .int .i64 m ∧ i = .int .i64 k ∧ k ≤ S.size ∧ Hid (SmI S.data.toList k m)) (fun _ i _ => S.size - (RowKit.intOf i).toNat)
  case atStart => exact ⟨0, 0, rfl, rfl, rfl, Nat.zero_le _, Lib.hid (SmI.start _)⟩
  case round =>
    obtain ⟨k, m, rfl, rfl, rfl, hk, hI⟩ := hrel
    by_cases hlt : k < S.size
    · have hso : Hid (so S.data.toList = 1) := Lib.hid (by unfold so; rw [HG.out]; rfl)
      have hm17 : m < 100000000000000000 := Nat.lt_of_lt_of_le hI.out.2.1 (Nat.le_trans (Nat.pow_le_pow_right (by decide) (by have := hso.out; omega)) (by decide : 10 ^ 17 ≤ 100000000000000000))
      have hkl : Hid (k < S.data.toList.length) := Lib.hid (by rw [← hl.out]; exact hlt)
      have hget : Hid (S.data.toList[k]'hkl.out = S[k]) := Lib.hid rfl
      by_cases hk0 : k = 0
      · subst hk0
        have hs := Lib.hid (hI.out.skip HG.out)
        go_wp2
        go_roundw
        case rel => exact ⟨1, m, trivial, rfl, rfl, by omega, hs⟩
        case measure => simp [RowKit.intOf]; omega
      · have hkn : ((k : Int) == 0) = false := by simpa using hk0
        by_cases hd : isD S[k]
        · have d1 : 48 ≤ S[k].toNat := hd.1
          have d2 : S[k].toNat ≤ 57 := hd.2
          have hs := Lib.hid (hI.out.step hkl.out (by have := hso.out; omega) (by rw [hget.out]; exact hd))
          rw [hget.out] at hs
          clear hd
          go_wp2
          all_goals
            go_roundw
            case rel => exact ⟨k + 1, m * 10 + (S[k].toNat - 48), trivial, congrArg (Value.int .i64) (by omega), by go_num, by omega, hs⟩
            case measure => simp [RowKit.intOf]; omega
        · have hbad := Lib.hid (fun n ok => sm_bad (l := S.data.toList) (most := most) (i := k) hkl.out (by have := hso.out; omega) (by rw [hget.out]; exact hd) n ok)
          have hd' : S[k].toNat < 48 ∨ 57 < S[k].toNat := by unfold isD at hd; omega
          clear hd
          rcases hd' with hd' | hd'
          · go_wp2
            all_goals
              go_ret2
              exact ⟨0, false, rfl, hbad.out _ _, by omega, by omega, Below.refl _ _⟩
          · have hd2 : 48 ≤ S[k].toNat := by omega
            go_wp2
            all_goals
              go_ret2
              exact ⟨0, false, rfl, hbad.out _ _, by omega, by omega, Below.refl _ _⟩
    · obtain rfl : k = S.size := by omega
      have hfin : Hid (SmI S.data.toList S.data.toList.length m) := Lib.hid (by rw [← hl.out]; exact hI.out)
      have hm18 : m < 1000000000000000000 := Nat.lt_of_lt_of_le hI.out.2.1 (Nat.le_trans (Nat.pow_le_pow_right (by decide) (by omega)) (by decide : 10 ^ 18 ≤ 1000000000000000000))
      have hz : Hid ((if sgn S.data.toList then -(m : Int) else m) = -(m : Int)) := Lib.hid (by rw [HG.out]; rfl)
      go_wp2_with (go_at_call 61; refine (decimal_any (-(m : Int)) (by omega) (by omega) _).mono ?_; rintro e w1 ⟨S2, rfl, HS2, hs2, hb2⟩)
      go_ret2
      exact ⟨-(m : Int), _, rfl, sm_end hfin.out hz.out (text_eq HS2.out), by omega, by omega, hb2⟩
theorem small_any (S : ByteArray) (most : Nat) (hm0 : 0 < most) (hm : most ≤ 17) (hsz : S.size ≤ 9223372036854775807) (w : World) :
    Calls Tryd.prog 56 #[.string S, .int .i64 most] w fun e w' => SmR S most w w' e := by
  have hl := size_eq S
  by_cases hlong : S.size ≤ most + 1
  · by_cases h0 : S.size = 0
    · exact small_nil S most hm h0 hlong w
    · cases hg : sgn S.data.toList
      · exact small_pos S most hm (by omega) hg hlong w
      · exact small_neg S most hm (by omega) hg hlong w
  · have hbad := Lib.hid (fun n ok => sm_long (l := S.data.toList) hm0 (by omega) n ok)
    have h0 : 0 < S.size := by omega
    clear hl
    go_enter Tryd.func56, Tryd.ntmps56
    go_wp2
    go_ret2
    exact ⟨0, false, rfl, hbad.out _ _, by omega, by omega, Below.refl _ _⟩
end Go.Proofs.YtplhlpdcdemopaaDoor
