/- The walk of the document's reading of a double. No condition. -/
import Derived.Test.YtplhlpdcdemopaaDoorFo
import Derived.Outline
namespace Go.Proofs.YtplhlpdcdemopaaDoor
open Go.RowKit Go.FT Go.FX Go.Lib

theorem ext1 {S : ByteArray} (h : sgn S.data.toList = true) : (S.extract 1 S.size).data.toList = rest S.data.toList := by
  rw [rest_mgn, extract_data]
  unfold mgn
  rw [h, if_pos rfl]
  rw [List.take_of_length_le]
  rw [List.length_drop, ← size_eq]
  omega
theorem ext0 {S : ByteArray} (h : sgn S.data.toList = false) : S.data.toList = rest S.data.toList := by
  rw [rest_mgn]
  unfold mgn
  rw [h, if_neg Bool.false_ne_true]
set_option maxRecDepth 100000 in
set_option maxHeartbeats 2000000 in
theorem rparseNanP (S : ByteArray) (hS : S.size ≤ 4000000000) (h0 : 0 < S.size) (hg : sgn S.data.toList = false) (HR0 : rest S.data.toList = sNan) (w : World) :
    Calls Tryd.prog 18 #[.string S] w fun e w' => PR S w w' e := by
  have hneg := (sgn_at h0).trans hg
  have HNG : Hid (neg S.data.toList = false) := Lib.hid ((neg_sgn _).trans hg)
  have HT := Lib.hid (ext0 hg)
  have hts := hS
  clear hg
  have HKY := Lib.hid (pv_held (y := NAN) (by decide) (key_nan HR0 (y := NAN) (by decide)))
  have hyy : NAN < W64 := by decide
  have q1 := eqs (HT.out.trans HR0) (t := [110, 97, 110]) (b := true) (by decide)
  have q2 := eqs (HT.out.trans HR0) (t := [105, 110, 102]) (b := false) (by decide)
  have en := fun w => neg_run (x := NAN) (by decide) w
  clear HR0
  go_enter Tryd.func18, Tryd.ntmps18
  go_wp2_with (first
    | (go_at_call 30; (with_reducible refine (rof_nan _).mono ?_); rintro e w' ⟨rfl, rfl⟩)
    | (go_at_call 31; (with_reducible refine (rtext_tr (NAN) hyy _).mono ?_); rintro e w3 ⟨S2, rfl, HS2, hb3⟩; have q3 := Lib.hid (text_eq (S := S) HS2.out))
    | (go_at_call 28; (with_reducible refine (rbits_any (NAN) _ hyy).mono ?_); rintro e w' ⟨rfl, rfl⟩)
    | (go_at_call 30; (with_reducible refine (rof_can (NAN) hyy _).mono ?_); rintro e w' ⟨rfl, rfl⟩))
  · go_ret2
    have hq : (!S2.toList == S.toList) = true := by assumption
    rw [q3.out] at hq
    exact pr_of (HKY.out.2 (of_decide_eq_false (by simpa using hq))) hb3
  · go_ret2
    have hq : (!S2.toList == S.toList) = false := by assumption
    rw [q3.out] at hq
    exact pr_of (HKY.out.1 (of_decide_eq_true (by simpa using hq))) hb3
set_option maxRecDepth 100000 in
set_option maxHeartbeats 2000000 in
theorem rparseInfP (S : ByteArray) (hS : S.size ≤ 4000000000) (h0 : 0 < S.size) (hg : sgn S.data.toList = false) (HR0 : rest S.data.toList = sInf) (w : World) :
    Calls Tryd.prog 18 #[.string S] w fun e w' => PR S w w' e := by
  have hneg := (sgn_at h0).trans hg
  have HNG : Hid (neg S.data.toList = false) := Lib.hid ((neg_sgn _).trans hg)
  have HT := Lib.hid (ext0 hg)
  have hts := hS
  clear hg
  have HKY := Lib.hid (pv_held (y := INF) (by decide) ((by have := key_inf HR0; rw [HNG.out] at this; exact this)))
  have hyy : INF < W64 := by decide
  have q1 := eqs (HT.out.trans HR0) (t := [110, 97, 110]) (b := false) (by decide)
  have q2 := eqs (HT.out.trans HR0) (t := [105, 110, 102]) (b := true) (by decide)
  have en := fun w => neg_run (x := INF) (by decide) w
  clear HR0
  go_enter Tryd.func18, Tryd.ntmps18
  go_wp2_with (first
    | (go_at_call 30; (with_reducible refine (rof_inf _).mono ?_); rintro e w' ⟨rfl, rfl⟩)
    | (go_at_call 31; (with_reducible refine (rtext_tr (INF) hyy _).mono ?_); rintro e w3 ⟨S2, rfl, HS2, hb3⟩; have q3 := Lib.hid (text_eq (S := S) HS2.out))
    | (go_at_call 28; (with_reducible refine (rbits_any (INF) _ hyy).mono ?_); rintro e w' ⟨rfl, rfl⟩)
    | (go_at_call 30; (with_reducible refine (rof_can (INF) hyy _).mono ?_); rintro e w' ⟨rfl, rfl⟩))
  · go_ret2
    have hq : (!S2.toList == S.toList) = true := by assumption
    rw [q3.out] at hq
    exact pr_of (HKY.out.2 (of_decide_eq_false (by simpa using hq))) hb3
  · go_ret2
    have hq : (!S2.toList == S.toList) = false := by assumption
    rw [q3.out] at hq
    exact pr_of (HKY.out.1 (of_decide_eq_true (by simpa using hq))) hb3
set_option maxRecDepth 100000 in
set_option maxHeartbeats 2000000 in
theorem rparseNanN (S : ByteArray) (hS : S.size ≤ 4000000000) (h0 : 0 < S.size) (hg : sgn S.data.toList = true) (HR0 : rest S.data.toList = sNan) (w : World) :
    Calls Tryd.prog 18 #[.string S] w fun e w' => PR S w w' e := by
  have hneg := (sgn_at h0).trans hg
  have HNG : Hid (neg S.data.toList = true) := Lib.hid ((neg_sgn _).trans hg)
  have HT := Lib.hid (ext1 hg)
  have hts : (S.extract 1 S.size).size ≤ 4000000000 := by rw [size_eq] at hS ⊢; rw [HT.out]; have := trim_len S.data.toList; omega
  obtain ⟨TB, hTB⟩ : ∃ TB, S.extract 1 S.size = TB := ⟨_, rfl⟩
  rw [hTB] at HT hts
  clear hg
  have HKY := Lib.hid (pv_held (y := sg true NAN) (by decide) (key_nan HR0 (y := sg true NAN) (by decide)))
  have hyy : sg true NAN < W64 := by decide
  have q1 := eqs (HT.out.trans HR0) (t := [110, 97, 110]) (b := true) (by decide)
  have q2 := eqs (HT.out.trans HR0) (t := [105, 110, 102]) (b := false) (by decide)
  have en := fun w => neg_run (x := NAN) (by decide) w
  clear HR0
  go_enter Tryd.func18, Tryd.ntmps18
  go_wp2_with (first
    | (go_at_call 30; (with_reducible refine (rof_nan _).mono ?_); rintro e w' ⟨rfl, rfl⟩)
    | (go_at_call 31; (with_reducible refine (rtext_tr (sg true NAN) hyy _).mono ?_); rintro e w3 ⟨S2, rfl, HS2, hb3⟩; have q3 := Lib.hid (text_eq (S := S) HS2.out))
    | (go_at_call 28; (with_reducible refine (rbits_any (sg true NAN) _ hyy).mono ?_); rintro e w' ⟨rfl, rfl⟩)
    | (go_at_call 30; (with_reducible refine (rof_can (sg true NAN) hyy _).mono ?_); rintro e w' ⟨rfl, rfl⟩))
  · go_ret2
    have hq : (!S2.toList == S.toList) = true := by assumption
    rw [q3.out] at hq
    exact pr_of (HKY.out.2 (of_decide_eq_false (by simpa using hq))) hb3
  · go_ret2
    have hq : (!S2.toList == S.toList) = false := by assumption
    rw [q3.out] at hq
    exact pr_of (HKY.out.1 (of_decide_eq_true (by simpa using hq))) hb3
set_option maxRecDepth 100000 in
set_option maxHeartbeats 2000000 in
theorem rparseInfN (S : ByteArray) (hS : S.size ≤ 4000000000) (h0 : 0 < S.size) (hg : sgn S.data.toList = true) (HR0 : rest S.data.toList = sInf) (w : World) :
    Calls Tryd.prog 18 #[.string S] w fun e w' => PR S w w' e := by
  have hneg := (sgn_at h0).trans hg
  have HNG : Hid (neg S.data.toList = true) := Lib.hid ((neg_sgn _).trans hg)
  have HT := Lib.hid (ext1 hg)
  have hts : (S.extract 1 S.size).size ≤ 4000000000 := by rw [size_eq] at hS ⊢; rw [HT.out]; have := trim_len S.data.toList; omega
  obtain ⟨TB, hTB⟩ : ∃ TB, S.extract 1 S.size = TB := ⟨_, rfl⟩
  rw [hTB] at HT hts
  clear hg
  have HKY := Lib.hid (pv_held (y := sg true INF) (by decide) ((by have := key_inf HR0; rw [HNG.out] at this; exact this)))
  have hyy : sg true INF < W64 := by decide
  have q1 := eqs (HT.out.trans HR0) (t := [110, 97, 110]) (b := false) (by decide)
  have q2 := eqs (HT.out.trans HR0) (t := [105, 110, 102]) (b := true) (by decide)
  have en := fun w => neg_run (x := INF) (by decide) w
  clear HR0
  go_enter Tryd.func18, Tryd.ntmps18
  go_wp2_with (first
    | (go_at_call 30; (with_reducible refine (rof_inf _).mono ?_); rintro e w' ⟨rfl, rfl⟩)
    | (go_at_call 31; (with_reducible refine (rtext_tr (sg true INF) hyy _).mono ?_); rintro e w3 ⟨S2, rfl, HS2, hb3⟩; have q3 := Lib.hid (text_eq (S := S) HS2.out))
    | (go_at_call 28; (with_reducible refine (rbits_any (sg true INF) _ hyy).mono ?_); rintro e w' ⟨rfl, rfl⟩)
    | (go_at_call 30; (with_reducible refine (rof_can (sg true INF) hyy _).mono ?_); rintro e w' ⟨rfl, rfl⟩))
  · go_ret2
    have hq : (!S2.toList == S.toList) = true := by assumption
    rw [q3.out] at hq
    exact pr_of (HKY.out.2 (of_decide_eq_false (by simpa using hq))) hb3
  · go_ret2
    have hq : (!S2.toList == S.toList) = false := by assumption
    rw [q3.out] at hq
    exact pr_of (HKY.out.1 (of_decide_eq_true (by simpa using hq))) hb3
end Go.Proofs.YtplhlpdcdemopaaDoor
