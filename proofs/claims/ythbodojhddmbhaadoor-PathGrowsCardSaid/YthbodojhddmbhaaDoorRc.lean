/- The law PathNames: unlike names are written unlike; what is a word stands as it is. Condition: the library's two errors can be read. -/
import Derived.Test.YthbodojhddmbhaaDoorRb
namespace Go.Proofs.YthbodojhddmbhaaDoor.Pa
open Go.RowKit Go.Lib Na Go.PN

theorem name_list (t : List UInt8) (w : World) (h : t.length ≤ 1000000) : Calls Tryd.prog 9 #[strV t] w fun e w' => e = .returned (strV (nameT t)) ∧ Below w.heap.size w w' :=
  name_any ⟨t.toArray⟩ w (by show t.toArray.size ≤ _; rw [List.size_toArray]; exact h)
theorem list_eq {a b : ByteArray} (h : a.data.toList = b.data.toList) : a = b := by
  rw [← ba_back a, ← ba_back b, h]
theorem toList_beq (a b : ByteArray) : (a.toList == b.toList) = decide (a.data.toList = b.data.toList) := by
  rw [ByteArray.toList_eq, ByteArray.toList_eq]
  by_cases h : a.data.toList = b.data.toList
  · rw [decide_eq_true h, h]; exact beq_self_eq_true _
  · rw [decide_eq_false h, beq_eq_false_iff_ne]; exact h
theorem list_beq (t : List UInt8) (b : ByteArray) : (t == b.toList) = decide (t = b.data.toList) := by
  rw [ByteArray.toList_eq]
  by_cases h : t = b.data.toList
  · rw [decide_eq_true h, h]; exact beq_self_eq_true _
  · rw [decide_eq_false h, beq_eq_false_iff_ne]; exact h
set_option maxRecDepth 100000 in
set_option maxHeartbeats 8000000 in
theorem pathNames_law (a b : ByteArray) (w : World) (hG : ErG w) : Calls Tryd.prog 3 #[.string a, .string b] w fun e w' => e = .returned (.bool true) ∧ Below w.heap.size w w' := by
  have HA := Lib.hid (fun (w1 : World) (hb : Below w.heap.size w w1) => awake_any w1 (hG.below hb))
  clear hG
  by_cases ha : 300 < a.size
  · have ta : decide ((a.size : Int) > 300) = true := decide_eq_true (by omega)
    go_enter Tryd.func3, Tryd.ntmps3
    go_wp2_with (go_at_call 8; (with_reducible refine (HA.out _ (Below.refl _ _)).mono ?_); rintro e w2 ⟨rfl, hb2⟩)
    go_ret
    exact ⟨rfl, hb2⟩
  have ta : decide ((a.size : Int) > 300) = false := decide_eq_false (by omega)
  by_cases hb : 300 < b.size
  · have tb : decide ((b.size : Int) > 300) = true := decide_eq_true (by omega)
    go_enter Tryd.func3, Tryd.ntmps3
    go_wp2_with (go_at_call 8; (with_reducible refine (HA.out _ (Below.refl _ _)).mono ?_); rintro e w2 ⟨rfl, hb2⟩)
    go_ret
    exact ⟨rfl, hb2⟩
  have tb : decide ((b.size : Int) > 300) = false := decide_eq_false (by omega)
  have hza : a.data.toList.length = a.size := by simp
  have hla := nameT_len a.data.toList
  have hx0 : (nameT a.data.toList).length ≤ 1000000 := by omega
  have H1 := Lib.hid (fun w => name_any a w (by omega))
  have H2 := Lib.hid (fun w => name_list (nameT a.data.toList) w hx0)
  have H3 := Lib.hid (fun w => name_any b w (by omega))
  have tl : decide (a.size ≤ (nameT a.data.toList).length) = true := decide_eq_true (by omega)
  have tl2 : decide (((nameT a.data.toList).length : Int) ≥ (a.size : Int)) = true := decide_eq_true (by omega)
  have tE : ∃ B : Bool, (nameT a.data.toList == nameT b.data.toList) = B ∧ (a.toList == b.toList) = B := by
    refine ⟨_, rfl, ?_⟩
    rw [toList_beq, ← nameT_same]
    by_cases h : nameT a.data.toList = nameT b.data.toList
    · rw [decide_eq_true h, h]; exact (beq_self_eq_true _).symm
    · rw [decide_eq_false h]; exact (beq_eq_false_iff_ne.2 h).symm
  obtain ⟨B, t1, t2⟩ := tE
  by_cases hx : nameT a.data.toList = a.data.toList
  · have t3 : (nameT a.data.toList == a.toList) = true := by rw [list_beq]; exact decide_eq_true hx
    have t4 : (nameT (nameT a.data.toList) == nameT a.data.toList) = true := by rw [hx, hx]; exact beq_self_eq_true _
    clear hx hla hza
    generalize nameT (nameT a.data.toList) = Y at *
    generalize nameT a.data.toList = X at *
    generalize nameT b.data.toList = Z at *
    cases B
    all_goals
      go_enter Tryd.func3, Tryd.ntmps3
      go_wp2_with (first
        | (go_at_call 9; (with_reducible refine (H1.out _).mono ?_); rintro e w2 ⟨rfl, hb2⟩; refine Hid.out ?_))
      refine Lib.hid ?_
      go_wp2_with (first
        | (go_at_call 9; (with_reducible refine (H2.out _).mono ?_); rintro e w3 ⟨rfl, hb3⟩; refine Hid.out ?_))
      refine Lib.hid ?_
      have hb23 := Lib.hid (hb2.trans (hb3.mono hb2.size))
      clear hb2 hb3
      go_wp2_with (first
        | (go_at_call 9; (with_reducible refine (H3.out _).mono ?_); rintro e w4 ⟨rfl, hb4⟩; have hb24 := Lib.hid (hb23.out.trans (hb4.mono hb23.out.size)); clear hb4)
        | (go_at_call 8; (with_reducible refine (HA.out _ hb24.out).mono ?_); rintro e w5 ⟨rfl, hb5⟩))
      go_ret
      exact ⟨rfl, hb24.out.trans (hb5.mono hb24.out.size)⟩
  · have t3 : (nameT a.data.toList == a.toList) = false := by rw [list_beq]; exact decide_eq_false hx
    clear hx hla hza
    generalize nameT (nameT a.data.toList) = Y at *
    generalize nameT a.data.toList = X at *
    generalize nameT b.data.toList = Z at *
    cases B
    all_goals
      go_enter Tryd.func3, Tryd.ntmps3
      go_wp2_with (first
        | (go_at_call 9; (with_reducible refine (H1.out _).mono ?_); rintro e w2 ⟨rfl, hb2⟩; refine Hid.out ?_))
      refine Lib.hid ?_
      go_wp2_with (first
        | (go_at_call 9; (with_reducible refine (H2.out _).mono ?_); rintro e w3 ⟨rfl, hb3⟩; refine Hid.out ?_))
      refine Lib.hid ?_
      have hb23 := Lib.hid (hb2.trans (hb3.mono hb2.size))
      clear hb2 hb3
      go_wp2_with (first
        | (go_at_call 9; (with_reducible refine (H3.out _).mono ?_); rintro e w4 ⟨rfl, hb4⟩; have hb24 := Lib.hid (hb23.out.trans (hb4.mono hb23.out.size)); clear hb4)
        | (go_at_call 8; (with_reducible refine (HA.out _ hb24.out).mono ?_); rintro e w5 ⟨rfl, hb5⟩))
      go_ret
      exact ⟨rfl, hb24.out.trans (hb5.mono hb24.out.size)⟩
end Go.Proofs.YthbodojhddmbhaaDoor.Pa
