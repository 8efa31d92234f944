/- The walk of 'is'. Condition: the reader lies in memory. -/
import Derived.Test.YtfjblhalfgildaaDoorQa
namespace Go.Proofs.YtfjblhalfgildaaDoor.Pa
open Go.RowKit Go.Lib Na Go.PN

theorem drop_get {s : ByteArray} {i : Nat} {b : UInt8} {u : List UInt8} (h : s.data.toList.drop i = b :: u) : ∃ hi : i < s.size, s[i]'hi = b := by
  have hl := congrArg List.length h
  have hz : s.data.toList.length = s.size := by simp
  rw [List.length_drop, hz, List.length_cons] at hl
  have hi : i < s.size := by omega
  refine ⟨hi, ?_⟩
  have h2 := congrArg (fun l => l[0]?) h
  simp only [List.getElem?_drop, Nat.add_zero, List.getElem?_cons_zero] at h2
  rw [List.getElem?_eq_getElem (by rw [hz]; exact hi)] at h2
  exact Option.some.inj h2
theorem drop_next {l : List UInt8} {i : Nat} {b : UInt8} {u : List UInt8} (h : l.drop i = b :: u) : l.drop (i + 1) = u := by
  rw [← List.drop_drop, h]; rfl
theorem drop_end {s : ByteArray} {i : Nat} (h : s.data.toList.drop i = []) : s.size ≤ i := by
  have hl := congrArg List.length h
  have hz : s.data.toList.length = s.size := by simp
  rw [List.length_drop, hz, List.length_nil] at hl
  omega
theorem below_drewN (B : Nat) (w : World) (n : Nat) : Below B w (w.drewN n) := ⟨rfl, rfl, rfl, Nat.le_refl _, fun _ _ => rfl⟩
set_option maxRecDepth 100000 in
set_option maxHeartbeats 4000000 in
theorem is_end (R : Nat) (s : ByteArray) (i : Nat) (d : Int) (c : UInt8) (w : World) (h : RS w R s i d) (ht : s.data.toList.drop i = []) (hm : s.size ≤ 9223372036854775806) :
    Calls Tryd.prog 49 #[.pointer (some ⟨R, 0, none⟩), .int .u8 (c.toNat : Int)] w fun e w' => e = .returned (.bool false) ∧ Kp [R] w w' ∧ RS w' R s i d := by
  have h0 := h.c0
  have h1 := h.c1
  have hi := drop_end ht
  have tg : decide (i < s.size) = false := decide_eq_false (by omega)
  have HR := Lib.hid h
  clear h ht
  go_enter Tryd.func49, Tryd.ntmps49
  go_wp2_with fail
  go_quiet (fail)
  go_wp2_with fail
  go_ret
  exact ⟨rfl, .of_below (below_drewN _ _ _), HR.out.below (below_drewN _ _ _)⟩
set_option maxRecDepth 100000 in
set_option maxHeartbeats 4000000 in
theorem is_other (R : Nat) (s : ByteArray) (i : Nat) (d : Int) (b c : UInt8) (u : List UInt8) (w : World) (h : RS w R s i d) (ht : s.data.toList.drop i = b :: u) (hm : s.size ≤ 9223372036854775806) (hbc : b ≠ c) :
    Calls Tryd.prog 49 #[.pointer (some ⟨R, 0, none⟩), .int .u8 (c.toNat : Int)] w fun e w' => e = .returned (.bool false) ∧ Kp [R] w w' ∧ RS w' R s i d := by
  have h0 := h.c0
  have h1 := h.c1
  obtain ⟨hi, hb⟩ := drop_get ht
  have tg : decide (i < s.size) = true := decide_eq_true hi
  have hi1 : (0 : Int) ≤ (i : Int) := by omega
  have hi2 : (i : Int) < (s.size : Int) := by omega
  have te : ((b.toNat : Int) == (c.toNat : Int)) = false := by
    rw [beq_eq_false_iff_ne]
    intro e
    exact hbc (UInt8.toNat_inj.1 (by omega))
  have te2 : (b.toNat == c.toNat) = false := by
    rw [beq_eq_false_iff_ne]
    intro e
    exact hbc (UInt8.toNat_inj.1 e)
  generalize hx : s[i]'hi = b' at *
  subst hb
  have HR := Lib.hid h
  clear h ht hbc
  go_enter Tryd.func49, Tryd.ntmps49
  go_wp2_with fail
  go_quiet (fail)
  go_wp2_with fail
  go_ret
  exact ⟨rfl, .of_below (below_drewN _ _ _), HR.out.below (below_drewN _ _ _)⟩
set_option maxRecDepth 100000 in
set_option maxHeartbeats 4000000 in
theorem is_that (R : Nat) (s : ByteArray) (i : Nat) (d : Int) (c : UInt8) (u : List UInt8) (w : World) (h : RS w R s i d) (ht : s.data.toList.drop i = c :: u) (hm : s.size ≤ 9223372036854775806) :
    Calls Tryd.prog 49 #[.pointer (some ⟨R, 0, none⟩), .int .u8 (c.toNat : Int)] w fun e w' => e = .returned (.bool true) ∧ Kp [R] w w' ∧ RS w' R s (i + 1 : Nat) d := by
  have h0 := h.c0
  have h1 := h.c1
  have h2 := h.f1
  obtain ⟨hi, hb⟩ := drop_get ht
  have tg : decide (i < s.size) = true := decide_eq_true hi
  have hi1 : (0 : Int) ≤ (i : Int) := by omega
  have hi2 : (i : Int) < (s.size : Int) := by omega
  generalize hx : s[i]'hi = b' at *
  subst hb
  have HR := Lib.hid h
  clear h ht
  go_enter Tryd.func49, Tryd.ntmps49
  go_wp2_with fail
  go_quiet (fail)
  go_wp2_with fail
  go_ret
  exact ⟨rfl, (Kp.of_below (below_drewN _ _ _)).set (Or.inl (by simp)) _, (HR.out.below (below_drewN w.heap.size w nq)).set1 ((i : Int) + 1)⟩
end Go.Proofs.YtfjblhalfgildaaDoor.Pa
