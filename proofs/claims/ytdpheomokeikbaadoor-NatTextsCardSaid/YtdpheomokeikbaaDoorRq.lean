/- Unbytes, and the document's own, where the bytes are none, too few or too many; the infinite one. Conditions: the bytes can be read. -/
import Derived.Test.YtdpheomokeikbaaDoorRz
namespace Go.Proofs.YtdpheomokeikbaaDoor
open Go.RowKit Go.NT Go.Lib

set_option maxRecDepth 100000 in
set_option maxHeartbeats 2000000 in
theorem unb_none (A : Option Addr) (c : Nat) (w : World) :
    Calls Tryd.prog 30 #[.slice A 0 c] w fun e w' => e = .returned (.tuple #[.agg #[.bool false, .slice none 0 0], .int .i64 0, .int .i64 13]) ∧ Below w.heap.size w w' := by
  go_enter Tryd.func30, Tryd.ntmps30
  go_wp2_with fail
  exact bodyPost_ret (v := (.tuple #[.agg #[.bool false, .slice none 0 0], .int .i64 0, .int .i64 13])) (by simp [results, Tryd.results30, go_sem]) rfl ⟨rfl, by first | exact below_al (Below.refl _ _) _ | exact ((below_al (Below.refl _ _) _).setCell (p := ⟨w.heap.size, 0, none⟩) (Nat.le_refl _) _).setCell (p := ⟨w.heap.size, 1, none⟩) (Nat.le_refl _) _⟩
set_option maxRecDepth 100000 in
set_option maxHeartbeats 2000000 in
theorem unb_much (A : Option Addr) (L c : Nat) (zs : List Int) (w : World) (h : Reads w w.heap.size 1 A L (zs.map (Value.int .u8))) (hL : 0 < L) (z : Int) (h0 : zs.getD 0 0 = z) (hne : z ≠ 255) (hz : 64 < z) (_hzu : z ≤ 255) :
    Calls Tryd.prog 30 #[.slice A L c] w fun e w' => e = .returned (.tuple #[.agg #[.bool false, .slice none 0 0], .int .i64 0, .int .i64 13]) ∧ Below w.heap.size w w' := by
  have hL1 : (0 : Int) < (L : Int) := by omega
  have hl0 : ((L : Int) == 0) = false := by simp only [beq_eq_false_iff_ne, ne_eq]; omega
  have hn2 : (z == 255) = false := by simp only [beq_eq_false_iff_ne, ne_eq]; exact hne
  have g1 : (64 : Int) < z := hz
  obtain ⟨ad, rfl, hb, hc⟩ := ReadsB.get (h.alloc (Nat.le_refl _) (Obj.cells #[.bool false, .slice none 0 0] 24)) hL
  rw [h0, show ad.add 0 = ad by unfold Addr.add; simp] at hc
  clear h0 hne
  go_enter Tryd.func30, Tryd.ntmps30
  go_wp2_with fail
  exact bodyPost_ret (v := (.tuple #[.agg #[.bool false, .slice none 0 0], .int .i64 0, .int .i64 13])) (by simp [results, Tryd.results30, go_sem]) rfl ⟨rfl, by first | exact below_al (Below.refl _ _) _ | exact ((below_al (Below.refl _ _) _).setCell (p := ⟨w.heap.size, 0, none⟩) (Nat.le_refl _) _).setCell (p := ⟨w.heap.size, 1, none⟩) (Nat.le_refl _) _⟩
set_option maxRecDepth 100000 in
set_option maxHeartbeats 2000000 in
theorem unb_few (A : Option Addr) (L c : Nat) (zs : List Int) (w : World) (h : Reads w w.heap.size 1 A L (zs.map (Value.int .u8))) (hL : 0 < L) (z : Int) (h0 : zs.getD 0 0 = z) (hne : z ≠ 255) (hz : ¬ 64 < z) (hz0 : 0 ≤ z) (hfew : (L : Int) < 1 + 4 * z) (_hzu : z ≤ 255) :
    Calls Tryd.prog 30 #[.slice A L c] w fun e w' => e = .returned (.tuple #[.agg #[.bool false, .slice none 0 0], .int .i64 0, .int .i64 13]) ∧ Below w.heap.size w w' := by
  have hL1 : (0 : Int) < (L : Int) := by omega
  have hl0 : ((L : Int) == 0) = false := by simp only [beq_eq_false_iff_ne, ne_eq]; omega
  have hn2 : (z == 255) = false := by simp only [beq_eq_false_iff_ne, ne_eq]; exact hne
  have g1 : ¬ (64 : Int) < z := hz
  have g4 : z ≤ 64 := by omega
  obtain ⟨ad, rfl, hb, hc⟩ := ReadsB.get (h.alloc (Nat.le_refl _) (Obj.cells #[.bool false, .slice none 0 0] 24)) hL
  rw [h0, show ad.add 0 = ad by unfold Addr.add; simp] at hc
  clear h0 hne
  go_enter Tryd.func30, Tryd.ntmps30
  go_wp2_with fail
  exact bodyPost_ret (v := (.tuple #[.agg #[.bool false, .slice none 0 0], .int .i64 0, .int .i64 13])) (by simp [results, Tryd.results30, go_sem]) rfl ⟨rfl, by first | exact below_al (Below.refl _ _) _ | exact ((below_al (Below.refl _ _) _).setCell (p := ⟨w.heap.size, 0, none⟩) (Nat.le_refl _) _).setCell (p := ⟨w.heap.size, 1, none⟩) (Nat.le_refl _) _⟩
set_option maxRecDepth 100000 in
set_option maxHeartbeats 2000000 in
theorem runb_none (A : Option Addr) (c : Nat) (w : World) :
    Calls Tryd.prog 31 #[.slice A 0 c] w fun e w' => e = .returned (.tuple #[.agg #[.bool false, .slice none 0 0], .int .i64 0, .int .i64 13]) ∧ Below w.heap.size w w' := by
  go_enter Tryd.func31, Tryd.ntmps31
  go_wp2_with fail
  exact bodyPost_ret (v := (.tuple #[.agg #[.bool false, .slice none 0 0], .int .i64 0, .int .i64 13])) (by simp [results, Tryd.results31, go_sem]) rfl ⟨rfl, by first | exact below_al (Below.refl _ _) _ | exact ((below_al (Below.refl _ _) _).setCell (p := ⟨w.heap.size, 0, none⟩) (Nat.le_refl _) _).setCell (p := ⟨w.heap.size, 1, none⟩) (Nat.le_refl _) _⟩
set_option maxRecDepth 100000 in
set_option maxHeartbeats 2000000 in
theorem runb_much (A : Option Addr) (L c : Nat) (zs : List Int) (w : World) (h : Reads w w.heap.size 1 A L (zs.map (Value.int .u8))) (hL : 0 < L) (z : Int) (h0 : zs.getD 0 0 = z) (hne : z ≠ 255) (hz : 64 < z) (hzu : z ≤ 255) :
    Calls Tryd.prog 31 #[.slice A L c] w fun e w' => e = .returned (.tuple #[.agg #[.bool false, .slice none 0 0], .int .i64 0, .int .i64 13]) ∧ Below w.heap.size w w' := by
  have hL1 : (0 : Int) < (L : Int) := by omega
  have hl0 : ((L : Int) == 0) = false := by simp only [beq_eq_false_iff_ne, ne_eq]; omega
  have hn2 : (z == 255) = false := by simp only [beq_eq_false_iff_ne, ne_eq]; exact hne
  have g1 : (64 : Int) < z := hz
  obtain ⟨ad, rfl, hb, hc⟩ := ReadsB.get (h.alloc (Nat.le_refl _) (Obj.cells #[.bool false, .slice none 0 0] 24)) hL
  rw [h0, show ad.add 0 = ad by unfold Addr.add; simp] at hc
  clear h0 hne
  go_enter Tryd.func31, Tryd.ntmps31
  go_wp2_with fail
  exact bodyPost_ret (v := (.tuple #[.agg #[.bool false, .slice none 0 0], .int .i64 0, .int .i64 13])) (by simp [results, Tryd.results31, go_sem]) rfl ⟨rfl, by first | exact below_al (Below.refl _ _) _ | exact ((below_al (Below.refl _ _) _).setCell (p := ⟨w.heap.size, 0, none⟩) (Nat.le_refl _) _).setCell (p := ⟨w.heap.size, 1, none⟩) (Nat.le_refl _) _⟩
set_option maxRecDepth 100000 in
set_option maxHeartbeats 2000000 in
theorem runb_few (A : Option Addr) (L c : Nat) (zs : List Int) (w : World) (h : Reads w w.heap.size 1 A L (zs.map (Value.int .u8))) (hL : 0 < L) (z : Int) (h0 : zs.getD 0 0 = z) (hne : z ≠ 255) (hz : ¬ 64 < z) (hz0 : 0 ≤ z) (hfew : (L : Int) < 1 + 4 * z) (_hzu : z ≤ 255) :
    Calls Tryd.prog 31 #[.slice A L c] w fun e w' => e = .returned (.tuple #[.agg #[.bool false, .slice none 0 0], .int .i64 0, .int .i64 13]) ∧ Below w.heap.size w w' := by
  have hL1 : (0 : Int) < (L : Int) := by omega
  have hl0 : ((L : Int) == 0) = false := by simp only [beq_eq_false_iff_ne, ne_eq]; omega
  have hn2 : (z == 255) = false := by simp only [beq_eq_false_iff_ne, ne_eq]; exact hne
  have g1 : ¬ (64 : Int) < z := hz
  have g4 : z ≤ 64 := by omega
  obtain ⟨ad, rfl, hb, hc⟩ := ReadsB.get (h.alloc (Nat.le_refl _) (Obj.cells #[.bool false, .slice none 0 0] 24)) hL
  rw [h0, show ad.add 0 = ad by unfold Addr.add; simp] at hc
  clear h0 hne
  go_enter Tryd.func31, Tryd.ntmps31
  go_wp2_with fail
  exact bodyPost_ret (v := (.tuple #[.agg #[.bool false, .slice none 0 0], .int .i64 0, .int .i64 13])) (by simp [results, Tryd.results31, go_sem]) rfl ⟨rfl, by first | exact below_al (Below.refl _ _) _ | exact ((below_al (Below.refl _ _) _).setCell (p := ⟨w.heap.size, 0, none⟩) (Nat.le_refl _) _).setCell (p := ⟨w.heap.size, 1, none⟩) (Nat.le_refl _) _⟩
set_option maxRecDepth 100000 in
set_option maxHeartbeats 2000000 in
theorem runb_inf (A : Option Addr) (L c : Nat) (zs : List Int) (w : World) (h : Reads w w.heap.size 1 A L (zs.map (Value.int .u8))) (hL : 0 < L) (h0 : zs.getD 0 0 = 255) :
    Calls Tryd.prog 31 #[.slice A L c] w fun e w' => e = .returned (.tuple #[.agg #[.bool true, .slice none 0 0], .int .i64 1, .int .i64 0]) ∧ Below w.heap.size w w' := by
  have hL1 : (0 : Int) < (L : Int) := by omega
  have hl0 : ((L : Int) == 0) = false := by simp only [beq_eq_false_iff_ne, ne_eq]; omega
  obtain ⟨ad, rfl, hb, hc⟩ := ReadsB.get (h.alloc (Nat.le_refl _) (Obj.cells #[.bool false, .slice none 0 0] 24)) hL
  rw [h0, show ad.add 0 = ad by unfold Addr.add; simp] at hc
  clear h0
  go_enter Tryd.func31, Tryd.ntmps31
  go_wp2_with fail
  exact bodyPost_ret (v := .tuple #[.agg #[.bool true, .slice none 0 0], .int .i64 1, .int .i64 0]) (by simp [results, Tryd.results31, go_sem]) rfl ⟨rfl, by first | exact below_al (Below.refl _ _) _ | exact ((below_al (Below.refl _ _) _).setCell (p := ⟨w.heap.size, 0, none⟩) (Nat.le_refl _) _).setCell (p := ⟨w.heap.size, 1, none⟩) (Nat.le_refl _) _⟩
end Go.Proofs.YtdpheomokeikbaaDoor
