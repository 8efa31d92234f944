/- The walk of bail's 'Catch', of the function that 'Read' hands it. Condition: what the function does is known. -/
import Derived.Test.YtfjblhalfgildaaDoorQp
namespace Go.Proofs.YtfjblhalfgildaaDoor.Pa
open Go.RowKit Go.Lib Na Go.PN

abbrev catW (w : World) : World := (w.alloc (.cells #[.int .i64 0] 26)).alloc (.cells #[.int .i64 0] 3)
theorem catW_cells (w : World) : (catW w).cell? ⟨w.heap.size, 0, none⟩ = some (.int .i64 0) ∧ (catW w).cell? ⟨w.heap.size + 1, 0, none⟩ = some (.int .i64 0) ∧ (catW w).frozen? ⟨w.heap.size, 0, none⟩ = false ∧ (catW w).frozen? ⟨w.heap.size + 1, 0, none⟩ = false := by
  refine ⟨?_, ?_, ?_, ?_⟩ <;> go_simp
theorem catW_size (w : World) : (catW w).heap.size = w.heap.size + 2 := by simp
set_option maxRecDepth 100000 in
set_option maxHeartbeats 8000000 in
theorem catch_ok (a z R : Nat) (w : World) (Q : World → Prop) (hR : R < w.heap.size)
    (H : Calls Tryd.prog 31 #[.pointer (some ⟨a, 0, none⟩), .pointer (some ⟨z, 0, none⟩)] (catW w) fun e w' => e = .returned (.tuple #[]) ∧ Q w' ∧ (w'.cell? ⟨w.heap.size, 0, none⟩ = some (.int .i64 0) ∧ w'.cell? ⟨w.heap.size + 1, 0, none⟩ = some (.int .i64 0) ∧ w'.frozen? ⟨w.heap.size, 0, none⟩ = false ∧ w'.frozen? ⟨w.heap.size + 1, 0, none⟩ = false)) :
    Calls Tryd.prog 17 #[.func (.func 31) #[] #[.pointer (some ⟨a, 0, none⟩), .pointer (some ⟨z, 0, none⟩)]] w fun e w' => e = .returned (.tuple #[.int .i64 0, .int .i64 0]) ∧ ∃ w2, Q w2 ∧ w' = (w2.setCell ⟨w.heap.size, 0, none⟩ (.int .i64 0)).setCell ⟨w.heap.size + 1, 0, none⟩ (.int .i64 0) := by
  have hmf : ∀ (fn : Fn) (first cap : Array Value) (w : World), (Instr.makeFunc fn first cap).run Tryd.prog w = .ok (.func fn first cap) w := fun _ _ _ _ => rfl
  have HH := Lib.hid (call_ok a z (catW w) _ H)
  clear H
  go_enter_defers Tryd.func17, Tryd.ntmps17
  go_wp2_with (go_at_call 35; (with_reducible refine (HH.out).mono ?_); rintro e w2 ⟨rfl, hq, c0, c1, f0, f1⟩)
  refine leaves_cons (f := 34) (args := #[.pointer (some ⟨w.heap.size, 0, none⟩), .pointer (some ⟨w.heap.size + 1, 0, none⟩)]) (by simp) (by simp [go_sem]) ?_
  refine (catch_idle w.heap.size (w.heap.size + 1) _).mono ?_
  rintro e u' w'' ⟨rfl, rfl, rfl⟩
  simp [Leaves, settle, results, Tryd.results17, go_sem, c0, c1]
  exact ⟨w2, hq, rfl⟩
set_option maxRecDepth 100000 in
set_option maxHeartbeats 8000000 in
theorem catch_left (a z R : Nat) (w : World) (hR : R < w.heap.size)
    (H : Calls Tryd.prog 31 #[.pointer (some ⟨a, 0, none⟩), .pointer (some ⟨z, 0, none⟩)] (catW w) (Left R (catW w))) :
    Calls Tryd.prog 17 #[.func (.func 31) #[] #[.pointer (some ⟨a, 0, none⟩), .pointer (some ⟨z, 0, none⟩)]] w fun e w' => ∃ x : Int, e = .returned (.tuple #[.int .i64 3, .int .i64 x]) ∧ Kp [R] w w' := by
  have hmf : ∀ (fn : Fn) (first cap : Array Value) (w : World), (Instr.makeFunc fn first cap).run Tryd.prog w = .ok (.func fn first cap) w := fun _ _ _ _ => rfl
  have HH := Lib.hid (call_left a z R (catW w) H)
  clear H
  go_enter_defers Tryd.func17, Tryd.ntmps17
  go_wp2_with (go_at_call 35; (with_reducible refine (HH.out).mono ?_); rintro e w2 ⟨b, x, rfl, hl1, hl2, hl3, hl4⟩)
  obtain ⟨c0, c1, f0, f1⟩ := catW_cells w
  have hz := catW_size w
  rw [hz] at hl3
  have d0 := (hl4.cell (p := ⟨w.heap.size, 0, none⟩) (by rw [hz]; show w.heap.size < _; omega) (by simp; omega)).trans c0
  have d1 := (hl4.cell (p := ⟨w.heap.size + 1, 0, none⟩) (by rw [hz]; show w.heap.size + 1 < _; omega) (by simp; omega)).trans c1
  have g0 := (hl4.frozen (p := ⟨w.heap.size, 0, none⟩) (by rw [hz]; show w.heap.size < _; omega) (by simp; omega)).trans f0
  have g1 := (hl4.frozen (p := ⟨w.heap.size + 1, 0, none⟩) (by rw [hz]; show w.heap.size + 1 < _; omega) (by simp; omega)).trans f1
  refine leaves_cons (f := 34) (args := #[.pointer (some ⟨w.heap.size, 0, none⟩), .pointer (some ⟨w.heap.size + 1, 0, none⟩)]) (by simp) (by simp [go_sem]) ?_
  refine (catch_panicking w.heap.size (w.heap.size + 1) b 3 x 0 0 _ d0 d1 g0 g1 (by omega) (by omega) hl1 hl2 (by omega) (by omega) (by omega) (by omega)).mono ?_
  rintro e u' w'' ⟨rfl, rfl, k0, k1, hk⟩
  simp [Leaves, settle, results, Tryd.results17, go_sem, k0, k1]
  have h1 : Kp [R] w w2 := (show Kp [R] w (catW w) from ((Kp.refl _ _).alloc _).alloc _).trans hl4
  exact ⟨hk.os.trans h1.os, hk.tape.trans h1.tape, hk.output.trans h1.output, Nat.le_trans h1.size hk.size, fun k hk2 hx => (hk.block k (Nat.lt_of_lt_of_le hk2 h1.size) (by simp; omega)).trans (h1.block k hk2 hx)⟩
end Go.Proofs.YtfjblhalfgildaaDoor.Pa
