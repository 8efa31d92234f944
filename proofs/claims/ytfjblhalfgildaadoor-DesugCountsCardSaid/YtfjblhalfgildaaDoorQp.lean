/- The walks of bail's 'call', 'Catch'. Condition: what the function does is known. -/
import Derived.Test.YtfjblhalfgildaaDoorQo
import Derived.Defers
import Derived.Recover
import Derived.RegionTactic
namespace Go.Proofs.YtfjblhalfgildaaDoor.Pa
open Go.RowKit Go.Lib Na Go.PN

set_option maxRecDepth 100000 in
set_option maxHeartbeats 4000000 in
theorem catch_idle (C D : Nat) (w : World) :
    CallsD Tryd.prog 34 #[.pointer (some ⟨C, 0, none⟩), .pointer (some ⟨D, 0, none⟩)] .returning w fun e u' w' => e = .returned (.tuple #[]) ∧ u' = .returning ∧ w' = w := by
  refine callsD_of_wpS Tryd.func34 rfl fun c₀ cs hu => ?_
  apply wpS_seq
  apply wpS_region
  simp [wpOpsS, go_sem, recoverD, hu, Tryd.ntmps34, Exit.thenS]
  refine wpS_of_wp ?_
  have HU := Lib.hid hu
  clear hu
  rw [show (#[Value.pointer (some ⟨C, 0, none⟩), Value.pointer (some ⟨D, 0, none⟩)] ++ (Array.replicate 21 undef).setIfInBounds 3 Value.nilIface) = #[.pointer (some ⟨C, 0, none⟩), .pointer (some ⟨D, 0, none⟩), undef, undef, undef, .nilIface, undef, undef, undef, undef, undef, undef, undef, undef, undef, undef, undef, undef, undef, undef, undef, undef, undef] from by simp [Array.replicate, List.replicate]]
  refine Go.wp_mono (Q := fun e a' w' => (e = .normal ∨ e = .ret) ∧ a'.defers = [] ∧ w' = w) ?_ ?_
  · clear HU
    go_wp2
  · intro e a' w' ⟨he, hd, hw⟩
    have hu := HU.out
    cases c₀
    rcases he with rfl | rfl <;> simp_all [bodyPostS, results, Tryd.results34]
set_option maxRecDepth 100000 in
set_option maxHeartbeats 4000000 in
theorem catch_panicking (C D b : Nat) (x y c d : Int) (w : World) (hC : w.cell? ⟨C, 0, none⟩ = some (.int .i64 c)) (hD : w.cell? ⟨D, 0, none⟩ = some (.int .i64 d)) (fC : w.frozen? ⟨C, 0, none⟩ = false) (fD : w.frozen? ⟨D, 0, none⟩ = false) (hCD : C ≠ D) (hDC : D ≠ C)
    (h0 : w.cell? ⟨b, 0, none⟩ = some (.int .i64 x)) (h1 : w.cell? ⟨b, 1, none⟩ = some (.int .i64 y)) (hbC : b ≠ C) (hbD : b ≠ D) (hCb : C ≠ b) (hDb : D ≠ b) :
    CallsD Tryd.prog 34 #[.pointer (some ⟨C, 0, none⟩), .pointer (some ⟨D, 0, none⟩)] (.panicking ({ v := .iface 51 (.pointer (some ⟨b, 0, none⟩)), recovered := false } :: [])) w fun e u' w' => e = .returned (.tuple #[]) ∧ u' = .panicking ({ v := .iface 51 (.pointer (some ⟨b, 0, none⟩)), recovered := true } :: []) ∧ w'.cell? ⟨C, 0, none⟩ = some (.int .i64 x) ∧ w'.cell? ⟨D, 0, none⟩ = some (.int .i64 y) ∧ Kp [C, D] w w' := by
  refine callsD_of_wpS Tryd.func34 rfl fun c₀ cs hu => ?_
  apply wpS_seq
  apply wpS_region
  simp [wpOpsS, go_sem, recoverD, hu, Tryd.ntmps34, Exit.thenS]
  refine wpS_of_wp ?_
  have HU := Lib.hid hu
  clear hu
  rw [show (#[Value.pointer (some ⟨C, 0, none⟩), Value.pointer (some ⟨D, 0, none⟩)] ++ (Array.replicate 21 undef).setIfInBounds 3 (.iface 51 (.pointer (some ⟨b, 0, none⟩)))) = #[.pointer (some ⟨C, 0, none⟩), .pointer (some ⟨D, 0, none⟩), undef, undef, undef, .iface 51 (.pointer (some ⟨b, 0, none⟩)), undef, undef, undef, undef, undef, undef, undef, undef, undef, undef, undef, undef, undef, undef, undef, undef, undef] from by simp [Array.replicate, List.replicate]]
  refine Go.wp_mono (Q := fun e a' w' => (e = .normal ∨ e = .ret) ∧ a'.defers = [] ∧ w'.cell? ⟨C, 0, none⟩ = some (.int .i64 x) ∧ w'.cell? ⟨D, 0, none⟩ = some (.int .i64 y) ∧ Kp [C, D] w w') ?_ ?_
  · clear HU
    have hta : ∀ w : World, (Instr.typeAssert (.iface 51 (.pointer (some ⟨b, 0, none⟩))) 20 51 true).run Tryd.prog w = .ok (.tuple #[.pointer (some ⟨b, 0, none⟩), .bool true]) w := fun w => by
      kernel_rfl
    go_wp2
    go_region
    all_goals
      exact ⟨Or.inl rfl, rfl, by go_simp, by go_simp, (((Kp.refl _ _).set (p := ⟨C, 0, none⟩) (Or.inl (by simp)) _).set (p := ⟨D, 0, none⟩) (Or.inl (by simp)) _).drew⟩
  · intro e a' w' ⟨he, hd, hw⟩
    have hu := HU.out
    cases c₀
    rcases he with rfl | rfl <;> simp_all [bodyPostS, results, Tryd.results34]
set_option maxRecDepth 100000 in
theorem call_ok (a z : Nat) (w : World) (Q : World → Prop) (H : Calls Tryd.prog 31 #[.pointer (some ⟨a, 0, none⟩), .pointer (some ⟨z, 0, none⟩)] w fun e w' => e = .returned (.tuple #[]) ∧ Q w') :
    Calls Tryd.prog 35 #[.func (.func 31) #[] #[.pointer (some ⟨a, 0, none⟩), .pointer (some ⟨z, 0, none⟩)]] w fun e w' => e = .returned (.tuple #[]) ∧ Q w' := by
  have HH := Lib.hid H
  clear H
  have hnf : ∀ (fn : Fn) (first cap : Array Value) (w : World), (binOp .neq 1 (.func fn first cap) .nilFunc).run Tryd.prog w = .ok (.bool true) w := fun _ _ _ _ => rfl
  go_enter Tryd.func35, Tryd.ntmps35
  go_wp2_with (go_at_call 31; (with_reducible refine (HH.out).mono ?_); rintro e w' ⟨rfl, hq⟩)
  first | go_end0 | skip
  exact ⟨rfl, hq⟩
set_option maxRecDepth 100000 in
theorem call_left (a z R : Nat) (w : World) (H : Calls Tryd.prog 31 #[.pointer (some ⟨a, 0, none⟩), .pointer (some ⟨z, 0, none⟩)] w (Left R w)) :
    Calls Tryd.prog 35 #[.func (.func 31) #[] #[.pointer (some ⟨a, 0, none⟩), .pointer (some ⟨z, 0, none⟩)]] w (Left R w) := by
  have HH := Lib.hid H
  clear H
  have hnf : ∀ (fn : Fn) (first cap : Array Value) (w : World), (binOp .neq 1 (.func fn first cap) .nilFunc).run Tryd.prog w = .ok (.bool true) w := fun _ _ _ _ => rfl
  go_enter Tryd.func35, Tryd.ntmps35
  go_wp2_with (go_at_call 31; (with_reducible refine (HH.out).mono ?_); rintro e w' ⟨b, x, rfl, hl1, hl2, hl3, hl4⟩)
  exact ⟨rfl, ⟨b, x, rfl, hl1, hl2, hl3, hl4⟩⟩
end Go.Proofs.YtfjblhalfgildaaDoor.Pa
