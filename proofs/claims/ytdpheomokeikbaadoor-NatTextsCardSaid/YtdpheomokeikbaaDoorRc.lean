/- Two numbers alike, field by field. Conditions: the digits can be read. -/
import Derived.Test.YtdpheomokeikbaaDoorRb
namespace Go.Proofs.YtdpheomokeikbaaDoor
open Go.RowKit Go.NT Go.Lib

@[go_sem] theorem ext64 (x : Nat) (w : World) : (callFunc 64 #[.float .f64 x]).run Tryd.prog w = .ok (.value (.int .u64 x)) w := by
  rw [run_callFunc_extern Tryd.func64 (by kernel_rfl) (by kernel_rfl) (by kernel_rfl) (e := Extern.MathFloatBits.float64bits) (by kernel_rfl)]; rfl
theorem bits0 (w : World) : Calls Tryd.prog 54 #[.float .f64 0] w fun e w' => e = .returned (.int .u64 0) ∧ w' = w := by
  go_enter Tryd.func54, Tryd.ntmps54
  go_wp2_with fail
  go_ret
  exact ⟨rfl, rfl⟩
theorem fsame0 (w : World) : Calls Tryd.prog 46 #[.float .f64 0, .float .f64 0] w fun e w' => e = .returned (.bool true) ∧ w' = w := by
  go_enter Tryd.func46, Tryd.ntmps46
  go_wp2_with (go_at_call 54; refine (bits0 _).mono ?_; rintro e w' ⟨rfl, rfl⟩)
  go_ret
  exact ⟨rfl, rfl⟩
set_option maxRecDepth 100000 in
set_option maxHeartbeats 1000000 in
theorem fields_true (b : Bool) (A A' : Option Addr) (n c c' : Nat) (xs : List Int) (w : World) (hx : NV w A n c xs) (hy : NV w A' n c' xs) :
    Calls Tryd.prog 37 #[.agg #[.int .i64 0, .bool b, .slice A n c, .int .i64 0, .float .f64 0], .agg #[.int .i64 0, .bool b, .slice A' n c', .int .i64 0, .float .f64 0]] w fun e w' => e = .returned (.bool true) ∧ Below w.heap.size w w' := by
  obtain ⟨h1, h2, h3, h4⟩ := hx
  obtain ⟨k1, k2, _, _⟩ := hy
  have r1 : ∀ o o' : Obj, Reads ((w.alloc o).alloc o') w.heap.size 1 A n (xs.map (Value.int .u32)) := fun o o' => (h1.alloc (Nat.le_refl _) o).alloc (by simp) o'
  have r2 : ∀ o o' : Obj, Reads ((w.alloc o).alloc o') w.heap.size 1 A' n (xs.map (Value.int .u32)) := fun o o' => (k1.alloc (Nat.le_refl _) o).alloc (by simp) o'
  have hb2 : ∀ o o' : Obj, Below w.heap.size w ((w.alloc o).alloc o') := fun o o' => below_al (below_al (Below.refl _ _) o) o'
  clear h1 k1
  go_enter Tryd.func37, Tryd.ntmps37
  go_wp2_with (go_at_call 46; refine (fsame0 _).mono ?_; rintro e w' ⟨rfl, rfl⟩)
  go_loopw [5] (fun v wr => ∃ k : Nat, Quiet ((w.alloc (Obj.cells #[.int .i64 0, .bool b, .slice A n c, .int .i64 0, .float .f64 0] 64)).alloc (Obj.cells #[.int .i64 0, .bool b, .slice A' n c', .int .i64 0, .float .f64 0] 64)) wr ∧ k ≤ n ∧ v = .int .i64 k) (fun v _ => n - (RowKit.intOf v).toNat)
  case atStart => exact ⟨0, ⟨0, rfl⟩, Nat.zero_le _, rfl⟩
  case round =>
    obtain ⟨k, hq, hk, rfl⟩ := hrel
    by_cases hlt : k < n
    · obtain ⟨ad, rfl, _, hcx⟩ := (hq.reads (r1 _ _)).get hlt
      obtain ⟨ad', rfl, _, hcy⟩ := (hq.reads (r2 _ _)).get hlt
      generalize xs.getD k 0 = x at *
      have hlt1 : (k : Int) < (n : Int) := by omega
      obtain ⟨q, rfl⟩ := hq
      have hq : Quiet ((w.alloc (Obj.cells #[.int .i64 0, .bool b, .slice (some ad) n c, .int .i64 0, .float .f64 0] 64)).alloc (Obj.cells #[.int .i64 0, .bool b, .slice (some ad') n c', .int .i64 0, .float .f64 0] 64)) (((w.alloc (Obj.cells #[.int .i64 0, .bool b, .slice (some ad) n c, .int .i64 0, .float .f64 0] 64)).alloc (Obj.cells #[.int .i64 0, .bool b, .slice (some ad') n c', .int .i64 0, .float .f64 0] 64)).drewN q) := ⟨q, rfl⟩
      have e1 : (((w.alloc (Obj.cells #[.int .i64 0, .bool b, .slice (some ad) n c, .int .i64 0, .float .f64 0] 64)).alloc (Obj.cells #[.int .i64 0, .bool b, .slice (some ad') n c', .int .i64 0, .float .f64 0] 64)).drewN q).cell? ⟨w.heap.size, 2, none⟩ = some (.slice (some ad) n c) := by go_simp
      have e2 : (((w.alloc (Obj.cells #[.int .i64 0, .bool b, .slice (some ad) n c, .int .i64 0, .float .f64 0] 64)).alloc (Obj.cells #[.int .i64 0, .bool b, .slice (some ad') n c', .int .i64 0, .float .f64 0] 64)).drewN q).cell? ⟨w.heap.size + 1, 2, none⟩ = some (.slice (some ad') n c') := by go_simp
      generalize (((w.alloc (Obj.cells #[.int .i64 0, .bool b, .slice (some ad) n c, .int .i64 0, .float .f64 0] 64)).alloc (Obj.cells #[.int .i64 0, .bool b, .slice (some ad') n c', .int .i64 0, .float .f64 0] 64)).drewN q) = Wq at *
      go_wp2_with fail
      go_quiet (fail)
      go_wp2_with fail
      go_roundw
      case rel => exact ⟨k + 1, hq.drewN _, by omega, by go_num⟩
      case measure => simp [RowKit.intOf]; omega
    · obtain rfl : k = n := by omega
      have hf := hq.from (hb2 _ _)
      obtain ⟨q, rfl⟩ := hq
      go_wp2_with fail
      go_ret
      exact ⟨rfl, hf⟩
theorem same_true (b : Bool) (A A' : Option Addr) (n c c' : Nat) (xs : List Int) (w : World) (hx : NV w A n c xs) (hy : NV w A' n c' xs) :
    Calls Tryd.prog 18 #[.agg #[.bool b, .slice A n c], .agg #[.bool b, .slice A' n c']] w fun e w' => e = .returned (.bool true) ∧ Below w.heap.size w w' := by
  have hb2 : ∀ o o' : Obj, Below w.heap.size w ((w.alloc o).alloc o') := fun o o' => below_al (below_al (Below.refl _ _) o) o'
  go_enter Tryd.func18, Tryd.ntmps18
  go_wp2_with (go_at_call 37; (with_reducible refine (fields_true b A A' n c c' xs _ (hx.below (hb2 _ _)) (hy.below (hb2 _ _))).mono ?_); rintro e w' ⟨rfl, hb⟩)
  go_ret
  exact ⟨rfl, below_step (hb2 _ _) hb (hb2 _ _).size⟩
end Go.Proofs.YtdpheomokeikbaaDoor
