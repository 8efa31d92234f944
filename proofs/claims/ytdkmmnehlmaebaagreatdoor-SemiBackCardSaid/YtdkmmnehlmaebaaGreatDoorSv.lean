
/- The document's 'Fields' at two values alike. Conditions: the values can be read. -/
import Derived.Test.YtdkmmnehlmaebaaGreatDoorSt
namespace Go.Proofs.YtdkmmnehlmaebaaGreatDoor.Se
open Go.RowKit Go.NT Go.FT Go.FX Go.Lib Na

theorem con_inj {a b : SV} {w w' : World} (ha : a.ok w) (hb : b.ok w') (ca : a.canon) (cb : b.canon) (h : a.con = b.con) : a.s = b.s ∧ a.b = b.b ∧ a.xs = b.xs ∧ a.lv = b.lv ∧ a.x = b.x := by
  have h1 : a.s = b.s := congrArg Con.s h
  have h2 : mean a.b a.xs = mean b.b b.xs := congrArg Con.m h
  have h3 : a.lv = b.lv := congrArg Con.lv h
  have h4 : a.x = b.x := congrArg Con.x h
  refine ⟨h1, ?_, ?_, h3, h4⟩
  · unfold mean at h2
    cases e1 : a.b <;> cases e2 : b.b <;> rw [e1, e2] at h2 <;> first | rfl | cases h2
  · unfold mean at h2
    cases e1 : a.b <;> cases e2 : b.b <;> rw [e1, e2] at h2
    · injection h2 with h2
      exact NT.inj ha.1.2.2.1 hb.1.2.2.1 ca.1 cb.1 h2
    · cases h2
    · cases h2
    · rw [ca.2 e1, cb.2 e2]
set_option maxRecDepth 100000 in
set_option maxHeartbeats 1000000 in
theorem fields5 (s : Int) (b : Bool) (A A' : Option Addr) (n c c' : Nat) (xs : List Int) (lv : Int) (x : Nat) (w : World) (hx : NV w A n c xs) (hy : NV w A' n c' xs) (hd : x < W64) :
    Calls Tryz.prog 20 #[.agg #[.int .i64 s, .bool b, .slice A n c, .int .i64 lv, .float .f64 x], .agg #[.int .i64 s, .bool b, .slice A' n c', .int .i64 lv, .float .f64 x]] w fun e w' => e = .returned (.bool true) ∧ Below w.heap.size w w' := by
  obtain ⟨h1, h2, h3, h4⟩ := hx
  obtain ⟨k1, k2, _, _⟩ := hy
  have r1 : ∀ o o' : Obj, Reads ((w.alloc o).alloc o') w.heap.size 1 A n (xs.map (Value.int .u32)) := fun o o' => (h1.alloc (Nat.le_refl _) o).alloc (by simp) o'
  have r2 : ∀ o o' : Obj, Reads ((w.alloc o).alloc o') w.heap.size 1 A' n (xs.map (Value.int .u32)) := fun o o' => (k1.alloc (Nat.le_refl _) o).alloc (by simp) o'
  have hb2 : ∀ o o' : Obj, Below w.heap.size w ((w.alloc o).alloc o') := fun o o' => below_al (below_al (Below.refl _ _) o) o'
  have hS := Lib.hid (fun w => rsame_any x x w hd hd)
  rw [same_rfl] at hS
  clear h1 k1 hd
  go_enter Tryz.func20, Tryz.ntmps20
  go_wp2_with (go_at_call 48; (with_reducible refine (hS.out _).mono ?_); rintro e w' ⟨rfl, rfl⟩)
  go_loopw [5] (fun v wr => ∃ k : Nat, Quiet ((w.alloc (Obj.cells #[.int .i64 s, .bool b, .slice A n c, .int .i64 lv, .float .f64 x] 27)).alloc (Obj.cells #[.int .i64 s, .bool b, .slice A' n c', .int .i64 lv, .float .f64 x] 27)) wr ∧ k ≤ n ∧ v = .int .i64 k) (fun v _ => n - (RowKit.intOf v).toNat)
  case atStart => exact ⟨0, ⟨0, rfl⟩, Nat.zero_le _, rfl⟩
  case round =>
    obtain ⟨k, hq, hk, rfl⟩ := hrel
    by_cases hlt : k < n
    · obtain ⟨ad, rfl, _, hcx⟩ := (hq.reads (r1 _ _)).get hlt
      obtain ⟨ad', rfl, _, hcy⟩ := (hq.reads (r2 _ _)).get hlt
      generalize xs.getD k 0 = xx at *
      have hlt1 : (k : Int) < (n : Int) := by omega
      obtain ⟨q, rfl⟩ := hq
      have hq : Quiet ((w.alloc (Obj.cells #[.int .i64 s, .bool b, .slice (some ad) n c, .int .i64 lv, .float .f64 x] 27)).alloc (Obj.cells #[.int .i64 s, .bool b, .slice (some ad') n c', .int .i64 lv, .float .f64 x] 27)) (((w.alloc (Obj.cells #[.int .i64 s, .bool b, .slice (some ad) n c, .int .i64 lv, .float .f64 x] 27)).alloc (Obj.cells #[.int .i64 s, .bool b, .slice (some ad') n c', .int .i64 lv, .float .f64 x] 27)).drewN q) := ⟨q, rfl⟩
      have e1 : (((w.alloc (Obj.cells #[.int .i64 s, .bool b, .slice (some ad) n c, .int .i64 lv, .float .f64 x] 27)).alloc (Obj.cells #[.int .i64 s, .bool b, .slice (some ad') n c', .int .i64 lv, .float .f64 x] 27)).drewN q).cell? ⟨w.heap.size, 2, none⟩ = some (.slice (some ad) n c) := by go_simp
      have e2 : (((w.alloc (Obj.cells #[.int .i64 s, .bool b, .slice (some ad) n c, .int .i64 lv, .float .f64 x] 27)).alloc (Obj.cells #[.int .i64 s, .bool b, .slice (some ad') n c', .int .i64 lv, .float .f64 x] 27)).drewN q).cell? ⟨w.heap.size + 1, 2, none⟩ = some (.slice (some ad') n c') := by go_simp
      generalize (((w.alloc (Obj.cells #[.int .i64 s, .bool b, .slice (some ad) n c, .int .i64 lv, .float .f64 x] 27)).alloc (Obj.cells #[.int .i64 s, .bool b, .slice (some ad') n c', .int .i64 lv, .float .f64 x] 27)).drewN q) = Wq at *
      go_wp2_with fail
      go_quiet (fail)
      go_wp2_with fail
      go_roundw
      case rel => exact ⟨k + 1, hq.drewN _, by omega, by go_num⟩
      case measure => simp [RowKit.intOf]; omega
    · obtain rfl : k = n := by omega
      have hf := hq.from (hb2 _ _)
      obtain ⟨q, rfl⟩ := hq
      go_wp2_with fail
      go_ret
      exact ⟨rfl, hf⟩
theorem fields_yes (a b : SV) (w : World) (ha : a.ok w) (hb : b.ok w) (ca : Hid a.canon) (cb : Hid b.canon) (h : Hid (a.con = b.con)) :
    Calls Tryz.prog 20 #[a.v, b.v] w fun e w' => e = .returned (.bool true) ∧ Below w.heap.size w w' := by
  obtain ⟨h1, h2, h3, h4, h5⟩ := con_inj ha hb ca.out cb.out h.out
  obtain ⟨s, b1, A, n, c, xs, lv, x⟩ := a
  obtain ⟨s', b1', A', n', c', xs', lv', x'⟩ := b
  simp only at h1 h2 h3 h4 h5
  subst h1 h2 h3 h4 h5
  have e1 := ha.1.len
  have e2 := hb.1.len
  simp only at e1 e2
  obtain rfl : n = n' := e1.symm.trans e2
  exact fields5 s b1 A A' n c c' xs lv x w ha.1 hb.1 ha.2
/-- Against a value of no field. -/
theorem fields_none (a : SV) (w : World) (ha : a.ok w) (ca : Hid a.canon) (h : Hid (a.con = noneC)) :
    Calls Tryz.prog 20 #[a.v, .agg #[.int .i64 0, .bool false, .slice none 0 0, .int .i64 0, .float .f64 0]] w fun e w' => e = .returned (.bool true) ∧ Below w.heap.size w w' :=
  fields_yes a (SV.lev 0 0) w ha (lev_ok _ _ _) ca (Lib.hid (lev_canon _ _)) h
end Go.Proofs.YtdkmmnehlmaebaaGreatDoor.Se
