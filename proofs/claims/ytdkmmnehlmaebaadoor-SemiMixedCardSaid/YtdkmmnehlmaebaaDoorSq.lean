/- The law SemiStars: too long a number, and no value. Conditions: the table of powers is laid; the value can be read. -/
import Derived.Test.YtdkmmnehlmaebaaDoorSp
namespace Go.Proofs.YtdkmmnehlmaebaaDoor.Se
open Go.RowKit Go.NT Go.FT Go.FX Go.Lib Na

/-- One value in a row of arguments. -/
theorem small1 (g : Nat) (a : SV) (w : World) (t : Bool) (ht : Hid (decide (a.n ≤ 60) = t)) (hn : a.n ≤ 9223372036854775807) (k : w.cell? ⟨g, 2, none⟩ = some (.slice a.A a.n a.c)) :
    Calls Tryd.prog 12 #[.slice (some ⟨g, 0, none⟩) 1 1] w fun e w' => e = .returned (.bool t) ∧ w' = w := by
  refine (small_any g (fun _ => a.n) (fun _ => a.c) (fun _ => a.A) 1 1 w (by omega) (by omega) ?_ (fun _ => hn)).mono ?_
  · intro i hi
    obtain rfl : i = 0 := by omega
    exact k
  · rintro e w' ⟨rfl, rfl⟩
    refine ⟨?_, rfl⟩
    rw [← ht.out]
    congr 2
    rw [decide_eq_decide]
    exact ⟨fun h => h 0 (by omega), fun h _ _ => h⟩
set_option maxRecDepth 100000 in
set_option maxHeartbeats 1000000 in
theorem stars_big (a : SV) (w : World) (ht : Tab w) (ha : a.ok w) (hs : decide (a.n ≤ 60) = false) :
    Calls Tryd.prog 3 #[a.v] w fun e w' => e = .returned (.bool true) ∧ Below w.heap.size w w' := by
  have hs' := Lib.hid hs
  have hn := ha.1.2.2.2
  have hB : ∀ o1 o2 : Obj, Below w.heap.size w ((w.alloc o1).alloc o2) := fun o1 o2 => below_al (below_al (Below.refl _ _) o1) o2
  clear hs ha
  unfold SV.v
  go_enter Tryd.func3, Tryd.ntmps3
  go_wp2_with (first
    | (go_at_call 12; (with_reducible refine (small1 _ a _ false hs' hn (by go_simp)).mono ?_); rintro e w1 ⟨rfl, rfl⟩)
    | (go_at_call 13; (with_reducible refine (awake_any _ (ht.below (hB _ _))).mono ?_); rintro e w2 ⟨rfl, hb2⟩))
  go_ret
  exact ⟨rfl, below_go (hB _ _) hb2⟩
/-- A value in its box, and once more in a row of arguments. -/
theorem boxed {w : World} {a : SV} (ha : a.ok w) (ht : Tab w) : ∀ W, W = (w.alloc (.cells #[.int .i64 a.s, .bool a.b, .slice a.A a.n a.c, .int .i64 a.lv, .float .f64 a.x] 27)).alloc (.cells #[.int .i64 a.s, .bool a.b, .slice a.A a.n a.c, .int .i64 a.lv, .float .f64 a.x] 27) → Five W w.heap.size a ∧ Below w.heap.size w W ∧ Tab W := by
  intro W hW
  subst hW
  have hb := below_al (below_al (Below.refl w.heap.size w) (.cells #[.int .i64 a.s, .bool a.b, .slice a.A a.n a.c, .int .i64 a.lv, .float .f64 a.x] 27)) (.cells #[.int .i64 a.s, .bool a.b, .slice a.A a.n a.c, .int .i64 a.lv, .float .f64 a.x] 27)
  exact ⟨(five_new w a ha).al _, hb, ht.below hb⟩
set_option maxRecDepth 100000 in
set_option maxHeartbeats 1000000 in
theorem stars_no (a : SV) (w : World) (ht : Tab w) (ha : a.ok w) (hs : decide (a.n ≤ 60) = true) (M : Int) (HM : Hid (a.may = M)) (hM : (M != 0) = true) :
    Calls Tryd.prog 3 #[a.v] w fun e w' => e = .returned (.bool true) ∧ Below w.heap.size w w' := by
  have hs' := Lib.hid hs
  have hn := ha.1.2.2.2
  have h2 := Lib.hid (boxed ha ht _ rfl)
  clear hs ha ht
  unfold SV.v
  go_enter Tryd.func3, Tryd.ntmps3
  go_wp2_with (first
    | (go_at_call 12; (with_reducible refine (small1 _ a _ true hs' hn (by go_simp)).mono ?_); rintro e w1 ⟨rfl, rfl⟩)
    | (go_at_call 14; (with_reducible refine (star_no a _ 2 h2.out.1.ok M hM HM).mono ?_); rintro e w2 ⟨s, rfl, so, sC, sc, sn, hb2⟩; have F2 := Lib.hid ((h2.out.1.go hb2).al (.cells #[.int .i64 s.s, .bool s.b, .slice s.A s.n s.c, .int .i64 s.lv, .float .f64 s.x] 27)); have B2 := Lib.hid (below_al (below_go h2.out.2.1 hb2) (.cells #[.int .i64 s.s, .bool s.b, .slice s.A s.n s.c, .int .i64 s.lv, .float .f64 s.x] 27)); have T2 := Lib.hid ((h2.out.2.2.below hb2).below (below_al (Below.refl _ _) (.cells #[.int .i64 s.s, .bool s.b, .slice s.A s.n s.c, .int .i64 s.lv, .float .f64 s.x] 27))); obtain ⟨p0, p1, p2, p3, p4, p5, _⟩ := F2.out)
    | (go_at_call 15; (with_reducible refine (rmv_sv a _ F2.out.ok).mono ?_); rw [HM.out]; rintro e w3 ⟨rfl, hb3⟩; have B3 := Lib.hid (below_go B2.out hb3); have T3 := Lib.hid (T2.out.below hb3))
    | (go_at_call 13; (with_reducible refine (awake_any _ T3.out).mono ?_); rintro e w4 ⟨rfl, hb4⟩))
  go_ret
  exact ⟨rfl, below_go B3.out hb4⟩
end Go.Proofs.YtdkmmnehlmaebaaDoor.Se
