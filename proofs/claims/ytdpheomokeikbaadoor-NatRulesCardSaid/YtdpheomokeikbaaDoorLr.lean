/- The walk of the law NatRules, whatever the numbers. Conditions: the digits can be read; the table of powers is laid. -/
import Derived.Test.YtdpheomokeikbaaDoorRu
namespace Go.Proofs.YtdpheomokeikbaaDoor
open Go.RowKit Go.NT Go.Lib

set_option maxRecDepth 100000 in
set_option maxHeartbeats 2000000 in
theorem rules_big (w : World) (ht : Tab w) (b1 b2 b3 : Bool) (A1 A2 A3 : Option Addr) (n1 n2 n3 c1 c2 c3 : Nat) (h1 : n1 ≤ 9223372036854775807) (h2 : n2 ≤ 9223372036854775807) (h3 : n3 ≤ 9223372036854775807) (hs : ¬ (n1 ≤ 100 ∧ n2 ≤ 100 ∧ n3 ≤ 100)) :
    Calls Tryd.prog 4 #[.agg #[.bool b1, .slice A1 n1 c1], .agg #[.bool b2, .slice A2 n2 c2], .agg #[.bool b3, .slice A3 n3 c3]] w fun e w' => e = .returned (.bool true) ∧ Below w.heap.size w w' := by
  have hs' := Lib.hid (decide_eq_false hs)
  clear hs
  have hB : ∀ o1 o2 o3 o4 : Obj, Below w.heap.size w ((((w.alloc o1).alloc o2).alloc o3).alloc o4) := fun o1 o2 o3 o4 => below_al (below_al3 w o1 o2 o3) o4
  go_enter Tryd.func4, Tryd.ntmps4
  go_wp2_with (first
    | (go_at_call 10; (with_reducible refine (small3 _ A1 A2 A3 n1 n2 n3 c1 c2 c3 false hs' _ h1 h2 h3 (by go_simp) (by go_simp) (by go_simp)).mono ?_); rintro e w1 ⟨rfl, rfl⟩)
    | (go_at_call 11; (with_reducible refine (awake_any _ (ht.below (hB _ _ _ _))).mono ?_); rintro e w2 ⟨rfl, hb2⟩))
  go_ret
  exact ⟨rfl, below_go (hB _ _ _ _) hb2⟩
theorem natRules_law (w : World) (ht : Tab w) (b1 : Bool) (A1 : Option Addr) (n1 c1 : Nat) (xs : List Int) (hx : NV w A1 n1 c1 xs) (b2 : Bool) (A2 : Option Addr) (n2 c2 : Nat) (ys : List Int) (hy : NV w A2 n2 c2 ys)
    (b3 : Bool) (A3 : Option Addr) (n3 c3 : Nat) (zs : List Int) (hz : NV w A3 n3 c3 zs) :
    Calls Tryd.prog 4 #[.agg #[.bool b1, .slice A1 n1 c1], .agg #[.bool b2, .slice A2 n2 c2], .agg #[.bool b3, .slice A3 n3 c3]] w fun e w' => e = .returned (.bool true) ∧ Below w.heap.size w w' := by
  by_cases hs : n1 ≤ 100 ∧ n2 ≤ 100 ∧ n3 ≤ 100
  · obtain ⟨h1, h2, h3⟩ := hs
    exact rules_small w ht b1 b2 b3 A1 A2 A3 n1 n2 n3 c1 c2 c3 xs ys zs hx hy hz h1 h2 h3
  · exact rules_big w ht b1 b2 b3 A1 A2 A3 n1 n2 n3 c1 c2 c3 hx.2.2.2 hy.2.2.2 hz.2.2.2 hs
end Go.Proofs.YtdpheomokeikbaaDoor
