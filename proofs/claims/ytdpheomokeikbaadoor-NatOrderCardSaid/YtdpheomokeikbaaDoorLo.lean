/- The walk of the law NatOrder, whatever the numbers. Conditions: the digits can be read; the table of powers is laid. -/
import Derived.Test.YtdpheomokeikbaaDoorOt
import Derived.Test.YtdpheomokeikbaaDoorOu
import Derived.Test.YtdpheomokeikbaaDoorOv
namespace Go.Proofs.YtdpheomokeikbaaDoor
open Go.RowKit Go.NT Go.Lib

theorem natOrder_law (w : World) (ht : Tab w) (b1 : Bool) (A1 : Option Addr) (n1 c1 : Nat) (xs : List Int) (hx : NV w A1 n1 c1 xs) (b2 : Bool) (A2 : Option Addr) (n2 c2 : Nat) (ys : List Int) (hy : NV w A2 n2 c2 ys)
    (b3 : Bool) (A3 : Option Addr) (n3 c3 : Nat) (zs : List Int) (hz : NV w A3 n3 c3 zs) :
    Calls Tryd.prog 3 #[.agg #[.bool b1, .slice A1 n1 c1], .agg #[.bool b2, .slice A2 n2 c2], .agg #[.bool b3, .slice A3 n3 c3]] w fun e w' => e = .returned (.bool true) ∧ Below w.heap.size w w' := by
  by_cases hs : n1 ≤ 100 ∧ n2 ≤ 100 ∧ n3 ≤ 100
  · obtain ⟨h1, h2, h3⟩ := hs
    rcases cmpM_cases (mean b1 xs) (mean b2 ys) with e | e | e
    · have hn : cmpM (mean b2 ys) (mean b1 xs) = 1 := by rw [cmpM_neg, e]; rfl
      have hle : cmpM (mean b1 xs) (mean b2 ys) ≤ 0 := by rw [e]; decide
      by_cases hS : cmpM (mean b2 ys) (mean b3 zs) ≤ 0
      · exact order_lt_le w ht b1 b2 b3 A1 A2 A3 n1 n2 n3 c1 c2 c3 xs ys zs hx hy hz h1 h2 h3 (Lib.hid hle) (Lib.hid e) (Lib.hid hn) _ (Lib.hid rfl) hS (Lib.hid (cmpM_trans hle hS))
      · exact order_lt_no w ht b1 b2 b3 A1 A2 A3 n1 n2 n3 c1 c2 c3 xs ys zs hx hy hz h1 h2 h3 (Lib.hid hle) (Lib.hid e) (Lib.hid hn) _ (Lib.hid rfl) hS
    · have hn : cmpM (mean b2 ys) (mean b1 xs) = 0 := by rw [cmpM_neg, e]; rfl
      have hle : cmpM (mean b1 xs) (mean b2 ys) ≤ 0 := by rw [e]; decide
      by_cases hS : cmpM (mean b2 ys) (mean b3 zs) ≤ 0
      · exact order_eq_le w ht b1 b2 b3 A1 A2 A3 n1 n2 n3 c1 c2 c3 xs ys zs hx hy hz h1 h2 h3 (Lib.hid hle) (Lib.hid e) (Lib.hid hn) _ (Lib.hid rfl) hS (Lib.hid (cmpM_trans hle hS))
      · exact order_eq_no w ht b1 b2 b3 A1 A2 A3 n1 n2 n3 c1 c2 c3 xs ys zs hx hy hz h1 h2 h3 (Lib.hid hle) (Lib.hid e) (Lib.hid hn) _ (Lib.hid rfl) hS
    · have hn : cmpM (mean b2 ys) (mean b1 xs) = -1 := by rw [cmpM_neg, e]
      exact order_gt w ht b1 b2 b3 A1 A2 A3 n1 n2 n3 c1 c2 c3 xs ys zs hx hy hz h1 h2 h3 (Lib.hid e) (Lib.hid hn)
  · exact order_big w ht b1 b2 b3 A1 A2 A3 n1 n2 n3 c1 c2 c3 hx.2.2.2 hy.2.2.2 hz.2.2.2 hs
end Go.Proofs.YtdpheomokeikbaaDoor
