/- Words for laws on three numbers: numbers in variables of their own, comparisons told by sign; small of three. Conditions: the digits can be read. -/
import Derived.Test.YtdpheomokeikbaaDoorSm
import Derived.Test.YtdpheomokeikbaaDoorOr
import Derived.Deep.RegionHeld3
namespace Go.Proofs.YtdpheomokeikbaaDoor
open Go.RowKit Go.NT Go.Lib

def L3 (a b c : Nat) : Nat → Nat
  | 0 => a
  | 1 => b
  | 2 => c
  | _ => 0
def F3 (a b c : Option Addr) : Nat → Option Addr
  | 0 => a
  | 1 => b
  | _ => c
theorem small3 (g : Nat) (A1 A2 A3 : Option Addr) (n1 n2 n3 c1 c2 c3 : Nat) (t : Bool) (ht : Hid (decide (n1 ≤ 100 ∧ n2 ≤ 100 ∧ n3 ≤ 100) = t)) (w : World)
    (h1 : n1 ≤ 9223372036854775807) (h2 : n2 ≤ 9223372036854775807) (h3 : n3 ≤ 9223372036854775807)
    (k1 : w.cell? ⟨g, 1, none⟩ = some (.slice A1 n1 c1)) (k2 : w.cell? ⟨g, 3, none⟩ = some (.slice A2 n2 c2)) (k3 : w.cell? ⟨g, 5, none⟩ = some (.slice A3 n3 c3)) :
    Calls Tryd.prog 10 #[.slice (some ⟨g, 0, none⟩) 3 3] w fun e w' => e = .returned (.bool t) ∧ w' = w := by
  refine (small_any g (L3 n1 n2 n3) (L3 c1 c2 c3) (F3 A1 A2 A3) 3 3 w (by omega) (by omega) ?_ ?_).mono ?_
  · intro i hi
    match i, hi with
    | 0, _ => exact k1
    | 1, _ => exact k2
    | 2, _ => exact k3
  · intro i
    match i with
    | 0 => exact h1
    | 1 => exact h2
    | 2 => exact h3
    | _ + 3 => exact Nat.zero_le _
  · rintro e w' ⟨rfl, rfl⟩
    refine ⟨?_, rfl⟩
    rw [← ht.out]
    congr 2
    rw [decide_eq_decide]
    constructor
    · intro h; exact ⟨h 0 (by omega), h 1 (by omega), h 2 (by omega)⟩
    · rintro ⟨a, b, c⟩ i hi
      match i, hi with
      | 0, _ => exact a
      | 1, _ => exact b
      | 2, _ => exact c

set_option maxRecDepth 100000 in
set_option maxHeartbeats 2000000 in
theorem order_big (w : World) (ht : Tab w) (b1 b2 b3 : Bool) (A1 A2 A3 : Option Addr) (n1 n2 n3 c1 c2 c3 : Nat) (h1 : n1 ≤ 9223372036854775807) (h2 : n2 ≤ 9223372036854775807) (h3 : n3 ≤ 9223372036854775807) (hs : ¬ (n1 ≤ 100 ∧ n2 ≤ 100 ∧ n3 ≤ 100)) :
    Calls Tryd.prog 3 #[.agg #[.bool b1, .slice A1 n1 c1], .agg #[.bool b2, .slice A2 n2 c2], .agg #[.bool b3, .slice A3 n3 c3]] w fun e w' => e = .returned (.bool true) ∧ Below w.heap.size w w' := by
  have hs' := Lib.hid (decide_eq_false hs)
  clear hs
  have hB : ∀ o1 o2 o3 o4 : Obj, Below w.heap.size w ((((w.alloc o1).alloc o2).alloc o3).alloc o4) := fun o1 o2 o3 o4 => below_al (below_al3 w o1 o2 o3) o4
  go_enter Tryd.func3, Tryd.ntmps3
  go_wp2_with (first
    | (go_at_call 10; (with_reducible refine (small3 _ A1 A2 A3 n1 n2 n3 c1 c2 c3 false hs' _ h1 h2 h3 (by go_simp) (by go_simp) (by go_simp)).mono ?_); rintro e w1 ⟨rfl, rfl⟩)
    | (go_at_call 11; (with_reducible refine (awake_any _ (ht.below (hB _ _ _ _))).mono ?_); rintro e w2 ⟨rfl, hb2⟩))
  go_ret
  exact ⟨rfl, below_go (hB _ _ _ _) hb2⟩
theorem compare_ge (b b' : Bool) (A A' : Option Addr) (n n' c c' : Nat) (xs ys : List Int) (w : World) (hx : NV w A n c xs) (hy : NV w A' n' c' ys) (hk : Hid (0 ≤ cmpM (mean b xs) (mean b' ys))) :
    Calls Tryd.prog 12 #[.agg #[.bool b, .slice A n c], .agg #[.bool b', .slice A' n' c']] w fun e w' => ∃ k : Int, e = .returned (.int .i64 k) ∧ 0 ≤ k ∧ Below w.heap.size w w' :=
  (compare_any b b' A A' n n' c c' xs ys w hx hy).mono fun _ _ ⟨h, hb⟩ => ⟨_, h, hk.out, hb⟩
theorem compare_le (b b' : Bool) (A A' : Option Addr) (n n' c c' : Nat) (xs ys : List Int) (w : World) (hx : NV w A n c xs) (hy : NV w A' n' c' ys) (hk : Hid (cmpM (mean b xs) (mean b' ys) ≤ 0)) :
    Calls Tryd.prog 12 #[.agg #[.bool b, .slice A n c], .agg #[.bool b', .slice A' n' c']] w fun e w' => ∃ k : Int, e = .returned (.int .i64 k) ∧ k ≤ 0 ∧ Below w.heap.size w w' :=
  (compare_any b b' A A' n n' c c' xs ys w hx hy).mono fun _ _ ⟨h, hb⟩ => ⟨_, h, hk.out, hb⟩
theorem compare_ngt (b b' : Bool) (A A' : Option Addr) (n n' c c' : Nat) (xs ys : List Int) (w : World) (hx : NV w A n c xs) (hy : NV w A' n' c' ys) (hk : Hid (cmpM (mean b xs) (mean b' ys) ≤ 0)) :
    Calls Tryd.prog 12 #[.agg #[.bool b, .slice A n c], .agg #[.bool b', .slice A' n' c']] w fun e w' => ∃ k : Int, e = .returned (.int .i64 k) ∧ ¬ 0 < k ∧ Below w.heap.size w w' :=
  (compare_any b b' A A' n n' c c' xs ys w hx hy).mono fun _ _ ⟨h, hb⟩ => ⟨_, h, by have := hk.out; omega, hb⟩
/-- A number in a variable's own cells. -/
def Box (w : World) (g : Nat) (b : Bool) (A : Option Addr) (n c : Nat) (xs : List Int) : Prop :=
  w.cell? ⟨g, 0, none⟩ = some (.bool b) ∧ w.cell? ⟨g, 1, none⟩ = some (.slice A n c) ∧ g < w.heap.size ∧ NV w A n c xs
section
variable {w w' : World} {g : Nat} {b : Bool} {A : Option Addr} {n c : Nat} {xs : List Int}
theorem Box.go (h : Box w g b A n c xs) (hb : Below w.heap.size w w') : Box w' g b A n c xs :=
  ⟨(hb.cell h.2.2.1).trans h.1, (hb.cell h.2.2.1).trans h.2.1, Nat.lt_of_lt_of_le h.2.2.1 hb.size, h.2.2.2.below hb⟩
theorem Box.drew (h : Box w g b A n c xs) : Box w.drew g b A n c xs := ⟨h.1, h.2.1, h.2.2.1, h.2.2.2.drew⟩
theorem Box.nv (h : Box w g b A n c xs) : NV w A n c xs := h.2.2.2
end
/-- What stands throughout: below the caller's heap nothing has turned; the table is laid. -/
def G (w0 w : World) : Prop := Below w0.heap.size w0 w ∧ Tab w
theorem G.go {w0 w w' : World} (h : G w0 w) (hb : Below w.heap.size w w') : G w0 w' := ⟨below_go h.1 hb, h.2.below hb⟩
theorem G.drew {w0 w : World} (h : G w0 w) : G w0 w.drew := ⟨below_dr h.1, h.2.drew⟩
theorem G.below {w0 w : World} (h : G w0 w) : Below w0.heap.size w0 w := h.1
theorem G.tab {w0 w : World} (h : G w0 w) : Tab w := h.2
theorem addM_inf (a : Option Int) : addM a (mean true []) = mean true [] := addM_top a
end Go.Proofs.YtdpheomokeikbaaDoor
