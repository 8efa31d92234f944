/- The law FloOrder, walked. Conditions: the library's tables are laid. -/
import Derived.Test.YtplhlpdcdemopaaDoorFv
namespace Go.Proofs.YtplhlpdcdemopaaDoor
open Go.RowKit Go.FT Go.FX Go.Lib

theorem less_asym {x y : Nat} (h : less x y = true) : less y x = false := by
  have := of_decide_eq_true h
  exact decide_eq_false (by omega)
theorem less_trans {x y z : Nat} (h : less x y = true) (h2 : less y z = true) : less x z = true := by
  have := of_decide_eq_true h
  have := of_decide_eq_true h2
  exact decide_eq_true (by omega)
theorem same_less {x y : Nat} (hx : x < W64) (hy : y < W64) : same x y = !(less x y || less y x) := by
  rw [same_pl hx hy]
  unfold less
  by_cases a : pl x < pl y
  · rw [decide_eq_true a, decide_eq_false (by omega : ¬ pl x = pl y)]; rfl
  · rw [decide_eq_false a]
    by_cases b : pl y < pl x
    · rw [decide_eq_true b, decide_eq_false (by omega : ¬ pl x = pl y)]; rfl
    · rw [decide_eq_false b, decide_eq_true (by omega : pl x = pl y)]; rfl
set_option maxRecDepth 100000 in
set_option maxHeartbeats 4000000 in
theorem floOrder_law (w : World) (hl : Lay w) (x : Nat) (hx : x < W64) (y : Nat) (hy : y < W64) (z : Nat) (hz : z < W64) :
    Calls Tryd.prog 4 #[.float .f64 x, .float .f64 y, .float .f64 z] w fun e w' => e = .returned (.bool true) ∧ Below w.heap.size w w' := by
  have hs := same_less hx hy
  have hxx := less_self x
  have HAS := Lib.hid (less_asym (x := x) (y := y))
  have HTR := Lib.hid (less_trans (x := x) (y := y) (z := z))
  have HLT := Lib.hid (lt_less hx hy)
  have HNA := Lib.hid (nan_less (x := x) hy)
  have hnx := ne_self hx
  have hny := eq_self hy
  cases ha : less x y <;> cases hb : less y x <;> cases hc : less y z <;> cases hd : less x z <;> cases he : (FloatKind.f64.format.order x y == some .lt) <;> cases hf : isN x <;> cases hg : isN y
  all_goals first
    | (exfalso; have := HAS.out ha; rw [this] at hb; cases hb; done)
    | (exfalso; have := HTR.out ha hc; rw [this] at hd; cases hd; done)
    | (exfalso; have := HLT.out he; rw [this] at ha; cases ha; done)
    | (exfalso; have := HNA.out hf hg; rw [this] at ha; cases ha; done)
    | (rw [ha, hb] at hs
       rw [hf] at hnx
       rw [hg] at hny
       clear hf hg
       go_enter Tryd.func4, Tryd.ntmps4
       go_wp2_with (first
         | (go_at_call 17; refine (less_any _ _ _ (by first | exact hx | exact hy | exact hz) (by first | exact hx | exact hy | exact hz)).mono ?_; rintro e w' ⟨rfl, rfl⟩)
         | (go_at_call 15; refine (same_any _ _ _ (by first | exact hx | exact hy) (by first | exact hx | exact hy)).mono ?_; rintro e w' ⟨rfl, rfl⟩)
         | (go_at_call 16; refine (awake_any _ hl).mono ?_; rintro e w' ⟨rfl, hb'⟩))
       go_ret
       exact ⟨rfl, hb'⟩)
end Go.Proofs.YtplhlpdcdemopaaDoor
