
/- The walks of 'May' and 'both'. Conditions: a value's digits can be read. -/
import Derived.Test.YtdkmmnehlmaebaaGreatDoorSa
namespace Go.Proofs.YtdkmmnehlmaebaaGreatDoor.Se
open Go.RowKit Go.NT Go.FT Go.FX Go.Lib Na

/-- A value as it lies: its semiring, its number (infinite or its digits), its level, its double. -/
structure SV where
  s : Int
  b : Bool
  A : Option Addr
  n : Nat
  c : Nat
  xs : List Int
  lv : Int
  x : Nat
@[reducible] def SV.v (a : SV) : Value := .agg #[.int .i64 a.s, .bool a.b, .slice a.A a.n a.c, .int .i64 a.lv, .float .f64 a.x]
/-- It can be read. -/
def SV.ok (w : World) (a : SV) : Prop := NV w a.A a.n a.c a.xs ∧ a.x < W64
theorem SV.ok.below {w w' : World} {a : SV} (h : a.ok w) (hb : Below w.heap.size w w') : a.ok w' := ⟨h.1.below hb, h.2⟩
/-- Why a number may not be. -/
def natMay (b : Bool) (n : Nat) (xs : List Int) : Bool := if b then ((n : Int) == 0) else (((strip xs).length : Int) == (n : Int))
/-- Why a value may not be. -/
def SV.may (a : SV) : Int :=
  if knownB a.s then
    if natB a.s then (if natMay a.b a.n a.xs then 0 else 16)
    else if levB a.s then (if decide (0 ≤ a.lv) && decide (a.lv ≤ topV a.s) then 0 else 16)
    else dblE a.s a.x
  else 9
theorem may_unknown (s : Int) (b : Bool) (A : Option Addr) (n c : Nat) (lv : Int) (x : Nat) (w : World) (HK : Hid (knownB s = false)) :
    Calls Tryz.prog 21 #[.agg #[.int .i64 s, .bool b, .slice A n c, .int .i64 lv, .float .f64 x]] w fun e w' => e = .returned (.int .i64 9) ∧ Below w.heap.size w w' := by
  go_enter Tryz.func21, Tryz.ntmps21
  go_wp2_with (go_at_call 32; (with_reducible refine (known_any s _).mono ?_); rw [HK.out]; rintro e w' ⟨rfl, rfl⟩)
  go_ret
  exact ⟨rfl, (Below.refl _ _).alloc (Nat.le_refl _) _⟩
theorem may_nat (s : Int) (b : Bool) (A : Option Addr) (n c : Nat) (xs : List Int) (lv : Int) (x : Nat) (w : World) (hv : NV w A n c xs) (HK : Hid (knownB s = true)) (HN : Hid (natB s = true)) :
    Calls Tryz.prog 21 #[.agg #[.int .i64 s, .bool b, .slice A n c, .int .i64 lv, .float .f64 x]] w fun e w' => e = .returned (.int .i64 (if natMay b n xs then 0 else 16)) ∧ Below w.heap.size w w' := by
  have HM := Lib.hid (fun (w1 : World) (hb : Below w.heap.size w w1) => may_any b A n c xs w1 (hv.below hb))
  have HE := Lib.hid (show natMay b n xs = (if b then ((n : Int) == 0) else (((strip xs).length : Int) == (n : Int))) from rfl)
  rw [← HE.out] at HM
  clear hv HE
  have HA := Lib.hid (fun o => (Below.refl _ w).alloc (Nat.le_refl _) o)
  cases hm : natMay b n xs
  all_goals
    rw [hm] at HM
    go_enter Tryz.func21, Tryz.ntmps21
    go_wp2_with (first | (go_at_call 32; (with_reducible refine (known_any s _).mono ?_); rw [HK.out]; rintro e w' ⟨rfl, rfl⟩) | (go_at_call 49; (with_reducible refine (isNat_any s _).mono ?_); rw [HN.out]; rintro e w' ⟨rfl, rfl⟩) | (go_at_call 50; (with_reducible refine (HM.out _ (HA.out _)).mono ?_); rintro e w1 ⟨rfl, hb1⟩))
    go_ret
    exact ⟨rfl, (HA.out _).trans (hb1.mono (HA.out _).size)⟩
theorem may_lev (s : Int) (b : Bool) (A : Option Addr) (n c : Nat) (lv : Int) (x : Nat) (w : World) (HK : Hid (knownB s = true)) (HN : Hid (natB s = false)) (HL : Hid (levB s = true)) :
    Calls Tryz.prog 21 #[.agg #[.int .i64 s, .bool b, .slice A n c, .int .i64 lv, .float .f64 x]] w fun e w' => e = .returned (.int .i64 (if decide (0 ≤ lv) && decide (lv ≤ topV s) then 0 else 16)) ∧ Below w.heap.size w w' := by
  cases h1 : decide (lv ≥ 0) <;> cases h2 : decide (lv ≤ topV s)
  all_goals
    go_enter Tryz.func21, Tryz.ntmps21
    go_wp2_with (first | (go_at_call 32; (with_reducible refine (known_any s _).mono ?_); rw [HK.out]; rintro e w' ⟨rfl, rfl⟩) | (go_at_call 49; (with_reducible refine (isNat_any s _).mono ?_); rw [HN.out]; rintro e w' ⟨rfl, rfl⟩) | (go_at_call 51; (with_reducible refine (isLevel_any s _).mono ?_); rw [HL.out]; rintro e w' ⟨rfl, rfl⟩))
    go_quiet ((go_at_call 52; exact Calls.quiet_of_same ((top_any s _).mono fun _ _ h => ⟨h.1, h.2.symm⟩)))
    go_wp2_with fail
    go_ret
    exact ⟨rfl, below_drewN ((Below.refl _ _).alloc (Nat.le_refl _) _) _⟩
theorem may_dbl (s : Int) (b : Bool) (A : Option Addr) (n c : Nat) (lv : Int) (x : Nat) (w : World) (hx : x < W64) (HK : Hid (knownB s = true)) (HN : Hid (natB s = false)) (HL : Hid (levB s = false)) :
    Calls Tryz.prog 21 #[.agg #[.int .i64 s, .bool b, .slice A n c, .int .i64 lv, .float .f64 x]] w fun e w' => e = .returned (.int .i64 (dblE s x)) ∧ Below w.heap.size w w' := by
  have HD := Lib.hid (fun w => double_any s x hx w)
  go_enter Tryz.func21, Tryz.ntmps21
  go_wp2_with (first | (go_at_call 32; (with_reducible refine (known_any s _).mono ?_); rw [HK.out]; rintro e w' ⟨rfl, rfl⟩) | (go_at_call 49; (with_reducible refine (isNat_any s _).mono ?_); rw [HN.out]; rintro e w' ⟨rfl, rfl⟩) | (go_at_call 51; (with_reducible refine (isLevel_any s _).mono ?_); rw [HL.out]; rintro e w' ⟨rfl, rfl⟩) | (go_at_call 53; (with_reducible refine (HD.out _).mono ?_); rintro e w' ⟨rfl, rfl⟩))
  go_ret
  exact ⟨rfl, (Below.refl _ _).alloc (Nat.le_refl _) _⟩
theorem may_sv (a : SV) (w : World) (h : a.ok w) : Calls Tryz.prog 21 #[a.v] w fun e w' => e = .returned (.int .i64 a.may) ∧ Below w.heap.size w w' := by
  obtain ⟨s, b, A, n, c, xs, lv, x⟩ := a
  obtain ⟨hv, hx⟩ := h
  unfold SV.may
  simp only at hv hx ⊢
  cases hk : knownB s
  · exact may_unknown s b A n c lv x w (Lib.hid hk)
  · cases hn : natB s
    · cases hl : levB s
      · exact may_dbl s b A n c lv x w hx (Lib.hid hk) (Lib.hid hn) (Lib.hid hl)
      · exact may_lev s b A n c lv x w (Lib.hid hk) (Lib.hid hn) (Lib.hid hl)
    · exact may_nat s b A n c xs lv x w hv (Lib.hid hk) (Lib.hid hn)
end Go.Proofs.YtdkmmnehlmaebaaGreatDoor.Se
