
/- The walks of the small functions on semirings' values. Conditions: a value's digits can be read. -/
import Derived.Test.YtdkmmnehlmaebaaGreatDoorNWz
import Derived.Test.YtdkmmnehlmaebaaGreatDoorFd
import Derived.Outline
namespace Go.Proofs.YtdkmmnehlmaebaaGreatDoor.Se
open Go.RowKit Go.NT Go.FT Go.FX Go.Lib Na

def knownB (s : Int) : Bool := decide (1 ≤ s) && decide (s ≤ 6)
def natB (s : Int) : Bool := s == 1 || s == 3
def levB (s : Int) : Bool := s == 2 || s == 4
def topV (s : Int) : Int := if s == 2 then 1 else 7
theorem known_any (s : Int) (w : World) : Calls Tryz.prog 32 #[.int .i64 s] w fun e w' => e = .returned (.bool (knownB s)) ∧ w = w' := by
  cases h : decide (1 ≤ s)
  · have HB : Hid (knownB s = false) := Lib.hid (by unfold knownB; rw [h]; rfl)
    go_enter Tryz.func32, Tryz.ntmps32
    go_wp2
    go_ret
    exact ⟨by rw [HB.out]; rfl, rfl⟩
  · have HB : Hid (knownB s = decide (s ≤ 6)) := Lib.hid (by unfold knownB; rw [h]; rfl)
    go_enter Tryz.func32, Tryz.ntmps32
    go_wp2
    go_ret
    exact ⟨by rw [HB.out]; rfl, rfl⟩
theorem isNat_any (s : Int) (w : World) : Calls Tryz.prog 49 #[.int .i64 s] w fun e w' => e = .returned (.bool (natB s)) ∧ w = w' := by
  cases h : s == 1
  · have HB : Hid (natB s = (s == 3)) := Lib.hid (by unfold natB; rw [h]; rfl)
    go_enter Tryz.func49, Tryz.ntmps49
    go_wp2
    go_ret
    exact ⟨by rw [HB.out]; rfl, rfl⟩
  · have HB : Hid (natB s = true) := Lib.hid (by unfold natB; rw [h]; rfl)
    go_enter Tryz.func49, Tryz.ntmps49
    go_wp2
    go_ret
    exact ⟨by rw [HB.out]; rfl, rfl⟩
theorem isLevel_any (s : Int) (w : World) : Calls Tryz.prog 51 #[.int .i64 s] w fun e w' => e = .returned (.bool (levB s)) ∧ w = w' := by
  cases h : s == 2
  · have HB : Hid (levB s = (s == 4)) := Lib.hid (by unfold levB; rw [h]; rfl)
    go_enter Tryz.func51, Tryz.ntmps51
    go_wp2
    go_ret
    exact ⟨by rw [HB.out]; rfl, rfl⟩
  · have HB : Hid (levB s = true) := Lib.hid (by unfold levB; rw [h]; rfl)
    go_enter Tryz.func51, Tryz.ntmps51
    go_wp2
    go_ret
    exact ⟨by rw [HB.out]; rfl, rfl⟩
theorem top_any (s : Int) (w : World) : Calls Tryz.prog 52 #[.int .i64 s] w fun e w' => e = .returned (.int .i64 (topV s)) ∧ w = w' := by
  cases h : s == 2
  all_goals
    have HB := Lib.hid (show topV s = if (s == 2) = true then 1 else 7 from rfl)
    rw [h] at HB
    go_enter Tryz.func52, Tryz.ntmps52
    go_wp2
    go_ret
    exact ⟨by rw [HB.out]; rfl, rfl⟩
/-- Why a double may not be a value: of a chance (Best), of a price. -/
def dblM (s : Int) : Nat := if s == 5 then ONE else INF
def dblE (s : Int) (x : Nat) : Int := if decide (x ≤ dblM s) then 0 else 16
theorem same_rfl {x : Nat} : same x x = true := decide_eq_true rfl
theorem same_clr {x m : Nat} (hm : m ≤ INF) (h : okB x m = true) : same x (clr x) = decide (x ≤ m) := by
  have hc := of_decide_eq_true h
  unfold clr
  by_cases e : x = SGN
  · have hlt : INF < SGN := by decide
    rw [if_pos e, e, decide_eq_false (by omega)]; decide
  · rw [if_neg e, decide_eq_true (show x ≤ m by omega), same_rfl]
theorem dblE_no {s : Int} {x : Nat} (h : okB x (dblM s) = false) : dblE s x = 16 := by
  have := of_decide_eq_false h
  unfold dblE
  rw [decide_eq_false (by omega)]; rfl
theorem dblE_yes {s : Int} {x : Nat} {b : Bool} (h : decide (x ≤ dblM s) = b) : dblE s x = if b then 0 else 16 := by unfold dblE; rw [h]
theorem wv_w {x m : Nat} (hm : m ≤ INF) : wv x m < W64 := Nat.lt_of_le_of_lt (Nat.le_trans wv_le hm) (by decide)
theorem double_any (s : Int) (x : Nat) (hx : x < W64) (w : World) : Calls Tryz.prog 53 #[.int .i64 s, .float .f64 x] w fun e w' => e = .returned (.int .i64 (dblE s x)) ∧ w = w' := by
  have HP := Lib.hid (fun w => price_any x w hx)
  have HU := Lib.hid (fun w => unit_any x w hx)
  have hM : dblM s ≤ INF := by unfold dblM; split <;> decide
  cases hs : s == 5
  · have e : dblM s = INF := by unfold dblM; rw [hs]; rfl
    cases ho : okB x INF
    · have HE : Hid (dblE s x = 16) := Lib.hid (dblE_no (by rw [e]; exact ho))
      rw [wv_no ho, we_no ho] at HP
      go_enter Tryz.func53, Tryz.ntmps53
      go_wp2_with (go_at_call 74; (with_reducible refine (HP.out _).mono ?_); rintro e w' ⟨rfl, rfl⟩)
      go_ret
      exact ⟨by rw [HE.out]; rfl, rfl⟩
    · rw [wv_yes ho, we_yes ho] at HP
      have hcw : clr x < W64 := Nat.lt_of_le_of_lt (clr_le ho) (by decide)
      have HS := Lib.hid (same_clr (by decide) ho)
      cases hb : decide (x ≤ INF)
      all_goals
        rw [hb] at HS
        have hbb := hb
        rw [← e] at hbb
        have HE := Lib.hid (dblE_yes hbb)
        clear hbb
        go_enter Tryz.func53, Tryz.ntmps53
        go_wp2_with (first | (go_at_call 74; (with_reducible refine (HP.out _).mono ?_); rintro e w' ⟨rfl, rfl⟩) | (go_at_call 57; (with_reducible refine (same_any x (clr x) _ hx hcw).mono ?_); rw [HS.out]; rintro e w' ⟨rfl, rfl⟩))
        go_ret
        exact ⟨by rw [HE.out]; rfl, rfl⟩
  · have e : dblM s = ONE := by unfold dblM; rw [hs]; rfl
    generalize hv : wv x INF = v1 at *
    generalize hv2 : we x INF = v2 at *
    clear hv hv2
    cases ho : okB x ONE
    · have HE : Hid (dblE s x = 16) := Lib.hid (dblE_no (by rw [e]; exact ho))
      rw [wv_no ho, we_no ho] at HU
      go_enter Tryz.func53, Tryz.ntmps53
      go_wp2_with (first | (go_at_call 74; (with_reducible refine (HP.out _).mono ?_); rintro e w' ⟨rfl, rfl⟩) | (go_at_call 73; (with_reducible refine (HU.out _).mono ?_); rintro e w' ⟨rfl, rfl⟩))
      go_ret
      exact ⟨by rw [HE.out]; rfl, rfl⟩
    · rw [wv_yes ho, we_yes ho] at HU
      have hcw : clr x < W64 := Nat.lt_of_le_of_lt (clr_le ho) (by decide)
      have HS := Lib.hid (same_clr (by decide) ho)
      cases hb : decide (x ≤ ONE)
      all_goals
        rw [hb] at HS
        have hbb := hb
        rw [← e] at hbb
        have HE := Lib.hid (dblE_yes hbb)
        clear hbb
        go_enter Tryz.func53, Tryz.ntmps53
        go_wp2_with (first | (go_at_call 74; (with_reducible refine (HP.out _).mono ?_); rintro e w' ⟨rfl, rfl⟩) | (go_at_call 73; (with_reducible refine (HU.out _).mono ?_); rintro e w' ⟨rfl, rfl⟩) | (go_at_call 57; (with_reducible refine (same_any x (clr x) _ hx hcw).mono ?_); rw [HS.out]; rintro e w' ⟨rfl, rfl⟩))
        go_ret
        exact ⟨by rw [HE.out]; rfl, rfl⟩
end Go.Proofs.YtdkmmnehlmaebaaGreatDoor.Se
