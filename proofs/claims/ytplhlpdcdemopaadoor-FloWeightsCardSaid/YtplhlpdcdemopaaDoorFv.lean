/- What the document fixes of doubles: awake. Conditions: the library's tables are laid. -/
import Derived.Test.YtplhlpdcdemopaaDoorFu
import Derived.Outline
namespace Go.Proofs.YtplhlpdcdemopaaDoor
open Go.RowKit Go.FT Go.FX Go.Lib

abbrev Q75 : Nat := 4604930618986332160
theorem dec_small {u : Nat} (h : u < 10) : decDigits u = [UInt8.ofNat (48 + u)] := by rw [decDigits, dif_pos h]
theorem T_75 : T Q75 = [51, 98, 45, 50] := by
  have hm : mag Q75 = 3 * 2 ^ 51 := by decide
  obtain ⟨h1, h2⟩ := tz_of (m := mag Q75) (by decide) (by decide : 3 % 2 = 1) hm
  have he : ex Q75 = 1021 := by decide
  have hi : isN Q75 = false := by decide
  rw [T_fin hi, show Q75 % SGN = Q75 by decide, body_fin (by decide) (by decide), h1, h2, he, dec_small (by omega)]
  rw [show ((1021 : Nat) : Int) + ((51 : Nat) : Int) - 1074 = -2 by decide]
  rw [show itoa (-2) = 45 :: decDigits 2 by unfold itoa; rw [if_pos (by omega)]; rfl, dec_small (by omega)]
  rfl
theorem pv_75 : pv [51, 98, 45, 50] = (Q75, 0) := by
  rw [pv_of (b := Q75) (by decide) T_75]; decide
theorem parse_75 (w : World) (hl : Lay w) : Calls Tryd.prog 13 #[.string ⟨#[51, 98, 45, 50]⟩] w fun e w' => e = .returned (.tuple #[.float .f64 Q75, .int .i64 0]) ∧ Below w.heap.size w w' := by
  refine (parse_any ⟨#[51, 98, 45, 50]⟩ (by decide) w hl).mono fun e w' h => ?_
  unfold PR at h
  rw [show (⟨#[51, 98, 45, 50]⟩ : ByteArray).data.toList = [51, 98, 45, 50] from rfl, pv_75] at h
  exact h
theorem least_nil (w : World) : Calls Tryd.prog 19 #[.slice none 0 0] w fun e w' => e = .returned (.tuple #[.float .f64 0, .int .i64 15]) ∧ w = w' :=
  least_any none 0 [] w (B := 0) (fun k hk => absurd hk (Nat.not_lt_zero _)) (fun x hx => by cases hx) (by simp)
theorem bits_one (w : World) : Calls Tryd.prog 27 #[.float .f64 4607182418800017408] w fun e w' => e = .returned (.int .u64 4607182418800017408) ∧ w = w' := by
  have h := bits_any 4607182418800017408 w (by decide)
  rw [show can 4607182418800017408 = 4607182418800017408 by decide] at h
  exact h
set_option maxRecDepth 100000 in
set_option maxHeartbeats 1000000 in
theorem awake_any (w : World) (hl : Lay w) : Calls Tryd.prog 16 #[] w fun e w' => e = .returned (.bool true) ∧ Below w.heap.size w w' := by
  have ho : (FloatKind.f64.format.order Q75 Q75 == some .eq) = true := by decide +kernel
  go_enter Tryd.func16, Tryd.ntmps16
  go_wp2_with (first
    | (go_at_call 13; (with_reducible refine (parse_75 _ hl).mono ?_); rintro e w1 ⟨rfl, hb1⟩; have hl1 := hl.below hb1)
    | (go_at_call 19; (with_reducible refine (least_nil _).mono ?_); rintro e w' ⟨rfl, rfl⟩)
    | (go_at_call 14; (with_reducible refine (text_tr Q75 (by decide) _ hl1).mono ?_); rintro e w2 ⟨S2, rfl, HS2, hb2⟩; have q1 := eqs (HS2.out.trans T_75) (t := [51, 98, 45, 50]) (b := true) (by decide))
    | (go_at_call 27; (with_reducible refine (bits_one _).mono ?_); rintro e w' ⟨rfl, rfl⟩))
  go_ret
  exact ⟨rfl, hb1.trans (hb2.mono hb1.size)⟩
end Go.Proofs.YtplhlpdcdemopaaDoor
