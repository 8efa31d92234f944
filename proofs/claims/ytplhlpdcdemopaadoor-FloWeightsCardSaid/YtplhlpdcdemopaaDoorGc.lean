/- The law FloWeights, walked. Conditions: the library's tables are laid. -/
import Derived.Test.YtplhlpdcdemopaaDoorGb
namespace Go.Proofs.YtplhlpdcdemopaaDoor
open Go.RowKit Go.FT Go.FX Go.Lib

theorem below_zero {x : Nat} (hx : x < W64) (h : okB x INF = false) (hn : isN x = false) : (FloatKind.f64.format.order x 0 == some .lt) = true := by
  show (D.order x 0 == some .lt) = true
  have hno := of_decide_eq_false h
  have hm := isN_false hn
  have hs := sg_split hx
  unfold sg at hs
  cases g : ng x
  · rw [g, if_neg Bool.false_ne_true] at hs; omega
  · rw [g, if_pos rfl] at hs
    rw [hs, order_neg_zero (by omega) hm]; rfl
theorem clr_eq {x : Nat} (h : okB x INF = true) : (FloatKind.f64.format.order (clr x) x == some .eq) = true := by
  show (D.order (clr x) x == some .eq) = true
  rw [order_clr_right h (clr_le h), cmp_nat, if_neg (by omega), if_pos rfl]; rfl
theorem clr_id {s : Nat} (h : s ≤ INF) : clr s = s := by unfold clr; rw [if_neg]; unfold SGN INF at *; omega
theorem ok_self {s m : Nat} (h : s ≤ m) : okB s m = true := decide_eq_true (Or.inl h)
theorem can_fin {s : Nat} (h : s ≤ INF) : can s = s := can_no (decide_eq_false (by rw [Nat.mod_eq_of_lt (Nat.lt_of_le_of_lt h (by decide))]; omega))
theorem same_zero : same 0 0 = true := same_refl 0
set_option maxRecDepth 100000 in
set_option maxHeartbeats 4000000 in
theorem floWeights_law (w : World) (hl : Lay w) (x : Nat) (hx : x < W64) :
    Calls Tryd.prog 8 #[.float .f64 x] w fun e w' => e = .returned (.bool true) ∧ Below w.heap.size w w' := by
  have hn := ne_self hx
  have hg := ge_zero hx
  have HU := Lib.hid (fun w => unit_any x w hx)
  have HP := Lib.hid (fun w => price_any x w hx)
  by_cases h : okB x INF = true
  · rw [h] at hg
    have hg' : (FloatKind.f64.format.order x 0 == some .gt || FloatKind.f64.format.order x 0 == some .eq) = true := hg
    have hc := clr_le h
    have HC := Lib.hid (fun w => price_any (clr x) w (Nat.lt_of_le_of_lt hc (by decide)))
    rw [wv_yes h, we_yes h] at HP
    rw [wv_yes (ok_self hc), we_yes (ok_self hc), clr_id hc] at HC
    have hq := clr_eq h
    have hm := le_most h (m := ONE) (by decide)
    have hcw : clr x < W64 := Nat.lt_of_le_of_lt hc (by decide)
    have HB := Lib.hid (fun w => bits_any (clr x) w hcw)
    rw [can_fin hc] at HB
    have hci : (clr x : Int) < 9223372036854775808 := by have : INF < 9223372036854775808 := by decide
                                                         omega
    have HSA := Lib.hid (same_refl (clr x))
    cases h1 : okB x ONE
    · rw [h1] at hm
      have hm' : (FloatKind.f64.format.order x 4607182418800017408 == some .lt || FloatKind.f64.format.order x 4607182418800017408 == some .eq) = false := hm
      rw [wv_no h1, we_no h1] at HU
      clear hg h h1 hm hc
      generalize clr x = c at *
      go_enter Tryd.func8, Tryd.ntmps8
      go_wp2_with (first
        | (go_at_call 23; (with_reducible refine (HU.out _).mono ?_); rintro e w' ⟨rfl, rfl⟩)
        | (go_at_call 25; (with_reducible refine (HP.out _).mono ?_); rintro e w' ⟨rfl, rfl⟩)
        | (go_at_call 25; (with_reducible refine (HC.out _).mono ?_); rintro e w' ⟨rfl, rfl⟩)
        | (go_at_call 27; (with_reducible refine (HB.out _).mono ?_); rintro e w' ⟨rfl, rfl⟩)
        | (go_at_call 15; (with_reducible refine (same_any c c _ hcw hcw).mono ?_); rw [HSA.out]; rintro e w' ⟨rfl, rfl⟩)
        | (go_at_call 16; (with_reducible refine (awake_any _ hl).mono ?_); rintro e w5 ⟨rfl, hb5⟩))
      go_ret
      exact ⟨rfl, hb5⟩
    · rw [h1] at hm
      have hm' : (FloatKind.f64.format.order x 4607182418800017408 == some .lt || FloatKind.f64.format.order x 4607182418800017408 == some .eq) = true := hm
      rw [wv_yes h1, we_yes h1] at HU
      clear hg h h1 hm hc
      generalize clr x = c at *
      go_enter Tryd.func8, Tryd.ntmps8
      go_wp2_with (first
        | (go_at_call 23; (with_reducible refine (HU.out _).mono ?_); rintro e w' ⟨rfl, rfl⟩)
        | (go_at_call 25; (with_reducible refine (HP.out _).mono ?_); rintro e w' ⟨rfl, rfl⟩)
        | (go_at_call 25; (with_reducible refine (HC.out _).mono ?_); rintro e w' ⟨rfl, rfl⟩)
        | (go_at_call 27; (with_reducible refine (HB.out _).mono ?_); rintro e w' ⟨rfl, rfl⟩)
        | (go_at_call 15; (with_reducible refine (same_any c c _ hcw hcw).mono ?_); rw [HSA.out]; rintro e w' ⟨rfl, rfl⟩)
        | (go_at_call 16; (with_reducible refine (awake_any _ hl).mono ?_); rintro e w5 ⟨rfl, hb5⟩))
      go_ret
      exact ⟨rfl, hb5⟩
  · have h0 : okB x INF = false := by simpa using h
    have h1 : okB x ONE = false := by
      cases e : okB x ONE
      · rfl
      · exact absurd (okB_mono e (by decide)) h
    rw [wv_no h1, we_no h1] at HU
    rw [wv_no h0, we_no h0] at HP
    have HSZ := Lib.hid same_zero
    have HBZ := Lib.hid (below_zero hx h0)
    clear hg h h1 h0
    cases hi : isN x
    all_goals
      rw [hi] at hn
      first
      | (have hz := HBZ.out hi)
      | skip
      clear hi
      go_enter Tryd.func8, Tryd.ntmps8
      go_wp2_with (first
        | (go_at_call 23; (with_reducible refine (HU.out _).mono ?_); rintro e w' ⟨rfl, rfl⟩)
        | (go_at_call 25; (with_reducible refine (HP.out _).mono ?_); rintro e w' ⟨rfl, rfl⟩)
        | (go_at_call 15; (with_reducible refine (same_any 0 0 _ (by decide) (by decide)).mono ?_); rw [HSZ.out]; rintro e w' ⟨rfl, rfl⟩)
        | (go_at_call 16; (with_reducible refine (awake_any _ hl).mono ?_); rintro e w5 ⟨rfl, hb5⟩))
      go_ret
      exact ⟨rfl, hb5⟩
end Go.Proofs.YtplhlpdcdemopaaDoor
