/- The law FloAsks, walked. Conditions: the library's tables are laid. -/
import Derived.Test.YtplhlpdcdemopaaDoorGc
namespace Go.Proofs.YtplhlpdcdemopaaDoor
open Go.RowKit Go.FT Go.FX Go.Lib

theorem wv_lt {x m : Nat} (hm : m ≤ INF) : wv x m < W64 := Nat.lt_of_le_of_lt (Nat.le_trans wv_le hm) (by decide)
theorem text_same {S S2 : ByteArray} {l : List UInt8} (h : S.data.toList = l) (h2 : S2.data.toList = l) : (S.toList == S2.toList) = true := by
  rw [texts_eq h h2]; simp
set_option maxRecDepth 100000 in
set_option maxHeartbeats 4000000 in
theorem floAsks_law (w : World) (hl : Lay w) (x : Nat) (hx : x < W64) (y : Nat) (hy : y < W64) (v0 : Int) (h0 : 0 ≤ v0) (h1 : v0 < 18446744073709551616) :
    Calls Tryd.prog 7 #[.float .f64 x, .float .f64 y, .int .u64 v0] w fun e w' => e = .returned (.bool true) ∧ Below w.heap.size w w' := by
  obtain ⟨v, rfl⟩ := Int.eq_ofNat_of_zero_le h0
  have hv : v < W64 := by unfold W64; omega
  clear h0 h1
  have hcv := can_lt hv
  have hw1 := wv_lt (x := x) (m := ONE) (by decide)
  have hw2 := wv_lt (x := x) (m := INF) (by decide)
  have HS1 := Lib.hid (same_refl (wv x ONE))
  have HS2 := Lib.hid (same_refl (wv x INF))
  have HU := Lib.hid (fun w => unit_any x w hx)
  have HU2 := Lib.hid (fun w => refUnit_any x w hx)
  have HP := Lib.hid (fun w => price_any x w hx)
  have HP2 := Lib.hid (fun w => refPrice_any x w hx)
  have HO := Lib.hid (fun w => of_any v w hv)
  have HO2 := Lib.hid (fun w => rof_any v w hv)
  generalize wv x ONE = a at *
  generalize wv x INF = b at *
  generalize we x ONE = ea at *
  generalize we x INF = eb at *
  generalize can v = cv at *
  go_enter Tryd.func7, Tryd.ntmps7
  go_wp2_with (first
    | (go_at_call 23; (with_reducible refine (HU.out _).mono ?_); rintro e w' ⟨rfl, rfl⟩)
    | (go_at_call 24; (with_reducible refine (HU2.out _).mono ?_); rintro e w' ⟨rfl, rfl⟩)
    | (go_at_call 25; (with_reducible refine (HP.out _).mono ?_); rintro e w' ⟨rfl, rfl⟩)
    | (go_at_call 26; (with_reducible refine (HP2.out _).mono ?_); rintro e w' ⟨rfl, rfl⟩)
    | (go_at_call 27; refine (bits_any _ _ (by first | exact hx | exact hcv)).mono ?_; rintro e w' ⟨rfl, rfl⟩)
    | (go_at_call 28; refine (rbits_any _ _ (by first | exact hx | exact hcv)).mono ?_; rintro e w' ⟨rfl, rfl⟩)
    | (go_at_call 17; (with_reducible refine (less_any x y _ hx hy).mono ?_); rintro e w' ⟨rfl, rfl⟩)
    | (go_at_call 29; (with_reducible refine (rless_any x y _ hx hy).mono ?_); rintro e w' ⟨rfl, rfl⟩)
    | (go_at_call 15; (with_reducible refine (same_any x y _ hx hy).mono ?_); rintro e w' ⟨rfl, rfl⟩)
    | (go_at_call 22; (with_reducible refine (rsame_any x y _ hx hy).mono ?_); rintro e w' ⟨rfl, rfl⟩)
    | (go_at_call 12; (with_reducible refine (HO.out _).mono ?_); rintro e w' ⟨rfl, rfl⟩)
    | (go_at_call 30; (with_reducible refine (HO2.out _).mono ?_); rintro e w' ⟨rfl, rfl⟩)
    | (go_at_call 22; (with_reducible refine (rsame_any a a _ hw1 hw1).mono ?_); rw [HS1.out]; rintro e w' ⟨rfl, rfl⟩)
    | (go_at_call 22; (with_reducible refine (rsame_any b b _ hw2 hw2).mono ?_); rw [HS2.out]; rintro e w' ⟨rfl, rfl⟩)
    | (go_at_call 14; (with_reducible refine (text_tr x hx _ hl).mono ?_); rintro e w1 ⟨S1, rfl, HS3, hb1⟩; have hl1 := hl.below hb1)
    | (go_at_call 31; (with_reducible refine (rtext_tr x hx _).mono ?_); rintro e w2 ⟨S2, rfl, HS4, hb2⟩; have hl2 := hl1.below hb2; have q := text_same HS3.out HS4.out)
    | (go_at_call 16; (with_reducible refine (awake_any _ hl2).mono ?_); rintro e w5 ⟨rfl, hb5⟩))
  go_ret
  exact ⟨rfl, (hb1.trans (hb2.mono hb1.size)).trans (hb5.mono (Nat.le_trans hb1.size hb2.size))⟩
end Go.Proofs.YtplhlpdcdemopaaDoor
