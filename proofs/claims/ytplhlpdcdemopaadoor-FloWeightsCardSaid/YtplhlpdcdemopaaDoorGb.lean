/- The law FloBack, walked. Conditions: the library's tables are laid. -/
import Derived.Test.YtplhlpdcdemopaaDoorFv
namespace Go.Proofs.YtplhlpdcdemopaaDoor
open Go.RowKit Go.FT Go.FX Go.Lib

theorem T_eq_same {x y : Nat} (hx : x < W64) (hy : y < W64) : decide (T x = T y) = same x y := by
  unfold same
  by_cases h : can x = can y
  · rw [decide_eq_true h, decide_eq_true (T_congr h)]
  · rw [decide_eq_false h, decide_eq_false (fun e => h (T_inj hx hy e))]
theorem texts_eq {S S2 : ByteArray} {l m : List UInt8} (h : S.data.toList = l) (h2 : S2.data.toList = m) : (S.toList == S2.toList) = decide (l = m) := by
  rw [ByteArray.toList_eq, ByteArray.toList_eq, h, h2, Bool.eq_iff_iff, beq_iff_eq, decide_eq_true_iff]
theorem parse_tr (S : ByteArray) {x : Nat} (hx : x < W64) (h : S.data.toList = T x) (hs : S.size ≤ 4000000000) (w : World) (hl : Lay w) :
    Calls Tryd.prog 13 #[.string S] w fun e w' => e = .returned (.tuple #[.float .f64 (can x), .int .i64 0]) ∧ Below w.heap.size w w' := by
  refine (parse_any S hs w hl).mono fun e w' hp => ?_
  unfold PR at hp
  rw [h, pv_text hx] at hp
  exact hp
theorem body_len {r : Nat} (hr : r ≤ INF) : (body r).length ≤ 100 := by
  rcases (body_shape hr).2 with ⟨_, h⟩ | ⟨_, _, h, h2, h3, h4, _⟩
  · rw [h]; decide
  · rw [h, List.length_append, List.length_cons]
    have a := dec_len (u := (oe r).1) (k := 20) (by omega) (by unfold B at h2; omega)
    have b := itoa_len (n := (oe r).2) (by omega) (by omega)
    omega
theorem T_len (x : Nat) : (T x).length ≤ 200 := by
  cases h : isN x
  · have := body_len (isN_false h)
    rw [T_fin h, List.length_append]
    cases ng x
    · rw [if_neg Bool.false_ne_true]; simp; omega
    · rw [if_pos rfl]; simp; omega
  · rw [T_nan h]; decide
theorem T_size {S : ByteArray} {x : Nat} (h : S.data.toList = T x) : S.size ≤ 4000000000 := by
  rw [size_eq, h]; have := T_len x; omega
theorem same_refl (x : Nat) : same x x = true := decide_eq_true rfl
theorem same_can_left {x y : Nat} : same (can x) y = same x y := by unfold same; rw [can_can]
theorem same_can_right {x y : Nat} : same x (can y) = same x y := by unfold same; rw [can_can]
theorem of_v {z : Int} {x : Nat} (hz : z = (x : Nat)) (w : World) (hx : x < W64) : Calls Tryd.prog 12 #[.int .u64 z] w fun e w' => e = .returned (.float .f64 (can x)) ∧ w = w' := by
  subst hz; exact of_any x w hx
set_option maxRecDepth 100000 in
set_option maxHeartbeats 4000000 in
theorem floBack_law (w : World) (hl : Lay w) (v0 : Int) (h0 : 0 ≤ v0) (h1 : v0 < 18446744073709551616) (v1 : Int) (h2 : 0 ≤ v1) (h3 : v1 < 18446744073709551616) :
    Calls Tryd.prog 3 #[.int .u64 v0, .int .u64 v1] w fun e w' => e = .returned (.bool true) ∧ Below w.heap.size w w' := by
  obtain ⟨v, rfl⟩ := Int.eq_ofNat_of_zero_le h0
  obtain ⟨u, rfl⟩ := Int.eq_ofNat_of_zero_le h2
  have hv : v < W64 := by unfold W64; omega
  have hu : u < W64 := by unfold W64; omega
  have hcv := can_lt hv
  have hcu := can_lt hu
  have hs1 : Hid (same (can (can v)) (can v) = true) := Lib.hid (by rw [can_can]; exact same_refl _)
  clear h0 h1 h2 h3
  have H1 := Lib.hid (fun (w : World) => of_any v w hv)
  have H2 := Lib.hid (fun (w : World) => of_any u w hu)
  clear hv hu
  generalize can v = x at *
  generalize can u = y at *
  have HT := Lib.hid (T_eq_same hcv hcu)
  have hcc := can_lt hcv
  cases hs : same x y
  all_goals
    go_enter Tryd.func3, Tryd.ntmps3
    go_wp2_with (first
      | (go_at_call 12; (with_reducible refine (H1.out _).mono ?_); rintro e w' ⟨rfl, rfl⟩)
      | (go_at_call 12; (with_reducible refine (H2.out _).mono ?_); rintro e w' ⟨rfl, rfl⟩; refine Hid.out ?_))
    refine Lib.hid ?_
    go_wp2_with (first
      | (go_at_call 14; (with_reducible refine (text_tr x hcv _ hl).mono ?_); rintro e w1 ⟨S1, rfl, HS1, hb1⟩; have hl1 := hl.below hb1; have hz1 := Lib.hid (T_size HS1.out); refine Hid.out ?_))
    refine Lib.hid ?_
    go_wp2_with (first
      | (go_at_call 13; (with_reducible refine (parse_tr S1 hcv HS1.out hz1.out _ hl1).mono ?_); rintro e w2 ⟨rfl, hb2⟩; have hl2 := hl1.below hb2; refine Hid.out ?_))
    refine Lib.hid ?_
    go_wp2_with (first
      | (go_at_call 15; (with_reducible refine (same_any (can x) x _ hcc hcv).mono ?_); rw [same_can_left, same_refl]; rintro e w' ⟨rfl, rfl⟩; refine Hid.out ?_))
    refine Lib.hid ?_
    go_wp2_with (first
      | (go_at_call 14; (with_reducible refine (text_tr x hcv _ hl2).mono ?_); rintro e w3 ⟨S3, rfl, HS3, hb3⟩; have hl3 := hl2.below hb3; refine Hid.out ?_))
    refine Lib.hid ?_
    go_wp2_with (first
      | (go_at_call 14; (with_reducible refine (text_tr y hcu _ hl3).mono ?_); rintro e w4 ⟨S4, rfl, HS4, hb4⟩; have hl4 := hl3.below hb4; refine Hid.out ?_))
    refine Lib.hid ?_
    have q := (texts_eq HS3.out HS4.out).trans (HT.out.trans hs)
    go_wp2_with (first
      | (go_at_call 15; (with_reducible refine (same_any x y _ hcv hcu).mono ?_); rw [hs]; rintro e w' ⟨rfl, rfl⟩)
      | (go_at_call 16; (with_reducible refine (awake_any _ hl4).mono ?_); rintro e w5 ⟨rfl, hb5⟩))
    go_ret
    exact ⟨rfl, ((((hb1.trans (hb2.mono hb1.size)).trans (hb3.mono (hb1.trans (hb2.mono hb1.size)).size))).trans (hb4.mono ((hb1.trans (hb2.mono hb1.size)).trans (hb3.mono (hb1.trans (hb2.mono hb1.size)).size)).size)).trans (hb5.mono (Nat.le_trans hb1.size (Nat.le_trans hb2.size (Nat.le_trans hb3.size hb4.size))))⟩
end Go.Proofs.YtplhlpdcdemopaaDoor
