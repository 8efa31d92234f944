/- The texts of doubles: the program's. Conditions: the library's tables are laid. -/
import Derived.Test.YtplhlpdcdemopaaDoorFe
import Derived.Outline
namespace Go.Proofs.YtplhlpdcdemopaaDoor
open Go.RowKit Go.FT Go.FX Go.Lib

theorem zero_test {x : Nat} (hx : x < W64) (hn : isN x = false) : (FloatKind.f64.format.order x 0 == some .eq) = decide (x % SGN = 0) := by
  show (D.order x 0 == some .eq) = _
  rw [order_sv hx (by decide) hn (by decide), show sv 0 = 0 by unfold sv; rw [show ng 0 = false from rfl, if_neg Bool.false_ne_true, V_zero]; rfl, cmp_int]
  have hz : sv x = 0 ↔ x % SGN = 0 := by
    have hs := sg_split hx
    have hr := isN_false hn
    unfold sg at hs
    cases g : ng x
    · rw [g, if_neg Bool.false_ne_true] at hs
      unfold sv; rw [g, if_neg Bool.false_ne_true]
      have := V_zero_iff (r := x)
      omega
    · rw [g, if_pos rfl] at hs
      unfold sv; rw [g, if_pos rfl]
      have := V_zero_iff (r := x - SGN)
      have e : x - SGN = x % SGN := by omega
      rw [e] at this ⊢
      omega
  by_cases h : x % SGN = 0
  · rw [decide_eq_true h, if_neg (by omega), if_pos (by omega)]; rfl
  · rw [decide_eq_false h]
    by_cases l : sv x < 0
    · rw [if_pos l]; rfl
    · rw [if_neg l, if_neg (fun e => h (hz.1 e))]; rfl
theorem tz_i {z : Int} (x : Nat) (hz : z = (x : Nat)) (hx : x < W64) (w : World) (hl : Lay w) : Calls Tryd.prog 52 #[.int .u64 z] w fun e w' => e = .returned (.int .i64 (FX.tz x : Nat)) ∧ w = w' := by
  subst hz; exact tz_any x hx w hl
/-- A string returned: its bytes. -/
def SR (w w' : World) (e : Ending) (l : List UInt8) (n : Nat) : Prop := ∃ S : ByteArray, e = .returned (.string S) ∧ Hid (S.data.toList = l) ∧ S.size ≤ n ∧ Below w.heap.size w w'
theorem sr_of {w w' : World} {e : Ending} {l : List UInt8} {n : Nat} (h : e = .returned (strV l)) (hn : l.length ≤ n) (hb : Below w.heap.size w w') : SR w w' e l n :=
  ⟨⟨l.toArray⟩, h, Lib.hid (by simp), by show l.toArray.size ≤ n; simpa using hn, hb⟩
theorem strV_of {S : ByteArray} {l : List UInt8} (h : S.data.toList = l) : Value.string S = strV l := by
  unfold strV
  congr 1
  apply ByteArray.ext
  rw [← h]
theorem sdata_append (a b : ByteArray) : (a ++ b).data.toList = a.data.toList ++ b.data.toList := by
  simp
theorem nd_le : ∀ (k u : Nat), 0 < k → u < 10 ^ k → nDigits u ≤ k
  | 0, _, h, _ => by omega
  | 1, u, _, h => by rw [nDigits_small (by simpa using h)]; omega
  | k + 2, u, _, h => by
    by_cases hu : u < 10
    · rw [nDigits_small hu]; omega
    · rw [nDigits_big hu]
      have := nd_le (k + 1) (u / 10) (by omega) (by rw [Nat.pow_succ] at h; omega)
      omega
theorem dec_len {u k : Nat} (hk : 0 < k) (h : u < 10 ^ k) : (decDigits u).length ≤ k := by
  rw [decDigits_length]; exact nd_le k u hk h
theorem fmt_i {z : Int} (u : Nat) (hz : z = (u : Nat)) (hu : u < W64) (w : World) (hl : Lay w) : Calls Tryd.prog 53 #[.int .u64 z, .int .i64 10] w fun e w' => SR w w' e (decDigits u) 20 := by
  subst hz; exact (fmt_any u hu w hl).mono fun e w' h => sr_of h.1 (dec_len (by omega) (Nat.lt_of_lt_of_le hu (by decide))) h.2
theorem itoa_len {n : Int} (h0 : -9223372036854775808 ≤ n) (h1 : n ≤ 9223372036854775807) : (itoa n).length ≤ 20 := by
  unfold itoa
  split
  · rw [List.length_cons]
    have := dec_len (u := n.natAbs) (k := 19) (by omega) (by omega)
    omega
  · exact Nat.le_trans (dec_len (u := n.toNat) (k := 19) (by omega) (by omega)) (by omega)
theorem itoa_i {z : Int} (n : Int) (hz : z = n) (h0 : -9223372036854775808 ≤ n) (h1 : n ≤ 9223372036854775807) (w : World) (hl : Lay w) :
    Calls Tryd.prog 54 #[.int .i64 z] w fun e w' => SR w w' e (itoa n) 20 := by
  subst hz; exact (itoa_any z h0 h1 w hl).mono fun e w' h => sr_of h.1 (itoa_len h0 h1) h.2

theorem T_nan {x : Nat} (h : isN x = true) : T x = [110, 97, 110] := by unfold T; rw [h, if_pos rfl]
theorem text_nan (x : Nat) (hx : x < W64) (h : isN x = true) (w : World) :
    Calls Tryd.prog 14 #[.float .f64 x] w fun e w' => e = .returned (strV (T x)) ∧ Below w.heap.size w w' := by
  have hn := ne_self hx
  rw [h] at hn
  have HT := Lib.hid (T_nan h)
  clear h
  cases g : ng x
  all_goals
    go_enter Tryd.func14, Tryd.ntmps14
    go_wp2_with (go_at_call 50; refine (signbit_any _ _ hx).mono ?_; rw [g]; rintro e w' ⟨rfl, rfl⟩)
    go_ret
    exact ⟨by rw [HT.out]; rfl, Below.refl _ _⟩
theorem text_inf (x : Nat) (hx : x < W64) (h : isN x = false) (hi : isI x = true) (w : World) :
    Calls Tryd.prog 14 #[.float .f64 x] w fun e w' => e = .returned (strV (T x)) ∧ Below w.heap.size w w' := by
  have hn := ne_self hx
  rw [h] at hn
  have HI := Lib.hid hi
  have HT : Hid (T x = (if ng x then [45] else []) ++ [105, 110, 102]) := Lib.hid (by unfold T; rw [h, if_neg Bool.false_ne_true, of_decide_eq_true hi]; rfl)
  clear h hi
  cases g : ng x
  all_goals
    go_enter Tryd.func14, Tryd.ntmps14
    go_wp2_with (first | (go_at_call 50; refine (signbit_any _ _ hx).mono ?_; rw [g]; rintro e w' ⟨rfl, rfl⟩) | (go_at_call 51; refine (isInf_any _ _ hx).mono ?_; rw [HI.out]; rintro e w' ⟨rfl, rfl⟩))
    go_ret
    exact ⟨by rw [HT.out, g]; rfl, Below.refl _ _⟩
theorem dec_zero : decDigits 0 = [48] := by rw [decDigits, dif_pos (by omega)]; rfl
theorem zero_txt : decDigits ((0, 0) : Nat × Int).1 ++ 98 :: itoa ((0, 0) : Nat × Int).2 = [48, 98, 48] := by
  show decDigits 0 ++ 98 :: itoa 0 = _
  have h : itoa 0 = decDigits 0 := by unfold itoa; rw [if_neg (by omega)]; rfl
  rw [h, dec_zero]; rfl
theorem text_zero (x : Nat) (hx : x < W64) (h : isN x = false) (hz : x % SGN = 0) (w : World) :
    Calls Tryd.prog 14 #[.float .f64 x] w fun e w' => e = .returned (strV (T x)) ∧ Below w.heap.size w w' := by
  have hn := ne_self hx
  rw [h] at hn
  have HI : Hid (isI x = false) := Lib.hid (by unfold isI; rw [hz]; decide)
  have ht := zero_test hx h
  rw [decide_eq_true hz] at ht
  have HT : Hid (T x = (if ng x then [45] else []) ++ [48, 98, 48]) := Lib.hid (by
    unfold T; rw [h, if_neg Bool.false_ne_true, hz]; congr 1; unfold body
    rw [if_neg (by decide), oe_zero]
    exact zero_txt)
  clear h hz
  cases g : ng x
  all_goals
    go_enter Tryd.func14, Tryd.ntmps14
    go_wp2_with (first | (go_at_call 50; refine (signbit_any _ _ hx).mono ?_; rw [g]; rintro e w' ⟨rfl, rfl⟩) | (go_at_call 51; refine (isInf_any _ _ hx).mono ?_; rw [HI.out]; rintro e w' ⟨rfl, rfl⟩))
    go_ret
    exact ⟨by rw [HT.out, g]; rfl, Below.refl _ _⟩
/-- The parts of a finite number's bits. -/
theorem parts_hi {r : Nat} (hr : r < INF) (hb : ¬ r < B) : (r : Int) / 4503599627370496 = ((ex r + 1 : Nat) : Int) ∧ (r : Int) % 4503599627370496 = ((r % B : Nat) : Int) ∧ ((r % B : Nat) : Int) + 4503599627370496 = (mag r : Nat) := by
  unfold ex mag INF at *
  rw [if_neg hb, if_neg hb]
  unfold B at *
  omega
theorem parts_lo {r : Nat} (hb : r < B) : (r : Int) / 4503599627370496 = 0 ∧ (r : Int) % 4503599627370496 = (r : Nat) ∧ (r : Int) = (mag r : Nat) ∧ ex r = 0 := by
  unfold ex mag
  rw [if_pos hb, if_pos hb]
  unfold B at *
  omega
theorem od_shift {m : Nat} {z : Int} (hz : z = (m : Nat)) : z / 2 ^ FX.tz m = ((od m : Nat) : Int) := by
  subst hz
  unfold od
  norm_cast
theorem body_fin {r : Nat} (h0 : r ≠ 0) (hr : r < INF) : body r = decDigits (od (mag r)) ++ 98 :: itoa ((ex r : Int) + FX.tz (mag r) - 1074) := by
  unfold body
  rw [if_neg (by omega), oe_pos h0]
set_option maxRecDepth 100000 in
set_option maxHeartbeats 1000000 in
theorem text_hi (x : Nat) (hx : x < W64) (h : isN x = false) (hi : isI x = false) (hb0 : ¬ x % SGN < B) (w : World) (hl : Lay w) :
    Calls Tryd.prog 14 #[.float .f64 x] w fun e w' => e = .returned (strV (T x)) ∧ Below w.heap.size w w' := by
  have hn := ne_self hx
  rw [h] at hn
  have HI := Lib.hid hi
  have hz : ¬ x % SGN = 0 := by intro e; rw [e] at hb0; exact hb0 (by decide)
  have ht := zero_test hx h
  rw [decide_eq_false hz] at ht
  have HC := Lib.hid (can_no h)
  have hr : x % SGN < INF := by
    have a := isN_false h
    have b := of_decide_eq_false hi
    omega
  have HT : Hid (T x = (if ng x then [45] else []) ++ body (x % SGN)) := Lib.hid (by unfold T; rw [h, if_neg Bool.false_ne_true])
  have hb := andNot_sgn hx
  generalize x % SGN = r at *
  clear h hi
  obtain ⟨p1, p2, p3⟩ := parts_hi hr hb0
  have hex := ex_le hr
  have hm := mag_lt r
  have hm0 := mag_pos (r := r) (by omega)
  have htz := (tz_spec hm0 (by unfold B at hm; omega)).2.2
  have HB := Lib.hid (body_fin hz hr)
  have HP3 := Lib.hid p3
  have HOD : Hid (od (mag r) < W64) := Lib.hid (Nat.lt_of_le_of_lt (Nat.div_le_self _ _) (by unfold B at hm; unfold W64; omega))
  have HMW : Hid (mag r < W64) := Lib.hid (by unfold B at hm; unfold W64; omega)
  have HS := Lib.hid (od_shift (m := mag r) p3)
  have hf : r % B ≤ 4503599627370495 := by have : r % B < B := Nat.mod_lt _ (by decide); unfold B at *; omega
  clear p3 hr hb0 hz
  generalize r % B = f at *
  cases g : ng x
  all_goals
    go_enter Tryd.func14, Tryd.ntmps14
    go_wp2_with (first | (go_at_call 50; refine (signbit_any _ _ hx).mono ?_; rw [g]; rintro e w' ⟨rfl, rfl⟩) | (go_at_call 51; refine (isInf_any _ _ hx).mono ?_; rw [HI.out]; rintro e w' ⟨rfl, rfl⟩) | (go_at_call 27; refine (bits_any _ _ hx).mono ?_; rw [HC.out]; rintro e w' ⟨rfl, rfl⟩) | (go_at_call 52; refine (tz_i (mag r) HP3.out HMW.out _ hl).mono ?_; rintro e w' ⟨rfl, rfl⟩) | (go_at_call 53; refine (fmt_i (od (mag r)) HS.out HOD.out _ hl).mono ?_; rintro e w1 ⟨S1, rfl, HS1, hs1, hb1⟩) | (go_at_call 54; refine (itoa_i ((ex r : Int) + FX.tz (mag r) - 1074) (by omega) (by omega) (by omega) _ (hl.below hb1)).mono ?_; rintro e w2 ⟨S2, rfl, HS2, hs2, hb2⟩))
    go_ret
    exact ⟨by rw [HT.out, HB.out, g]; exact congrArg Ending.returned (strV_of (by simp [HS1.out, HS2.out])), hb1.trans (hb2.mono hb1.size)⟩
set_option maxRecDepth 100000 in
set_option maxHeartbeats 1000000 in
theorem text_lo (x : Nat) (hx : x < W64) (h : isN x = false) (hi : isI x = false) (hz : ¬ x % SGN = 0) (hb0 : x % SGN < B) (w : World) (hl : Lay w) :
    Calls Tryd.prog 14 #[.float .f64 x] w fun e w' => e = .returned (strV (T x)) ∧ Below w.heap.size w w' := by
  have hn := ne_self hx
  rw [h] at hn
  have HI := Lib.hid hi
  have ht := zero_test hx h
  rw [decide_eq_false hz] at ht
  have HC := Lib.hid (can_no h)
  have hr : x % SGN < INF := by
    have a := isN_false h
    have b := of_decide_eq_false hi
    omega
  have HT : Hid (T x = (if ng x then [45] else []) ++ body (x % SGN)) := Lib.hid (by unfold T; rw [h, if_neg Bool.false_ne_true])
  have hb := andNot_sgn hx
  generalize x % SGN = r at *
  clear h hi
  obtain ⟨p1, p2, p3, p4⟩ := parts_lo hb0
  have hm := mag_lt r
  have hm0 := mag_pos (r := r) (by omega)
  have htz := (tz_spec hm0 (by unfold B at hm; omega)).2.2
  have HB := Lib.hid (body_fin hz hr)
  have HP3 := Lib.hid p3
  have HOD : Hid (od (mag r) < W64) := Lib.hid (Nat.lt_of_le_of_lt (Nat.div_le_self _ _) (by unfold B at hm; unfold W64; omega))
  have HMW : Hid (mag r < W64) := Lib.hid (by unfold B at hm; unfold W64; omega)
  have HS := Lib.hid (od_shift (m := mag r) p3)
  have hP4 : Hid (ex r = 0) := Lib.hid p4
  clear p3 p4 hr hb0 hz
  cases g : ng x
  all_goals
    go_enter Tryd.func14, Tryd.ntmps14
    go_wp2_with (first | (go_at_call 50; refine (signbit_any _ _ hx).mono ?_; rw [g]; rintro e w' ⟨rfl, rfl⟩) | (go_at_call 51; refine (isInf_any _ _ hx).mono ?_; rw [HI.out]; rintro e w' ⟨rfl, rfl⟩) | (go_at_call 27; refine (bits_any _ _ hx).mono ?_; rw [HC.out]; rintro e w' ⟨rfl, rfl⟩) | (go_at_call 52; refine (tz_i (mag r) HP3.out HMW.out _ hl).mono ?_; rintro e w' ⟨rfl, rfl⟩) | (go_at_call 53; refine (fmt_i (od (mag r)) HS.out HOD.out _ hl).mono ?_; rintro e w1 ⟨S1, rfl, HS1, hs1, hb1⟩) | (go_at_call 54; refine (itoa_i ((ex r : Int) + FX.tz (mag r) - 1074) (by have := hP4.out; omega) (by have := hP4.out; omega) (by have := hP4.out; omega) _ (hl.below hb1)).mono ?_; rintro e w2 ⟨S2, rfl, HS2, hs2, hb2⟩))
    go_ret
    exact ⟨by rw [HT.out, HB.out, g]; exact congrArg Ending.returned (strV_of (by simp [HS1.out, HS2.out])), hb1.trans (hb2.mono hb1.size)⟩
theorem text_any (x : Nat) (hx : x < W64) (w : World) (hl : Lay w) :
    Calls Tryd.prog 14 #[.float .f64 x] w fun e w' => e = .returned (strV (T x)) ∧ Below w.heap.size w w' := by
  cases h : isN x
  · cases hi : isI x
    · by_cases hz : x % SGN = 0
      · exact text_zero x hx h hz w
      · by_cases hb : x % SGN < B
        · exact text_lo x hx h hi hz hb w hl
        · exact text_hi x hx h hi hb w hl
    · exact text_inf x hx h hi w
  · exact text_nan x hx h w
end Go.Proofs.YtplhlpdcdemopaaDoor
