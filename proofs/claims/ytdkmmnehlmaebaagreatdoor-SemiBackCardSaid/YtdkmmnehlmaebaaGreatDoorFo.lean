import Derived.Test.YtdkmmnehlmaebaaGreatDoorFd
import Derived.Test.YtdkmmnehlmaebaaGreatDoorShelf2
import Derived.Deep.Draws
import Derived.LoopTactic
import Derived.Deep.QuietTactic
import Derived.BigQuiet
import Derived.Outline
import Derived.Test.YtdkmmnehlmaebaaGreatDoorWh
import Derived.Laws.BytesArg

/- What is laid when a call begins, and how long it lies; the texts of doubles: the program's. Conditions: the library's tables are laid. -/
namespace Go.Proofs.YtdkmmnehlmaebaaGreatDoor
open Go.RowKit Go.FT Go.FX Go.Lib

theorem var_below {P : Program} {w w' : World} {name : String} {v : Array Value} (h : w.var? P name = some v) (hb : Below w.heap.size w w') : w'.var? P name = some v := by
  unfold World.var? at *
  cases hg : P.globalNamed name with
  | none => simp [hg] at h
  | some g =>
    simp only [hg, Option.bind_some] at h ⊢
    have hlt : g < w.heap.size := by
      rcases Nat.lt_or_ge g w.heap.size with h' | h'
      · exact h'
      · rw [Array.getElem?_eq_none h'] at h; simp at h
    rw [hb.block g hlt]
    exact h
theorem cell_below {w w' : World} {p : Addr} {v : Value} (h : w.cell? p = some v) (hb : Below w.heap.size w w') : w'.cell? p = some v := by
  rw [hb.cell (block_lt_of_cell h)]; exact h
/-- The library's tables and variables as they lie when a call begins. -/
structure Lay (w : World) : Prop where
  tab : Tab w
  tz : TabAt 1 Lib.deBruijn64tab w
  big : ∃ m, w.cell? ⟨5, 0, none⟩ = some (.int .i64 m)
  syn : ∃ tp p, w.var? Tryz.prog "strconv.ErrSyntax" = some #[.iface tp p]
  ran : ∃ tp p, w.var? Tryz.prog "strconv.ErrRange" = some #[.iface tp p]
theorem Lay.below {w w' : World} (h : Lay w) (hb : Below w.heap.size w w') : Lay w' :=
  ⟨h.tab.below hb, fun j hj => cell_below (h.tz j hj) hb, h.big.imp fun _ h => cell_below h hb, h.syn.imp fun _ h => h.imp fun _ h => var_below h hb, h.ran.imp fun _ h => h.imp fun _ h => var_below h hb⟩
theorem Lay.drew {w : World} (h : Lay w) : Lay w.drew := h.below ((Below.refl _ _).drew)
theorem Lay.drewN {w : World} (h : Lay w) (n : Nat) : Lay (w.drewN n) := h.below (below_drewN (Below.refl _ _) n)
theorem Lay.alloc {w : World} (h : Lay w) (o : Obj) : Lay (w.alloc o) := h.below ((Below.refl _ _).alloc (Nat.le_refl _) o)

def strV (l : List UInt8) : Value := .string ⟨l.toArray⟩
theorem tz_any (x : Nat) (hx : x < W64) (w : World) (hl : Lay w) : Calls Tryz.prog 89 #[.int .u64 x] w fun e w' => e = .returned (.int .i64 (FX.tz x : Nat)) ∧ w = w' :=
  (Any7.bits_TrailingZeros64 Tryz.lays7n29 x hx w (fun _ => hl.tz)).mono fun _ _ h => ⟨h.1, h.2.symm⟩
theorem itoa_any (n : Int) (h0 : -9223372036854775808 ≤ n) (h1 : n ≤ 9223372036854775807) (w : World) (hl : Lay w) :
    Calls Tryz.prog 60 #[.int .i64 n] w fun e w' => e = .returned (strV (itoa n)) ∧ Below w.heap.size w w' :=
  (Tryz.strconv_Itoa n h0 h1 w hl.tab).mono fun e w' ⟨h, k, os, hw⟩ => ⟨h, by
    subst hw
    exact ⟨rfl, rfl, rfl, by show w.heap.size ≤ (w.heap ++ os).size; simp, fun g hg => Lib.heap_grow_old w k os g hg⟩⟩
theorem fmt_any (u : Nat) (hu : u < W64) (w : World) (hl : Lay w) : Calls Tryz.prog 82 #[.int .u64 u, .int .i64 10] w fun e w' => e = .returned (strV (decDigits u)) ∧ Below w.heap.size w w' :=
  fmt40 u hu w hl.tab
end Go.Proofs.YtdkmmnehlmaebaaGreatDoor


/- The texts of doubles: the program's. Conditions: the library's tables are laid. -/
namespace Go.Proofs.YtdkmmnehlmaebaaGreatDoor
open Go.RowKit Go.FT Go.FX Go.Lib

theorem zero_test {x : Nat} (hx : x < W64) (hn : isN x = false) : (FloatKind.f64.format.order x 0 == some .eq) = decide (x % SGN = 0) := by
  show (D.order x 0 == some .eq) = _
  rw [order_sv hx (by decide) hn (by decide), show sv 0 = 0 by unfold sv; rw [show ng 0 = false from rfl, if_neg Bool.false_ne_true, V_zero]; rfl, cmp_int]
  have hz : sv x = 0 ↔ x % SGN = 0 := by
    have hs := sg_split hx
    have hr := isN_false hn
    unfold sg at hs
    cases g : ng x
    · rw [g, if_neg Bool.false_ne_true] at hs
      unfold sv; rw [g, if_neg Bool.false_ne_true]
      have := V_zero_iff (r := x)
      omega
    · rw [g, if_pos rfl] at hs
      unfold sv; rw [g, if_pos rfl]
      have := V_zero_iff (r := x - SGN)
      have e : x - SGN = x % SGN := by omega
      rw [e] at this ⊢
      omega
  by_cases h : x % SGN = 0
  · rw [decide_eq_true h, if_neg (by omega), if_pos (by omega)]; rfl
  · rw [decide_eq_false h]
    by_cases l : sv x < 0
    · rw [if_pos l]; rfl
    · rw [if_neg l, if_neg (fun e => h (hz.1 e))]; rfl
theorem tz_i {z : Int} (x : Nat) (hz : z = (x : Nat)) (hx : x < W64) (w : World) (hl : Lay w) : Calls Tryz.prog 89 #[.int .u64 z] w fun e w' => e = .returned (.int .i64 (FX.tz x : Nat)) ∧ w = w' := by
  subst hz; exact tz_any x hx w hl
/-- A string returned: its bytes. -/
def SR (w w' : World) (e : Ending) (l : List UInt8) (n : Nat) : Prop := ∃ S : ByteArray, e = .returned (.string S) ∧ Hid (S.data.toList = l) ∧ S.size ≤ n ∧ Below w.heap.size w w'
theorem sr_of {w w' : World} {e : Ending} {l : List UInt8} {n : Nat} (h : e = .returned (strV l)) (hn : l.length ≤ n) (hb : Below w.heap.size w w') : SR w w' e l n :=
  ⟨⟨l.toArray⟩, h, Lib.hid (by simp), by show l.toArray.size ≤ n; simpa using hn, hb⟩
theorem strV_of {S : ByteArray} {l : List UInt8} (h : S.data.toList = l) : Value.string S = strV l := by
  unfold strV
  congr 1
  apply ByteArray.ext
  rw [← h]
theorem sdata_append (a b : ByteArray) : (a ++ b).data.toList = a.data.toList ++ b.data.toList := by
  simp
theorem nd_le : ∀ (k u : Nat), 0 < k → u < 10 ^ k → nDigits u ≤ k
  | 0, _, h, _ => by omega
  | 1, u, _, h => by rw [nDigits_small (by simpa using h)]; omega
  | k + 2, u, _, h => by
    by_cases hu : u < 10
    · rw [nDigits_small hu]; omega
    · rw [nDigits_big hu]
      have := nd_le (k + 1) (u / 10) (by omega) (by rw [Nat.pow_succ] at h; omega)
      omega
theorem dec_len {u k : Nat} (hk : 0 < k) (h : u < 10 ^ k) : (decDigits u).length ≤ k := by
  rw [decDigits_length]; exact nd_le k u hk h
theorem fmt_i {z : Int} (u : Nat) (hz : z = (u : Nat)) (hu : u < W64) (w : World) (hl : Lay w) : Calls Tryz.prog 82 #[.int .u64 z, .int .i64 10] w fun e w' => SR w w' e (decDigits u) 20 := by
  subst hz; exact (fmt_any u hu w hl).mono fun e w' h => sr_of h.1 (dec_len (by omega) (Nat.lt_of_lt_of_le hu (by decide))) h.2
theorem itoa_len {n : Int} (h0 : -9223372036854775808 ≤ n) (h1 : n ≤ 9223372036854775807) : (itoa n).length ≤ 20 := by
  unfold itoa
  split
  · rw [List.length_cons]
    have := dec_len (u := n.natAbs) (k := 19) (by omega) (by omega)
    omega
  · exact Nat.le_trans (dec_len (u := n.toNat) (k := 19) (by omega) (by omega)) (by omega)
theorem itoa_i {z : Int} (n : Int) (hz : z = n) (h0 : -9223372036854775808 ≤ n) (h1 : n ≤ 9223372036854775807) (w : World) (hl : Lay w) :
    Calls Tryz.prog 60 #[.int .i64 z] w fun e w' => SR w w' e (itoa n) 20 := by
  subst hz; exact (itoa_any z h0 h1 w hl).mono fun e w' h => sr_of h.1 (itoa_len h0 h1) h.2

theorem T_nan {x : Nat} (h : isN x = true) : T x = [110, 97, 110] := by unfold T; rw [h, if_pos rfl]
theorem text_nan (x : Nat) (hx : x < W64) (h : isN x = true) (w : World) :
    Calls Tryz.prog 61 #[.float .f64 x] w fun e w' => e = .returned (strV (T x)) ∧ Below w.heap.size w w' := by
  have hn := ne_self hx
  rw [h] at hn
  have HT := Lib.hid (T_nan h)
  clear h
  cases g : ng x
  all_goals
    go_enter Tryz.func61, Tryz.ntmps61
    go_wp2_with (go_at_call 87; refine (signbit_any _ _ hx).mono ?_; rw [g]; rintro e w' ⟨rfl, rfl⟩)
    go_ret
    exact ⟨by rw [HT.out]; rfl, Below.refl _ _⟩
theorem text_inf (x : Nat) (hx : x < W64) (h : isN x = false) (hi : isI x = true) (w : World) :
    Calls Tryz.prog 61 #[.float .f64 x] w fun e w' => e = .returned (strV (T x)) ∧ Below w.heap.size w w' := by
  have hn := ne_self hx
  rw [h] at hn
  have HI := Lib.hid hi
  have HT : Hid (T x = (if ng x then [45] else []) ++ [105, 110, 102]) := Lib.hid (by unfold T; rw [h, if_neg Bool.false_ne_true, of_decide_eq_true hi]; rfl)
  clear h hi
  cases g : ng x
  all_goals
    go_enter Tryz.func61, Tryz.ntmps61
    go_wp2_with (first | (go_at_call 87; refine (signbit_any _ _ hx).mono ?_; rw [g]; rintro e w' ⟨rfl, rfl⟩) | (go_at_call 88; refine (isInf_any _ _ hx).mono ?_; rw [HI.out]; rintro e w' ⟨rfl, rfl⟩))
    go_ret
    exact ⟨by rw [HT.out, g]; rfl, Below.refl _ _⟩
theorem dec_zero : decDigits 0 = [48] := by rw [decDigits, dif_pos (by omega)]; rfl
theorem zero_txt : decDigits ((0, 0) : Nat × Int).1 ++ 98 :: itoa ((0, 0) : Nat × Int).2 = [48, 98, 48] := by
  show decDigits 0 ++ 98 :: itoa 0 = _
  have h : itoa 0 = decDigits 0 := by unfold itoa; rw [if_neg (by omega)]; rfl
  rw [h, dec_zero]; rfl
theorem text_zero (x : Nat) (hx : x < W64) (h : isN x = false) (hz : x % SGN = 0) (w : World) :
    Calls Tryz.prog 61 #[.float .f64 x] w fun e w' => e = .returned (strV (T x)) ∧ Below w.heap.size w w' := by
  have hn := ne_self hx
  rw [h] at hn
  have HI : Hid (isI x = false) := Lib.hid (by unfold isI; rw [hz]; decide)
  have ht := zero_test hx h
  rw [decide_eq_true hz] at ht
  have HT : Hid (T x = (if ng x then [45] else []) ++ [48, 98, 48]) := Lib.hid (by
    unfold T; rw [h, if_neg Bool.false_ne_true, hz]; congr 1; unfold body
    rw [if_neg (by decide), oe_zero]
    exact zero_txt)
  clear h hz
  cases g : ng x
  all_goals
    go_enter Tryz.func61, Tryz.ntmps61
    go_wp2_with (first | (go_at_call 87; refine (signbit_any _ _ hx).mono ?_; rw [g]; rintro e w' ⟨rfl, rfl⟩) | (go_at_call 88; refine (isInf_any _ _ hx).mono ?_; rw [HI.out]; rintro e w' ⟨rfl, rfl⟩))
    go_ret
    exact ⟨by rw [HT.out, g]; rfl, Below.refl _ _⟩
/-- The parts of a finite number's bits. -/
theorem parts_hi {r : Nat} (hr : r < INF) (hb : ¬ r < B) : (r : Int) / 4503599627370496 = ((ex r + 1 : Nat) : Int) ∧ (r : Int) % 4503599627370496 = ((r % B : Nat) : Int) ∧ ((r % B : Nat) : Int) + 4503599627370496 = (mag r : Nat) := by
  unfold ex mag INF at *
  rw [if_neg hb, if_neg hb]
  unfold B at *
  omega
theorem parts_lo {r : Nat} (hb : r < B) : (r : Int) / 4503599627370496 = 0 ∧ (r : Int) % 4503599627370496 = (r : Nat) ∧ (r : Int) = (mag r : Nat) ∧ ex r = 0 := by
  unfold ex mag
  rw [if_pos hb, if_pos hb]
  unfold B at *
  omega
theorem od_shift {m : Nat} {z : Int} (hz : z = (m : Nat)) : z / 2 ^ FX.tz m = ((od m : Nat) : Int) := by
  subst hz
  unfold od
  norm_cast
theorem body_fin {r : Nat} (h0 : r ≠ 0) (hr : r < INF) : body r = decDigits (od (mag r)) ++ 98 :: itoa ((ex r : Int) + FX.tz (mag r) - 1074) := by
  unfold body
  rw [if_neg (by omega), oe_pos h0]
set_option maxRecDepth 100000 in
set_option maxHeartbeats 1000000 in
theorem text_hi (x : Nat) (hx : x < W64) (h : isN x = false) (hi : isI x = false) (hb0 : ¬ x % SGN < B) (w : World) (hl : Lay w) :
    Calls Tryz.prog 61 #[.float .f64 x] w fun e w' => e = .returned (strV (T x)) ∧ Below w.heap.size w w' := by
  have hn := ne_self hx
  rw [h] at hn
  have HI := Lib.hid hi
  have hz : ¬ x % SGN = 0 := by intro e; rw [e] at hb0; exact hb0 (by decide)
  have ht := zero_test hx h
  rw [decide_eq_false hz] at ht
  have HC := Lib.hid (can_no h)
  have hr : x % SGN < INF := by
    have a := isN_false h
    have b := of_decide_eq_false hi
    omega
  have HT : Hid (T x = (if ng x then [45] else []) ++ body (x % SGN)) := Lib.hid (by unfold T; rw [h, if_neg Bool.false_ne_true])
  have hb := andNot_sgn hx
  generalize x % SGN = r at *
  clear h hi
  obtain ⟨p1, p2, p3⟩ := parts_hi hr hb0
  have hex := ex_le hr
  have hm := mag_lt r
  have hm0 := mag_pos (r := r) (by omega)
  have htz := (tz_spec hm0 (by unfold B at hm; omega)).2.2
  have HB := Lib.hid (body_fin hz hr)
  have HP3 := Lib.hid p3
  have HOD : Hid (od (mag r) < W64) := Lib.hid (Nat.lt_of_le_of_lt (Nat.div_le_self _ _) (by unfold B at hm; unfold W64; omega))
  have HMW : Hid (mag r < W64) := Lib.hid (by unfold B at hm; unfold W64; omega)
  have HS := Lib.hid (od_shift (m := mag r) p3)
  have hf : r % B ≤ 4503599627370495 := by have : r % B < B := Nat.mod_lt _ (by decide); unfold B at *; omega
  clear p3 hr hb0 hz
  generalize r % B = f at *
  cases g : ng x
  all_goals
    go_enter Tryz.func61, Tryz.ntmps61
    go_wp2_with (first | (go_at_call 87; refine (signbit_any _ _ hx).mono ?_; rw [g]; rintro e w' ⟨rfl, rfl⟩) | (go_at_call 88; refine (isInf_any _ _ hx).mono ?_; rw [HI.out]; rintro e w' ⟨rfl, rfl⟩) | (go_at_call 78; refine (bits_any _ _ hx).mono ?_; rw [HC.out]; rintro e w' ⟨rfl, rfl⟩) | (go_at_call 89; refine (tz_i (mag r) HP3.out HMW.out _ hl).mono ?_; rintro e w' ⟨rfl, rfl⟩) | (go_at_call 82; refine (fmt_i (od (mag r)) HS.out HOD.out _ hl).mono ?_; rintro e w1 ⟨S1, rfl, HS1, hs1, hb1⟩) | (go_at_call 60; refine (itoa_i ((ex r : Int) + FX.tz (mag r) - 1074) (by omega) (by omega) (by omega) _ (hl.below hb1)).mono ?_; rintro e w2 ⟨S2, rfl, HS2, hs2, hb2⟩))
    go_ret
    exact ⟨by rw [HT.out, HB.out, g]; exact congrArg Ending.returned (strV_of (by simp [HS1.out, HS2.out])), hb1.trans (hb2.mono hb1.size)⟩
set_option maxRecDepth 100000 in
set_option maxHeartbeats 1000000 in
theorem text_lo (x : Nat) (hx : x < W64) (h : isN x = false) (hi : isI x = false) (hz : ¬ x % SGN = 0) (hb0 : x % SGN < B) (w : World) (hl : Lay w) :
    Calls Tryz.prog 61 #[.float .f64 x] w fun e w' => e = .returned (strV (T x)) ∧ Below w.heap.size w w' := by
  have hn := ne_self hx
  rw [h] at hn
  have HI := Lib.hid hi
  have ht := zero_test hx h
  rw [decide_eq_false hz] at ht
  have HC := Lib.hid (can_no h)
  have hr : x % SGN < INF := by
    have a := isN_false h
    have b := of_decide_eq_false hi
    omega
  have HT : Hid (T x = (if ng x then [45] else []) ++ body (x % SGN)) := Lib.hid (by unfold T; rw [h, if_neg Bool.false_ne_true])
  have hb := andNot_sgn hx
  generalize x % SGN = r at *
  clear h hi
  obtain ⟨p1, p2, p3, p4⟩ := parts_lo hb0
  have hm := mag_lt r
  have hm0 := mag_pos (r := r) (by omega)
  have htz := (tz_spec hm0 (by unfold B at hm; omega)).2.2
  have HB := Lib.hid (body_fin hz hr)
  have HP3 := Lib.hid p3
  have HOD : Hid (od (mag r) < W64) := Lib.hid (Nat.lt_of_le_of_lt (Nat.div_le_self _ _) (by unfold B at hm; unfold W64; omega))
  have HMW : Hid (mag r < W64) := Lib.hid (by unfold B at hm; unfold W64; omega)
  have HS := Lib.hid (od_shift (m := mag r) p3)
  have hP4 : Hid (ex r = 0) := Lib.hid p4
  clear p3 p4 hr hb0 hz
  cases g : ng x
  all_goals
    go_enter Tryz.func61, Tryz.ntmps61
    go_wp2_with (first | (go_at_call 87; refine (signbit_any _ _ hx).mono ?_; rw [g]; rintro e w' ⟨rfl, rfl⟩) | (go_at_call 88; refine (isInf_any _ _ hx).mono ?_; rw [HI.out]; rintro e w' ⟨rfl, rfl⟩) | (go_at_call 78; refine (bits_any _ _ hx).mono ?_; rw [HC.out]; rintro e w' ⟨rfl, rfl⟩) | (go_at_call 89; refine (tz_i (mag r) HP3.out HMW.out _ hl).mono ?_; rintro e w' ⟨rfl, rfl⟩) | (go_at_call 82; refine (fmt_i (od (mag r)) HS.out HOD.out _ hl).mono ?_; rintro e w1 ⟨S1, rfl, HS1, hs1, hb1⟩) | (go_at_call 60; refine (itoa_i ((ex r : Int) + FX.tz (mag r) - 1074) (by have := hP4.out; omega) (by have := hP4.out; omega) (by have := hP4.out; omega) _ (hl.below hb1)).mono ?_; rintro e w2 ⟨S2, rfl, HS2, hs2, hb2⟩))
    go_ret
    exact ⟨by rw [HT.out, HB.out, g]; exact congrArg Ending.returned (strV_of (by simp [HS1.out, HS2.out])), hb1.trans (hb2.mono hb1.size)⟩
theorem text_any (x : Nat) (hx : x < W64) (w : World) (hl : Lay w) :
    Calls Tryz.prog 61 #[.float .f64 x] w fun e w' => e = .returned (strV (T x)) ∧ Below w.heap.size w w' := by
  cases h : isN x
  · cases hi : isI x
    · by_cases hz : x % SGN = 0
      · exact text_zero x hx h hz w
      · by_cases hb : x % SGN < B
        · exact text_lo x hx h hi hz hb w hl
        · exact text_hi x hx h hi hb w hl
    · exact text_inf x hx h hi w
  · exact text_nan x hx h w
end Go.Proofs.YtdkmmnehlmaebaaGreatDoor


/- The walk of the document's decimal digits. No condition. -/
namespace Go.Proofs.YtdkmmnehlmaebaaGreatDoor
open Go.RowKit Go.FT Go.FX Go.Lib

abbrev bv (b : UInt8) : Value := .int .u8 (b.toNat : Int)
theorem infoU8 : (Tryz.prog.info? 5).map (fun i => (i.zero, i.size, i.bytes)) = some (some (.int .u8 0), 1, 1) := by kernel_rfl
def lenV : Value → Nat
  | .slice _ m _ => m
  | _ => 0
theorem conv_u8 {w : World} {A : Option Addr} {c n : Nat} {l : List UInt8} {B : Nat} (hr : Reads w B 1 A n (l.map bv)) :
    (convert 118 9 (.slice A n c)).run Tryz.prog w = .ok (.string ⟨l.toArray⟩) w := by
  have hl : l.length = n := by have := hr.1; simpa using this
  subst hl
  cases A with
  | none =>
    have h0 : l = [] := by
      rcases Nat.eq_zero_or_pos l.length with h | h
      · exact List.eq_nil_of_length_eq_zero h
      · obtain ⟨ad, e, _⟩ := hr.2 h; cases e
    subst h0
    exact run_convert_bytes_nil w 118 5 Tryz.underlying118 Tryz.underlying5 _ _ 9 Tryz.underlying9
  | some a =>
    exact run_convert_bytes_back (P := Tryz.prog) w 118 9 5 a c l Tryz.underlying118 Tryz.underlying5 Tryz.underlying9 (fun j hj => by
      obtain ⟨ad, e, _, hc⟩ := hr.2 (by omega)
      injection e with e
      subst e
      exact hc j _ (by rw [List.getElem?_map, List.getElem?_eq_getElem hj]; rfl))

/-- The digits of u0 that are written, and what is left. -/
def DecInv (u0 u : Nat) (D : List UInt8) : Prop := ((u ≠ 0 ∨ D = []) ∧ decDigits u0 = decDigits u ++ D) ∨ (u = 0 ∧ D ≠ [] ∧ decDigits u0 = D)
theorem DecInv.start (u : Nat) : DecInv u u [] := Or.inl ⟨Or.inr rfl, by simp⟩
theorem DecInv.step {u0 u : Nat} {D : List UInt8} (h : DecInv u0 u D) (hc : u ≠ 0 ∨ D = []) : DecInv u0 (u / 10) (UInt8.ofNat (48 + u % 10) :: D) := by
  rcases h with ⟨_, h⟩ | ⟨h1, h2, _⟩
  · by_cases hu : u < 10
    · right
      refine ⟨by omega, by simp, ?_⟩
      rw [h, decDigits, dif_pos hu, show u % 10 = u by omega]; rfl
    · left
      refine ⟨Or.inl (by omega), ?_⟩
      rw [h, decDigits, dif_neg hu, List.append_assoc]; rfl
  · rcases hc with hc | hc
    · exact absurd h1 hc
    · exact absurd hc h2
theorem DecInv.done {u0 : Nat} {D : List UInt8} (h : DecInv u0 0 D) (hD : D ≠ []) : decDigits u0 = D := by
  rcases h with ⟨h1 | h1, _⟩ | ⟨_, _, h⟩
  · exact absurd rfl h1
  · exact absurd h1 hD
  · exact h
theorem DecInv.len {u0 u : Nat} {D : List UInt8} (h : DecInv u0 u D) (hu : u0 < W64) : D.length ≤ 20 := by
  have hl := dec_len (u := u0) (k := 20) (by omega) (Nat.lt_of_lt_of_le hu (by decide))
  rcases h with ⟨_, h⟩ | ⟨_, _, h⟩
  · rw [h, List.length_append] at hl; omega
  · rw [h] at hl; exact hl
theorem digit_nat (k : Nat) : ((UInt8.ofNat (48 + k % 10)).toNat : Int) = 48 + (k : Int) % 10 := by
  rw [UInt8.toNat_ofNat']; omega
end Go.Proofs.YtdkmmnehlmaebaaGreatDoor


/- The walk of the document's small numbers. No condition. -/
namespace Go.Proofs.YtdkmmnehlmaebaaGreatDoor
open Go.RowKit Go.FT Go.FX Go.Lib

/-- What digits are worth. -/
def dv (l : List UInt8) : Nat := l.foldl (fun a d => a * 10 + (d.toNat - 48)) 0
theorem dv_snoc (l : List UInt8) (d : UInt8) : dv (l ++ [d]) = dv l * 10 + (d.toNat - 48) := by unfold dv; rw [List.foldl_append]; rfl
theorem dv_dec (u : Nat) : dv (decDigits u) = u := by
  induction u using Nat.strongRecOn with
  | _ u ih =>
    rw [decDigits]
    split
    · show 0 * 10 + ((UInt8.ofNat (48 + u)).toNat - 48) = u
      rw [UInt8.toNat_ofNat']; omega
    · rw [dv_snoc, ih (u / 10) (by omega), UInt8.toNat_ofNat']; omega
/-- The sign, and what stands behind it. -/
def sgn (l : List UInt8) : Bool := l.head? == some 45
def mgn (l : List UInt8) : List UInt8 := if sgn l then l.drop 1 else l
def so (l : List UInt8) : Nat := if sgn l then 1 else 0
/-- How far 'small' is: the digits so far are digits, and worth n. -/
def SmI (l : List UInt8) (i n : Nat) : Prop := n = dv ((mgn l).take (i - so l)) ∧ n < 10 ^ (i - so l) ∧ ∀ d ∈ (mgn l).take (i - so l), isD d
theorem SmI.start (l : List UInt8) : SmI l 0 0 := by
  unfold SmI; rw [Nat.zero_sub]; simp [dv]
theorem so_le (l : List UInt8) : so l ≤ 1 := by unfold so; split <;> omega
theorem SmI.skip {l : List UInt8} {n : Nat} (h : SmI l 0 n) (hs : sgn l = true) : SmI l 1 n := by
  have e : so l = 1 := by unfold so; rw [hs, if_pos rfl]
  unfold SmI at h ⊢
  rw [e] at h ⊢
  exact h
theorem mgn_get {l : List UInt8} {i : Nat} (hi : i < l.length) (hc : so l ≤ i) : (mgn l)[i - so l]? = some l[i] := by
  unfold mgn so at *
  cases h : sgn l
  · rw [h, if_neg Bool.false_ne_true, if_neg Bool.false_ne_true] at *
    rw [Nat.sub_zero, List.getElem?_eq_getElem hi]
  · rw [h, if_pos rfl] at hc
    rw [if_pos rfl, if_pos rfl, List.getElem?_drop, show 1 + (i - 1) = i by omega, List.getElem?_eq_getElem hi]
theorem SmI.step {l : List UInt8} {i n : Nat} (h : SmI l i n) (hi : i < l.length) (hc : so l ≤ i) (hd : isD l[i]) : SmI l (i + 1) (n * 10 + (l[i].toNat - 48)) := by
  obtain ⟨h1, h2, h3⟩ := h
  have hg := mgn_get hi hc
  have hlt : i - so l < (mgn l).length := (List.getElem?_eq_some_iff.1 hg).1
  have hge : (mgn l)[i - so l] = l[i] := (List.getElem?_eq_some_iff.1 hg).2
  have ht : (mgn l).take (i + 1 - so l) = (mgn l).take (i - so l) ++ [l[i]] := by
    rw [show i + 1 - so l = (i - so l) + 1 by omega, List.take_succ_eq_append_getElem hlt, hge]
  unfold isD at hd
  refine ⟨by rw [ht, dv_snoc, ← h1], ?_, ?_⟩
  · rw [show i + 1 - so l = (i - so l) + 1 by omega, Nat.pow_succ]; omega
  · rw [ht]
    intro d hm
    rcases List.mem_append.1 hm with hm | hm
    · exact h3 d hm
    · rw [List.mem_singleton.1 hm]; exact hd
/-- Of a whole number's text. -/
theorem itoa_parts {v : Int} {l : List UInt8} (h : l = itoa v) : sgn l = decide (v < 0) ∧ mgn l = decDigits v.natAbs ∧ (∀ (i : Nat) (hi : i < l.length), so l ≤ i → isD l[i]) := by
  subst h
  have hs : sgn (itoa v) = decide (v < 0) ∧ mgn (itoa v) = decDigits v.natAbs := by
    unfold mgn
    by_cases h0 : v < 0
    · have e : itoa v = 45 :: decDigits v.natAbs := by unfold itoa; rw [if_pos h0]
      have e2 : sgn (itoa v) = true := by rw [e]; rfl
      rw [e2, if_pos rfl, decide_eq_true h0]
      exact ⟨rfl, by rw [e]; rfl⟩
    · have e : itoa v = decDigits v.natAbs := by unfold itoa; rw [if_neg h0]; congr 1; omega
      obtain ⟨c, r, hc, hd⟩ := dec_cons v.natAbs
      have e2 : sgn (itoa v) = false := by
        rw [e, hc]
        unfold sgn
        simp only [List.head?_cons, beq_eq_false_iff_ne, ne_eq, Option.some.injEq]
        intro h1; subst h1; unfold isD at hd
        rw [show (45 : UInt8).toNat = 45 from rfl] at hd; omega
      rw [e2, if_neg Bool.false_ne_true, decide_eq_false h0]
      exact ⟨rfl, e⟩
  refine ⟨hs.1, hs.2, fun i hi hc => ?_⟩
  have hg := mgn_get hi hc
  rw [hs.2] at hg
  exact dec_isD _ _ (List.mem_of_getElem? hg)
theorem mgn_len (l : List UInt8) : (mgn l).length = l.length - so l := by
  unfold mgn so; split <;> simp
theorem SmI.done {l : List UInt8} {n : Nat} (h : SmI l l.length n) {v : Int} (hv : l = itoa v) : (if sgn l then -(n : Int) else n) = v := by
  obtain ⟨h1, _, _⟩ := h
  obtain ⟨a, b, _⟩ := itoa_parts hv
  rw [List.take_of_length_le (by rw [mgn_len]; omega), b, dv_dec] at h1
  rw [a, h1]
  by_cases g : v < 0
  · rw [decide_eq_true g, if_pos rfl]; omega
  · rw [decide_eq_false g, if_neg Bool.false_ne_true]; omega
/-- What 'small' gives. -/
def SmR (S : ByteArray) (most : Nat) (w w' : World) (e : Ending) : Prop := ∃ (n : Int) (ok : Bool), e = .returned (.tuple #[.int .i64 n, .bool ok]) ∧ Sm S.data.toList most n ok ∧ -1000000000000000000 ≤ n ∧ n ≤ 1000000000000000000 ∧ Below w.heap.size w w'
theorem sm_long {l : List UInt8} {most : Nat} (hm : 0 < most) (h : most + 1 < l.length) (n : Int) (ok : Bool) : Sm l most n ok := by
  intro v h1 h2 hv
  exfalso
  have hp : ((10 : Int) ^ most) = ((10 ^ most : Nat) : Int) := by simp
  rw [hp] at h1 h2
  have hd := dec_len (u := v.natAbs) hm (by omega)
  rw [hv] at h
  unfold itoa at h
  split at h
  · rw [List.length_cons] at h; omega
  · rw [show v.toNat = v.natAbs by omega] at h; omega
theorem sm_bad {l : List UInt8} {most : Nat} {i : Nat} (hi : i < l.length) (hc : so l ≤ i) (hd : ¬ isD l[i]) (n : Int) (ok : Bool) : Sm l most n ok := by
  intro v _ _ hv
  exact absurd ((itoa_parts hv).2.2 i hi hc) hd
theorem sm_end {l : List UInt8} {n most : Nat} (h : SmI l l.length n) {z : Int} (hz : (if sgn l then -(n : Int) else n) = z) {ok : Bool} (hok : ok = decide (itoa z = l)) : Sm l most z ok := by
  intro v _ _ hv
  have := h.done hv
  rw [hz] at this
  refine ⟨this, ?_⟩
  rw [hok, this, hv]; simp
end Go.Proofs.YtdkmmnehlmaebaaGreatDoor


/- The walk of the document's small numbers. No condition. -/
namespace Go.Proofs.YtdkmmnehlmaebaaGreatDoor
open Go.RowKit Go.FT Go.FX Go.Lib

theorem sgn_at {S : ByteArray} (h : 0 < S.size) : (((S[0]).toNat : Int) == 45) = sgn S.data.toList := by
  have h' : 0 < S.data.toList.length := by rw [← size_eq]; exact h
  have e : S.data.toList.head? = some S[0] := by
    rw [List.head?_eq_getElem?, List.getElem?_eq_getElem h']; rfl
  unfold sgn
  rw [e, Bool.eq_iff_iff, beq_iff_eq, beq_iff_eq]
  constructor
  · intro h1; congr 1; apply UInt8.toNat_inj.1; show S[0].toNat = 45; omega
  · intro h1; injection h1 with h1; rw [h1]; rfl
theorem sgn_nil {S : ByteArray} (h : S.size = 0) : sgn S.data.toList = false := by
  rw [size_eq] at h
  rw [List.eq_nil_of_length_eq_zero h]; rfl
theorem text_eq {S S2 : ByteArray} {l : List UInt8} (h : S2.data.toList = l) : (S2.toList == S.toList) = decide (l = S.data.toList) := by
  rw [ByteArray.toList_eq, ByteArray.toList_eq, h, Bool.eq_iff_iff, beq_iff_eq, decide_eq_true_iff]
end Go.Proofs.YtdkmmnehlmaebaaGreatDoor


/- The texts of doubles: the document's. No condition. -/
namespace Go.Proofs.YtdkmmnehlmaebaaGreatDoor
open Go.RowKit Go.FT Go.FX Go.Lib

theorem T_fin {x : Nat} (h : isN x = false) : T x = (if ng x then [45] else []) ++ body (x % SGN) := by unfold T; rw [h, if_neg Bool.false_ne_true]
/-- How far the document's halving is. -/
def HalfI (M : Nat) (z0 : Int) (k : Nat) (z : Int) : Prop := od k = od M ∧ z + FX.tz k = z0 + FX.tz M
theorem HalfI.step {M k : Nat} {z0 z : Int} (h : HalfI M z0 k z) (h0 : 0 < k) (hk : k < 2 * B) (he : k % 2 = 0) : HalfI M z0 (k / 2) (z + 1) := by
  obtain ⟨a, b⟩ := tz_half h0 (by unfold B at hk; omega) he
  unfold HalfI at *
  rw [← b, ← h.1]
  exact ⟨rfl, by omega⟩
theorem HalfI.done {M k : Nat} {z0 z : Int} (h : HalfI M z0 k z) (hk : k < 2 * B) (he : k % 2 = 1) : k = od M ∧ z = z0 + FX.tz M := by
  obtain ⟨a, b⟩ := tz_odd (m := k) (by unfold B at hk; omega) he
  unfold HalfI at h
  rw [b, a] at h
  exact ⟨h.1, by omega⟩
end Go.Proofs.YtdkmmnehlmaebaaGreatDoor


/- The walk of math.Ldexp at whole numbers. No condition. -/
namespace Go.Proofs.YtdkmmnehlmaebaaGreatDoor
open Go.RowKit Go.FT Go.FX Go.Lib

theorem normalize_any (x : Nat) (w : World) (h1 : B ≤ x) (h2 : x < INF) : Calls Tryz.prog 137 #[.float .f64 x] w fun e w' => e = .returned (.tuple #[.float .f64 x, .int .i64 0]) ∧ w = w' := by
  have hx : x < W64 := Nat.lt_trans h2 (by decide)
  have ho : (FloatKind.f64.format.order x 4503599627370496 == some .lt) = false := by
    show (D.order x B == some .lt) = false
    rw [order_fin (by omega) (by decide), cmp_nat, if_neg (by omega)]
    split <;> rfl
  have hm : x % SGN = x := Nat.mod_eq_of_lt (Nat.lt_trans h2 (by decide))
  have HM := Lib.hid hm
  clear hm
  go_enter Tryz.func137, Tryz.ntmps137
  go_wp2_with (go_at_call 110; refine (abs_any _ _ hx).mono ?_; rw [HM.out]; rintro e w' ⟨rfl, rfl⟩)
  go_ret2
  exact ⟨rfl, rfl⟩
theorem andNot_exp {x : Nat} (hx : x < SGN) : bits .andNot .u64 (x : Int) 9218868437227405312 = ((x % B : Nat) : Int) := by
  have hw : x < W64 := Nat.lt_trans hx (by decide)
  have h := u64_andNot_nat x 9218868437227405312 hw (by omega)
  have hg : ng x = false := decide_eq_false (by omega)
  have h2 := and_sgn_nat hw
  rw [hg, if_neg Bool.false_ne_true] at h2
  rw [show 18446744073709551615 - 9218868437227405312 = SGN ||| 4503599627370495 by decide, Nat.and_or_distrib_left, h2, Nat.zero_or] at h
  rw [show x &&& 4503599627370495 = x % 2 ^ 52 from Nat.and_two_pow_sub_one_eq_mod _ 52] at h
  exact h
theorem or_exp {f q : Nat} (hf : f < B) (hq : q < 2048) : bits .or .u64 (f : Int) ((q : Int) * 4503599627370496) = ((q * B + f : Nat) : Int) := by
  have h := u64_or_nat f (q * 4503599627370496) (by unfold B at hf; omega) (by omega)
  have h2 := Nat.two_pow_add_eq_or_of_lt (i := 52) (b := f) (by unfold B at hf; exact hf) q
  rw [show (2 : Nat) ^ 52 * q = q * 4503599627370496 by rw [Nat.mul_comm]] at h2
  rw [Nat.or_comm, ← h2] at h
  rw [show ((q : Int) * 4503599627370496) = ((q * 4503599627370496 : Nat) : Int) by omega, h]
theorem exp_i64 {x : Nat} (hx : x < SGN) : bits .and .i64 ((x : Int) / 4503599627370496) 2047 = ((x / B : Nat) : Int) := by
  have h := bits_mask .i64 63 (by decide) (fun n h0 h1 => by rw [IntKind.wrap_i64]; omega) 11 (by decide) ((x : Int) / 4503599627370496) (by omega) (by unfold SGN at hx; omega)
  rw [show (2 : Int) ^ 11 - 1 = 2047 by decide] at h
  rw [h]
  unfold SGN at hx; unfold B; omega
theorem gt0_order {x : Nat} (h0 : 0 < x) (h : x ≤ INF) : (FloatKind.f64.format.order x 0 == some .eq) = false ∧ (FloatKind.f64.format.order x 0 == some .lt) = false := by
  show (D.order x 0 == some .eq) = false ∧ (D.order x 0 == some .lt) = false
  rw [order_fin h (by decide), cmp_nat, if_neg (by omega), if_neg (by omega)]
  exact ⟨rfl, rfl⟩
theorem copy0 (x : Nat) (w : World) (hx : x < SGN) : Calls Tryz.prog 138 #[.float .f64 0, .float .f64 x] w fun e w' => e = .returned (.float .f64 0) ∧ w = w' := by
  have hg : ng x = false := decide_eq_false (by omega)
  have h2 : bits .and .u64 (x : Int) 9223372036854775808 = 0 := by
    have h := w_and (Nat.lt_trans hx (by decide) : x < W64) (show SGN < W64 by decide)
    rw [and_sgn_nat (Nat.lt_trans hx (by decide)), hg] at h
    exact h
  have h3 : bits .andNot .u64 0 9223372036854775808 = 0 := by decide +kernel
  have h4 : bits .or .u64 0 0 = 0 := by decide +kernel
  go_enter Tryz.func138, Tryz.ntmps138
  go_wp2
  go_ret
  exact ⟨rfl, rfl⟩
theorem mul_any {x y : Nat} (h1 : x < INF) (h2 : y < INF) (w : World) : (binOp .mul 25 (.float .f64 x) (.float .f64 y)).run Tryz.prog w = .ok (.float .f64 (mulR x y)) w :=
  run_float_arith w .mul 25 .f64 _ _ _ (mul_fin h1 h2)
set_option maxRecDepth 100000 in
set_option maxHeartbeats 2000000 in
theorem ldexp_pos (n : Nat) (h1 : 1 ≤ n) (h2 : n < 2 * B) (k : Int) (hk0 : -9223372036854775808 ≤ k) (hk1 : k ≤ 9223372036854775807) (w : World) :
    Calls Tryz.prog 120 #[.float .f64 (F n), .int .i64 k] w fun e w' => ∃ y, e = .returned (.float .f64 y) ∧ y ≤ INF ∧ (∀ r, Is n k r → y = r) ∧ w = w' := by
  obtain ⟨g1, g2⟩ := F_ge h1 h2
  have hp := F_parts h1 h2
  have HU := Lib.hid (fun r (h : Is n k r) => ld_under h h1 h2)
  have HO := Lib.hid (fun r (h : Is n k r) => ld_over h h1 h2)
  have HMI := Lib.hid (fun r (h : Is n k r) t ht => ld_mid h h1 h2 t ht)
  have HLO := Lib.hid (fun r (h : Is n k r) s hs => ld_low h h1 h2 s hs)
  have HK := Lib.hid (fun r (h : Is n k r) => h.k_le h1 h2)
  have hI : F n < INF := F_lt h2
  generalize F n = X at *
  have hX : X < SGN := Nat.lt_trans hI (by decide)
  have hXw : X < W64 := Nat.lt_trans hI (by decide)
  have hn0 : isN X = false := by unfold isN; rw [Nat.mod_eq_of_lt hX]; exact decide_eq_false (by omega)
  have hi0 : isI X = false := by unfold isI; rw [Nat.mod_eq_of_lt hX]; exact decide_eq_false (by omega)
  have HN := Lib.hid hn0
  have HII := Lib.hid hi0
  obtain ⟨o1, o2⟩ := gt0_order (x := X) (by unfold ONE at g1; omega) (by omega)
  have hE := exp_i64 hX
  have hBX : B ≤ X := Nat.le_trans (by decide) g1
  have hA := andNot_exp hX
  have he1 : 1023 ≤ X / B := hp.1
  have he2 : X / B ≤ 1075 := hp.2.1
  have hf : X % B < B := Nat.mod_lt _ (by decide)
  have hE' : bits .and .i64 (wrap64 ((X : Int) / 4503599627370496)) 2047 = ((X / B : Nat) : Int) := by
    rw [show wrap64 ((X : Int) / 4503599627370496) = (X : Int) / 4503599627370496 by unfold wrap64; unfold SGN at hX; omega]; exact hE
  clear hn0 hi0 hp h1 h2 g1 g2 hE
  generalize X / B = E at *
  generalize X % B = f at *
  obtain ⟨e1, he⟩ : ∃ e1, wrap64 (k + ((E : Int) - 1023)) = e1 := ⟨_, rfl⟩
  have HE : Hid (k ≤ 1023 → -1074 ≤ k → e1 = k + (E : Int) - 1023) := Lib.hid (fun a b => by rw [← he]; unfold wrap64; omega)
  have hb1 : -9223372036854775808 ≤ e1 := by rw [← he]; unfold wrap64; omega
  have hb2 : e1 ≤ 9223372036854775807 := by rw [← he]; unfold wrap64; omega
  by_cases c1 : e1 < -1075
  · have HR : Hid (∀ r, Is n k r → 0 = r) := Lib.hid (fun r h => by
      have a := HU.out r h; have b := HK.out r h; have c := HE.out b h.1; omega)
    go_enter Tryz.func120, Tryz.ntmps120
    go_wp2_with (first | (go_at_call 88; refine (isInf_any _ _ hXw).mono ?_; rw [HII.out]; rintro e w' ⟨rfl, rfl⟩) | (go_at_call 121; refine (isNaN_any _ _ hXw).mono ?_; rw [HN.out]; rintro e w' ⟨rfl, rfl⟩) | (go_at_call 137; refine (normalize_any _ _ hBX hI).mono ?_; rintro e w' ⟨rfl, rfl⟩) | (go_at_call 138; refine (copy0 _ _ hX).mono ?_; rintro e w' ⟨rfl, rfl⟩) | (go_at_call 65; refine (inf_any _).mono ?_; rintro e w' ⟨rfl, rfl⟩))
    go_ret
    exact ⟨0, rfl, by decide, HR.out, rfl⟩
  · by_cases c2 : 1023 < e1
    · have HR : Hid (∀ r, Is n k r → INF = r) := Lib.hid (fun r h => by
        have a := HO.out r h; have b := HK.out r h; have c := HE.out b h.1; omega)
      go_enter Tryz.func120, Tryz.ntmps120
      go_wp2_with (first | (go_at_call 88; refine (isInf_any _ _ hXw).mono ?_; rw [HII.out]; rintro e w' ⟨rfl, rfl⟩) | (go_at_call 121; refine (isNaN_any _ _ hXw).mono ?_; rw [HN.out]; rintro e w' ⟨rfl, rfl⟩) | (go_at_call 137; refine (normalize_any _ _ hBX hI).mono ?_; rintro e w' ⟨rfl, rfl⟩) | (go_at_call 138; refine (copy0 _ _ hX).mono ?_; rintro e w' ⟨rfl, rfl⟩) | (go_at_call 65; refine (inf_any _).mono ?_; rintro e w' ⟨rfl, rfl⟩))
      go_ret
      exact ⟨INF, rfl, Nat.le_refl _, HR.out, rfl⟩
    · by_cases c3 : e1 < -1022
      · obtain ⟨s, hs⟩ : ∃ s : Nat, e1 + 1075 = s := ⟨(e1 + 1075).toNat, by omega⟩
        have HR : Hid (∀ r, Is n k r → mulR (970 * B) ((s + 1) * B + f) = r) := Lib.hid (fun r h => by
          have b := HK.out r h; have c := HE.out b h.1
          exact HLO.out r h s (by omega))
        have hq : bits .or .u64 (f : Int) ((e1 + 53 + 1023) * 4503599627370496) = (((s + 1) * B + f : Nat) : Int) := by
          rw [show e1 + 53 + 1023 = ((s + 1 : Nat) : Int) by omega]; exact or_exp hf (by omega)
        have hy : (s + 1) * B + f < INF := by unfold B INF at *; omega
        have em := mul_any (x := 4368491638549381120) (y := (s + 1) * B + f) (by decide) hy w
        generalize (s + 1) * B + f = y at *
        go_enter Tryz.func120, Tryz.ntmps120
        go_wp2_with (first | (go_at_call 88; refine (isInf_any _ _ hXw).mono ?_; rw [HII.out]; rintro e w' ⟨rfl, rfl⟩) | (go_at_call 121; refine (isNaN_any _ _ hXw).mono ?_; rw [HN.out]; rintro e w' ⟨rfl, rfl⟩) | (go_at_call 137; refine (normalize_any _ _ hBX hI).mono ?_; rintro e w' ⟨rfl, rfl⟩) | (go_at_call 138; refine (copy0 _ _ hX).mono ?_; rintro e w' ⟨rfl, rfl⟩) | (go_at_call 65; refine (inf_any _).mono ?_; rintro e w' ⟨rfl, rfl⟩))
        go_ret
        exact ⟨_, rfl, nearest_le_inf _ _, HR.out, rfl⟩
      · obtain ⟨t, ht⟩ : ∃ t : Nat, e1 + 1022 = t := ⟨(e1 + 1022).toNat, by omega⟩
        have hy : (t + 1) * B + f < INF := by unfold B INF at *; omega
        have HR : Hid (∀ r, Is n k r → mulR ONE ((t + 1) * B + f) = r) := Lib.hid (fun r h => by
          have b := HK.out r h; have c := HE.out b h.1
          rw [mulR_comm, mulR_one hy]
          exact HMI.out r h t (by omega))
        have hq : bits .or .u64 (f : Int) ((e1 + 1023) * 4503599627370496) = (((t + 1) * B + f : Nat) : Int) := by
          rw [show e1 + 1023 = ((t + 1 : Nat) : Int) by omega]; exact or_exp hf (by omega)
        have em := mul_any (x := 4607182418800017408) (y := (t + 1) * B + f) (by decide) hy w
        generalize (t + 1) * B + f = y at *
        go_enter Tryz.func120, Tryz.ntmps120
        go_wp2_with (first | (go_at_call 88; refine (isInf_any _ _ hXw).mono ?_; rw [HII.out]; rintro e w' ⟨rfl, rfl⟩) | (go_at_call 121; refine (isNaN_any _ _ hXw).mono ?_; rw [HN.out]; rintro e w' ⟨rfl, rfl⟩) | (go_at_call 137; refine (normalize_any _ _ hBX hI).mono ?_; rintro e w' ⟨rfl, rfl⟩) | (go_at_call 138; refine (copy0 _ _ hX).mono ?_; rintro e w' ⟨rfl, rfl⟩) | (go_at_call 65; refine (inf_any _).mono ?_; rintro e w' ⟨rfl, rfl⟩))
        go_ret
        exact ⟨_, rfl, nearest_le_inf _ _, HR.out, rfl⟩
theorem ldexp_zero (k : Int) (w : World) :
    Calls Tryz.prog 120 #[.float .f64 (F 0), .int .i64 k] w fun e w' => ∃ y, e = .returned (.float .f64 y) ∧ y ≤ INF ∧ (∀ r, Is 0 k r → y = r) ∧ w = w' := by
  have ho : (FloatKind.f64.format.order 0 0 == some .eq) = true := by decide
  rw [F_zero]
  go_enter Tryz.func120, Tryz.ntmps120
  go_wp2
  go_ret
  exact ⟨0, rfl, by decide, fun r h => h.zero.symm, rfl⟩
theorem ldexp_any (n : Nat) (h2 : n < 2 * B) (k : Int) (hk0 : -9223372036854775808 ≤ k) (hk1 : k ≤ 9223372036854775807) (w : World) :
    Calls Tryz.prog 96 #[.float .f64 (F n), .int .i64 k] w fun e w' => ∃ y, e = .returned (.float .f64 y) ∧ y ≤ INF ∧ (∀ r, Is n k r → y = r) ∧ w = w' := by
  have h : Calls Tryz.prog 120 #[.float .f64 (F n), .int .i64 k] w fun e w' => ∃ y, e = .returned (.float .f64 y) ∧ y ≤ INF ∧ (∀ r, Is n k r → y = r) ∧ w = w' := by
    by_cases h1 : n = 0
    · subst h1; exact ldexp_zero k w
    · exact ldexp_pos n (by omega) h2 k hk0 hk1 w
  go_enter Tryz.func96, Tryz.ntmps96
  go_wp2_with (go_at_call 120; refine h.mono ?_; rintro e w' ⟨y, rfl, h1, h2, rfl⟩)
  go_ret
  exact ⟨y, rfl, h1, h2, rfl⟩
end Go.Proofs.YtdkmmnehlmaebaaGreatDoor


/- The walk of reading a double: what is called. Conditions: the library's tables are laid. -/
namespace Go.Proofs.YtdkmmnehlmaebaaGreatDoor
open Go.RowKit Go.FT Go.FX Go.Lib

theorem xor_sgn {x : Nat} (hx : x < SGN) : x ^^^ 9223372036854775808 = sg true x := by
  have h1 : SGN + x = SGN ||| x := by
    have := Nat.two_pow_add_eq_or_of_lt (i := 63) (b := x) (by rw [show (2 : Nat) ^ 63 = SGN by decide]; exact hx) 1
    rw [show (2 : Nat) ^ 63 * 1 = SGN by decide] at this
    exact this
  unfold sg
  rw [if_pos rfl, h1]
  apply Nat.eq_of_testBit_eq
  intro i
  rw [Nat.testBit_xor, Nat.testBit_or, show (9223372036854775808 : Nat) = 2 ^ 63 by decide, show SGN = 2 ^ 63 by decide, Nat.testBit_two_pow]
  by_cases g : 63 = i
  · subst g
    rw [top_bit (Nat.lt_trans hx (by decide)), show ng x = false from decide_eq_false (by omega)]; rfl
  · rw [decide_eq_false g]; simp
theorem sg_lt {n : Bool} {x : Nat} (hx : x < SGN) : sg n x < W64 := by
  unfold sg; split
  · unfold SGN at *; unfold W64; omega
  · exact Nat.lt_trans hx (by decide)
/-- A double's text, as it comes back. -/
def TR (w w' : World) (e : Ending) (l : List UInt8) : Prop := ∃ S : ByteArray, e = .returned (.string S) ∧ Hid (S.data.toList = l) ∧ Below w.heap.size w w'
theorem text_tr (x : Nat) (hx : x < W64) (w : World) (hl : Lay w) : Calls Tryz.prog 61 #[.float .f64 x] w fun e w' => TR w w' e (T x) :=
  (text_any x hx w hl).mono fun _ _ ⟨h, hb⟩ => ⟨⟨(T x).toArray⟩, h, Lib.hid (by simp), hb⟩
theorem cutp_any (S : ByteArray) (w : World) : Calls Tryz.prog 92 #[.string S, .string ⟨#[45]⟩] w fun e w' => ∃ RS : ByteArray, e = .returned (.tuple #[.string RS, .bool (neg S.data.toList)]) ∧ Hid (RS.data.toList = rest S.data.toList) ∧ w = w' :=
  (Tryz.strings_CutPrefix S ⟨#[45]⟩ w).mono fun _ _ ⟨h, hw⟩ => ⟨_, h, Lib.hid (by simp [rest]), hw.symm⟩
theorem trim_len (l : List UInt8) : (rest l).length ≤ l.length := by
  unfold rest trimPrefix; split <;> simp
theorem cutb_any (S : ByteArray) (hs : S.size < 4294967281) {a c : List UInt8} {ok : Bool} (hc : cut S.data.toList [98] = (a, c, ok)) (w : World) (hl : Lay w) :
    Calls Tryz.prog 93 #[.string S, .string ⟨#[98]⟩] w fun e w' => ∃ (SA SC : ByteArray) (n : Nat), e = .returned (.tuple #[.string SA, .string SC, .bool ok]) ∧ Hid (SA.data.toList = a) ∧ Hid (SC.data.toList = c) ∧ w' = w.drewN n := by
  obtain ⟨m, hm⟩ := hl.big
  refine (Tryz.strings_Cut S ⟨#[98]⟩ m w hs hm).mono fun e w' ⟨h, n, hw⟩ => ?_
  rw [show (⟨#[98]⟩ : ByteArray).data.toList = [98] from rfl, hc] at h
  exact ⟨_, _, n, h, Lib.hid (by simp), Lib.hid (by simp), hw⟩
theorem cut_len {s a c : List UInt8} {ok : Bool} (h : cut s [98] = (a, c, ok)) : a.length ≤ s.length ∧ c.length ≤ s.length := by
  unfold cut at h
  split at h
  · injection h with h1 h2; injection h2 with h2 h3
    subst h1 h2
    simp
    omega
  · injection h with h1 h2; injection h2 with h2 h3
    subst h1 h2
    simp
theorem below_bytes {w w' : World} {t : TypeId} {s : ByteArray} (h : w' = w ∨ w' = Lib.bytesWorld w t s) : Below w.heap.size w w' := by
  rcases h with rfl | rfl
  · exact Below.refl _ _
  · exact Lib.bytesWorld_below _ _ _
theorem pu_ok (s : ByteArray) (hs : s.size ≤ 4294967281) {l : List UInt8} (hl : s.data.toList = l) {u : Nat} (h : parseUintB 64 l = .ok u) (w : World) :
    Calls Tryz.prog 95 #[.string s, .int .i64 10, .int .i64 64] w fun e w' => e = .returned (.tuple #[.int .u64 u, .nilIface]) ∧ Below w.heap.size w w' := by
  subst hl
  exact (Tryz.strconv_ParseUint_10_at64_ok s (by omega) u h w).mono fun e w' ⟨h1, h2⟩ => ⟨h1, below_bytes h2⟩
theorem pu_err (s : ByteArray) (hs : s.size ≤ 4294967281) {l : List UInt8} (hl : s.data.toList = l) (h : ∀ n, parseUintB 64 l ≠ .ok n) (w : World) (hw : Lay w) :
    Calls Tryz.prog 95 #[.string s, .int .i64 10, .int .i64 64] w fun e w' => ∃ (u : Int) (N : Nat), e = .returned (.tuple #[.int .u64 u, .iface 129 (.pointer (some ⟨N, 0, none⟩))]) ∧ Below w.heap.size w w' := by
  subst hl
  rcases hp : parseUintB 64 s.data.toList with n | _ | _
  · exact absurd hp (h n)
  · obtain ⟨tp, p, hv⟩ := hw.syn
    exact (Any.strconv_ParseUint_10_at64_syntax_var Tryz.laysPu14 s (by omega) hp tp p w hv).mono fun e w' ⟨N, h1, _, _, h2⟩ => ⟨_, N, h1, h2⟩
  · obtain ⟨tp, p, hv⟩ := hw.ran
    exact (Tryz.strconv_ParseUint_10_at64_range_var s (by omega) hp tp p w hv).mono fun e w' ⟨N, h1, _, _, h2⟩ => ⟨_, N, h1, h2⟩
theorem at_ok (s : ByteArray) (hs : s.size ≤ 4294967281) {l : List UInt8} (hl : s.data.toList = l) {v : Int} (h : atoiAll l = .ok v) (w : World) :
    Calls Tryz.prog 63 #[.string s] w fun e w' => e = .returned (.tuple #[.int .i64 v, .nilIface]) ∧ Below w.heap.size w w' := by
  subst hl
  exact (Tryz.strconv_Atoi_ok s (by omega) v h w).mono fun e w' ⟨h1, h2⟩ => ⟨h1, by
    rcases h2 with h2 | ⟨t, h2⟩
    · exact below_bytes (t := 5) (s := s) (Or.inl h2)
    · exact below_bytes (Or.inr h2)⟩
theorem at_err (s : ByteArray) (hs : s.size ≤ 4294967281) {l : List UInt8} (hl : s.data.toList = l) (h : ∀ n, atoiAll l ≠ .ok n) (w : World) (hw : Lay w) :
    Calls Tryz.prog 63 #[.string s] w fun e w' => ∃ (u : Int) (N : Nat), e = .returned (.tuple #[.int .i64 u, .iface 129 (.pointer (some ⟨N, 0, none⟩))]) ∧ Below w.heap.size w w' := by
  subst hl
  rcases hp : atoiAll s.data.toList with n | _ | _
  · exact absurd hp (h n)
  · obtain ⟨tp, p, hv⟩ := hw.syn
    exact (Any.strconv_Atoi_syntax_var Tryz.laysC172 s (by omega) hp tp p w hv).mono fun e w' ⟨N, h1, _, _, h2⟩ => ⟨_, N, h1, h2⟩
  · obtain ⟨tp, p, hv⟩ := hw.ran
    exact (Tryz.strconv_Atoi_range_var s (by omega) hp tp p w hv).mono fun e w' ⟨N, h1, _, _, h2⟩ => ⟨_, N, h1, h2⟩
theorem of_i {z : Int} (x : Nat) (hz : z = (x : Nat)) (w : World) (hx : x < W64) : Calls Tryz.prog 94 #[.int .u64 z] w fun e w' => e = .returned (.float .f64 (can x)) ∧ w = w' := by
  subst hz; exact of_any x w hx
end Go.Proofs.YtdkmmnehlmaebaaGreatDoor


/- The walk of reading a double. Conditions: the library's tables are laid. -/
namespace Go.Proofs.YtdkmmnehlmaebaaGreatDoor
open Go.RowKit Go.FT Go.FX Go.Lib

theorem eqs {S : ByteArray} {l t : List UInt8} (h : S.data.toList = l) {b : Bool} (hb : decide (l = t) = b) : (S.toList == t) = b := by
  rw [ByteArray.toList_eq, h, ← hb, Bool.eq_iff_iff, beq_iff_eq, decide_eq_true_iff]
theorem eqs2 {S S2 : ByteArray} {l : List UInt8} (h : S2.data.toList = l) {b : Bool} (hb : decide (l = S.data.toList) = b) : (S2.toList == S.toList) = b := by
  rw [text_eq h, hb]
theorem of_nan (w : World) : Calls Tryz.prog 94 #[.int .u64 9221120237041090560] w fun e w' => e = .returned (.float .f64 NAN) ∧ w = w' := by
  have h := of_any 9221120237041090560 w (by decide)
  rw [show can 9221120237041090560 = NAN by decide] at h
  exact h
theorem neg_run {x : Nat} (hx : x < SGN) (w : World) : (Op.unary .neg (.float .f64 x)).run Tryz.prog w = .ok (.float .f64 (sg true x)) w := by
  have h := xor_sgn hx
  simp only [Op.unary, Op.negFloat]
  rw [show 2 ^ (FloatKind.f64.format.exponentBits + FloatKind.f64.format.fractionBits) = 9223372036854775808 by decide, h]
  rfl
theorem of_can (y : Nat) (hy : y < W64) (w : World) : Calls Tryz.prog 94 #[.int .u64 (can y : Nat)] w fun e w' => e = .returned (.float .f64 (can y)) ∧ w = w' := by
  have h := of_any (can y) w (can_lt hy)
  rw [can_can] at h
  exact h
theorem rs_size {S RS : ByteArray} (hS : S.size ≤ 4000000000) (h : RS.data.toList = rest S.data.toList) : RS.size < 4294967281 := by
  rw [size_eq] at hS ⊢
  rw [h]
  have := trim_len S.data.toList
  omega
theorem cut_rs {RS : ByteArray} {l r a c : List UInt8} {k : Bool} (h : RS.data.toList = l) (h2 : l = r) (h3 : cut r [98] = (a, c, k)) : cut RS.data.toList [98] = (a, c, k) := by rw [h, h2, h3]
theorem neqs2 {S S2 : ByteArray} {l : List UInt8} (h : S2.data.toList = l) {b : Bool} (hb : decide (l = S.data.toList) = b) : (S2.toList != S.toList) = !b := by
  rw [← eqs2 h hb]; rfl
def PR (S : ByteArray) (w w' : World) (e : Ending) : Prop := e = .returned (.tuple #[.float .f64 (pv S.data.toList).1, .int .i64 (pv S.data.toList).2]) ∧ Below w.heap.size w w'
theorem pr_of {S : ByteArray} {w w' : World} {v : Nat} {z : Int} (h : pv S.data.toList = (v, z)) (hb : Below w.heap.size w w') : PR S w w' (.returned (.tuple #[.float .f64 v, .int .i64 z])) := by
  unfold PR; rw [h]; exact ⟨rfl, hb⟩
set_option maxRecDepth 100000 in
set_option maxHeartbeats 1000000 in
theorem parseNanNY (S : ByteArray) (hS : S.size ≤ 4000000000) (HR0 : rest S.data.toList = sNan) (hng : neg S.data.toList = true) (hm : decide (T (sg true NAN) = S.data.toList) = true) (w : World) (hl : Lay w) :
    Calls Tryz.prog 64 #[.string S] w fun e w' => PR S w w' e := by
  have HK := Lib.hid (pv_held (y := sg true NAN) (by decide) (key_nan HR0 (y := sg true NAN) (by decide)))
  have HR := Lib.hid HR0
  have HNG := Lib.hid hng
  have HM := Lib.hid hm
  have hyy : sg true NAN < W64 := by decide
  have Q1 : Hid (decide (sNan = ([110, 97, 110] : List UInt8)) = true) := Lib.hid (by decide)
  have Q2 : Hid (decide (sNan = ([105, 110, 102] : List UInt8)) = false) := Lib.hid (by decide)
  obtain ⟨ca, cc, ck, hc⟩ : ∃ a c k, cut sNan [98] = (a, c, k) := ⟨_, _, _, rfl⟩
  have HC := Lib.hid hc
  clear HR0 hng hm hc
  have en := fun w => neg_run (x := NAN) (by decide) w
  go_enter Tryz.func64, Tryz.ntmps64
  go_wp2_with (first
    | (go_at_call 92; (with_reducible refine (cutp_any S _).mono ?_); rw [HNG.out]; rintro e w' ⟨RS, rfl, HRS, rfl⟩; have q1 := eqs (HRS.out.trans HR.out) (t := [110, 97, 110]) Q1.out; have q2 := eqs (HRS.out.trans HR.out) (t := [105, 110, 102]) Q2.out; have hrs := rs_size hS HRS.out; have hcut := Lib.hid (cut_rs HRS.out HR.out HC.out))
    | (go_at_call 93; (with_reducible refine (cutb_any RS hrs hcut.out _ hl).mono ?_); rintro e w' ⟨SA, SC, nq, rfl, HSA, HSC, rfl⟩; have hlw := hl.drewN nq)
    | (go_at_call 94; (with_reducible refine (of_nan _).mono ?_); rintro e w' ⟨rfl, rfl⟩)
    | (go_at_call 61; (with_reducible refine (text_tr (sg true NAN) hyy _ hlw).mono ?_); rintro e w2 ⟨S2, rfl, HS2, hb2⟩; have q3 := eqs2 HS2.out HM.out)
    | (go_at_call 78; (with_reducible refine (bits_any (sg true NAN) _ hyy).mono ?_); rintro e w' ⟨rfl, rfl⟩)
    | (go_at_call 94; (with_reducible refine (of_can (sg true NAN) hyy _).mono ?_); rintro e w' ⟨rfl, rfl⟩))
  go_ret2
  exact pr_of (HK.out.1 (of_decide_eq_true HM.out)) ((below_drewN (Below.refl _ _) _).trans (hb2.mono (Nat.le_refl _)))
set_option maxRecDepth 100000 in
set_option maxHeartbeats 1000000 in
theorem parseNanNQ (S : ByteArray) (hS : S.size ≤ 4000000000) (HR0 : rest S.data.toList = sNan) (hng : neg S.data.toList = true) (hm : decide (T (sg true NAN) = S.data.toList) = false) (w : World) (hl : Lay w) :
    Calls Tryz.prog 64 #[.string S] w fun e w' => PR S w w' e := by
  have HK := Lib.hid (pv_held (y := sg true NAN) (by decide) (key_nan HR0 (y := sg true NAN) (by decide)))
  have HR := Lib.hid HR0
  have HNG := Lib.hid hng
  have HM := Lib.hid hm
  have hyy : sg true NAN < W64 := by decide
  have Q1 : Hid (decide (sNan = ([110, 97, 110] : List UInt8)) = true) := Lib.hid (by decide)
  have Q2 : Hid (decide (sNan = ([105, 110, 102] : List UInt8)) = false) := Lib.hid (by decide)
  obtain ⟨ca, cc, ck, hc⟩ : ∃ a c k, cut sNan [98] = (a, c, k) := ⟨_, _, _, rfl⟩
  have HC := Lib.hid hc
  clear HR0 hng hm hc
  have en := fun w => neg_run (x := NAN) (by decide) w
  go_enter Tryz.func64, Tryz.ntmps64
  go_wp2_with (first
    | (go_at_call 92; (with_reducible refine (cutp_any S _).mono ?_); rw [HNG.out]; rintro e w' ⟨RS, rfl, HRS, rfl⟩; have q1 := eqs (HRS.out.trans HR.out) (t := [110, 97, 110]) Q1.out; have q2 := eqs (HRS.out.trans HR.out) (t := [105, 110, 102]) Q2.out; have hrs := rs_size hS HRS.out; have hcut := Lib.hid (cut_rs HRS.out HR.out HC.out))
    | (go_at_call 93; (with_reducible refine (cutb_any RS hrs hcut.out _ hl).mono ?_); rintro e w' ⟨SA, SC, nq, rfl, HSA, HSC, rfl⟩; have hlw := hl.drewN nq)
    | (go_at_call 94; (with_reducible refine (of_nan _).mono ?_); rintro e w' ⟨rfl, rfl⟩)
    | (go_at_call 61; (with_reducible refine (text_tr (sg true NAN) hyy _ hlw).mono ?_); rintro e w2 ⟨S2, rfl, HS2, hb2⟩; have q3 := eqs2 HS2.out HM.out)
    | (go_at_call 78; (with_reducible refine (bits_any (sg true NAN) _ hyy).mono ?_); rintro e w' ⟨rfl, rfl⟩)
    | (go_at_call 94; (with_reducible refine (of_can (sg true NAN) hyy _).mono ?_); rintro e w' ⟨rfl, rfl⟩))
  go_ret2
  exact pr_of (HK.out.2 (of_decide_eq_false HM.out)) ((below_drewN (Below.refl _ _) _).trans (hb2.mono (Nat.le_refl _)))
set_option maxRecDepth 100000 in
set_option maxHeartbeats 1000000 in
theorem parseNanPY (S : ByteArray) (hS : S.size ≤ 4000000000) (HR0 : rest S.data.toList = sNan) (hng : neg S.data.toList = false) (hm : decide (T (NAN) = S.data.toList) = true) (w : World) (hl : Lay w) :
    Calls Tryz.prog 64 #[.string S] w fun e w' => PR S w w' e := by
  have HK := Lib.hid (pv_held (y := NAN) (by decide) (key_nan HR0 (y := NAN) (by decide)))
  have HR := Lib.hid HR0
  have HNG := Lib.hid hng
  have HM := Lib.hid hm
  have hyy : NAN < W64 := by decide
  have Q1 : Hid (decide (sNan = ([110, 97, 110] : List UInt8)) = true) := Lib.hid (by decide)
  have Q2 : Hid (decide (sNan = ([105, 110, 102] : List UInt8)) = false) := Lib.hid (by decide)
  obtain ⟨ca, cc, ck, hc⟩ : ∃ a c k, cut sNan [98] = (a, c, k) := ⟨_, _, _, rfl⟩
  have HC := Lib.hid hc
  clear HR0 hng hm hc
  have en := fun w => neg_run (x := NAN) (by decide) w
  go_enter Tryz.func64, Tryz.ntmps64
  go_wp2_with (first
    | (go_at_call 92; (with_reducible refine (cutp_any S _).mono ?_); rw [HNG.out]; rintro e w' ⟨RS, rfl, HRS, rfl⟩; have q1 := eqs (HRS.out.trans HR.out) (t := [110, 97, 110]) Q1.out; have q2 := eqs (HRS.out.trans HR.out) (t := [105, 110, 102]) Q2.out; have hrs := rs_size hS HRS.out; have hcut := Lib.hid (cut_rs HRS.out HR.out HC.out))
    | (go_at_call 93; (with_reducible refine (cutb_any RS hrs hcut.out _ hl).mono ?_); rintro e w' ⟨SA, SC, nq, rfl, HSA, HSC, rfl⟩; have hlw := hl.drewN nq)
    | (go_at_call 94; (with_reducible refine (of_nan _).mono ?_); rintro e w' ⟨rfl, rfl⟩)
    | (go_at_call 61; (with_reducible refine (text_tr (NAN) hyy _ hlw).mono ?_); rintro e w2 ⟨S2, rfl, HS2, hb2⟩; have q3 := eqs2 HS2.out HM.out)
    | (go_at_call 78; (with_reducible refine (bits_any (NAN) _ hyy).mono ?_); rintro e w' ⟨rfl, rfl⟩)
    | (go_at_call 94; (with_reducible refine (of_can (NAN) hyy _).mono ?_); rintro e w' ⟨rfl, rfl⟩))
  go_ret2
  exact pr_of (HK.out.1 (of_decide_eq_true HM.out)) ((below_drewN (Below.refl _ _) _).trans (hb2.mono (Nat.le_refl _)))
set_option maxRecDepth 100000 in
set_option maxHeartbeats 1000000 in
theorem parseNanPQ (S : ByteArray) (hS : S.size ≤ 4000000000) (HR0 : rest S.data.toList = sNan) (hng : neg S.data.toList = false) (hm : decide (T (NAN) = S.data.toList) = false) (w : World) (hl : Lay w) :
    Calls Tryz.prog 64 #[.string S] w fun e w' => PR S w w' e := by
  have HK := Lib.hid (pv_held (y := NAN) (by decide) (key_nan HR0 (y := NAN) (by decide)))
  have HR := Lib.hid HR0
  have HNG := Lib.hid hng
  have HM := Lib.hid hm
  have hyy : NAN < W64 := by decide
  have Q1 : Hid (decide (sNan = ([110, 97, 110] : List UInt8)) = true) := Lib.hid (by decide)
  have Q2 : Hid (decide (sNan = ([105, 110, 102] : List UInt8)) = false) := Lib.hid (by decide)
  obtain ⟨ca, cc, ck, hc⟩ : ∃ a c k, cut sNan [98] = (a, c, k) := ⟨_, _, _, rfl⟩
  have HC := Lib.hid hc
  clear HR0 hng hm hc
  have en := fun w => neg_run (x := NAN) (by decide) w
  go_enter Tryz.func64, Tryz.ntmps64
  go_wp2_with (first
    | (go_at_call 92; (with_reducible refine (cutp_any S _).mono ?_); rw [HNG.out]; rintro e w' ⟨RS, rfl, HRS, rfl⟩; have q1 := eqs (HRS.out.trans HR.out) (t := [110, 97, 110]) Q1.out; have q2 := eqs (HRS.out.trans HR.out) (t := [105, 110, 102]) Q2.out; have hrs := rs_size hS HRS.out; have hcut := Lib.hid (cut_rs HRS.out HR.out HC.out))
    | (go_at_call 93; (with_reducible refine (cutb_any RS hrs hcut.out _ hl).mono ?_); rintro e w' ⟨SA, SC, nq, rfl, HSA, HSC, rfl⟩; have hlw := hl.drewN nq)
    | (go_at_call 94; (with_reducible refine (of_nan _).mono ?_); rintro e w' ⟨rfl, rfl⟩)
    | (go_at_call 61; (with_reducible refine (text_tr (NAN) hyy _ hlw).mono ?_); rintro e w2 ⟨S2, rfl, HS2, hb2⟩; have q3 := eqs2 HS2.out HM.out)
    | (go_at_call 78; (with_reducible refine (bits_any (NAN) _ hyy).mono ?_); rintro e w' ⟨rfl, rfl⟩)
    | (go_at_call 94; (with_reducible refine (of_can (NAN) hyy _).mono ?_); rintro e w' ⟨rfl, rfl⟩))
  go_ret2
  exact pr_of (HK.out.2 (of_decide_eq_false HM.out)) ((below_drewN (Below.refl _ _) _).trans (hb2.mono (Nat.le_refl _)))
set_option maxRecDepth 100000 in
set_option maxHeartbeats 1000000 in
theorem parseInfNY (S : ByteArray) (hS : S.size ≤ 4000000000) (HR0 : rest S.data.toList = sInf) (hng : neg S.data.toList = true) (hm : decide (T (sg true INF) = S.data.toList) = true) (w : World) (hl : Lay w) :
    Calls Tryz.prog 64 #[.string S] w fun e w' => PR S w w' e := by
  have HK := Lib.hid (pv_held (y := sg true INF) (by decide) ((by have := key_inf HR0; rw [hng] at this; exact this)))
  have HR := Lib.hid HR0
  have HNG := Lib.hid hng
  have HM := Lib.hid hm
  have hyy : sg true INF < W64 := by decide
  have Q1 : Hid (decide (sInf = ([110, 97, 110] : List UInt8)) = false) := Lib.hid (by decide)
  have Q2 : Hid (decide (sInf = ([105, 110, 102] : List UInt8)) = true) := Lib.hid (by decide)
  obtain ⟨ca, cc, ck, hc⟩ : ∃ a c k, cut sInf [98] = (a, c, k) := ⟨_, _, _, rfl⟩
  have HC := Lib.hid hc
  clear HR0 hng hm hc
  have en := fun w => neg_run (x := INF) (by decide) w
  go_enter Tryz.func64, Tryz.ntmps64
  go_wp2_with (first
    | (go_at_call 92; (with_reducible refine (cutp_any S _).mono ?_); rw [HNG.out]; rintro e w' ⟨RS, rfl, HRS, rfl⟩; have q1 := eqs (HRS.out.trans HR.out) (t := [110, 97, 110]) Q1.out; have q2 := eqs (HRS.out.trans HR.out) (t := [105, 110, 102]) Q2.out; have hrs := rs_size hS HRS.out; have hcut := Lib.hid (cut_rs HRS.out HR.out HC.out))
    | (go_at_call 93; (with_reducible refine (cutb_any RS hrs hcut.out _ hl).mono ?_); rintro e w' ⟨SA, SC, nq, rfl, HSA, HSC, rfl⟩; have hlw := hl.drewN nq)
    | (go_at_call 65; (with_reducible refine (inf_any _).mono ?_); rintro e w' ⟨rfl, rfl⟩)
    | (go_at_call 61; (with_reducible refine (text_tr (sg true INF) hyy _ hlw).mono ?_); rintro e w2 ⟨S2, rfl, HS2, hb2⟩; have q3 := eqs2 HS2.out HM.out)
    | (go_at_call 78; (with_reducible refine (bits_any (sg true INF) _ hyy).mono ?_); rintro e w' ⟨rfl, rfl⟩)
    | (go_at_call 94; (with_reducible refine (of_can (sg true INF) hyy _).mono ?_); rintro e w' ⟨rfl, rfl⟩))
  go_ret2
  exact pr_of (HK.out.1 (of_decide_eq_true HM.out)) ((below_drewN (Below.refl _ _) _).trans (hb2.mono (Nat.le_refl _)))
set_option maxRecDepth 100000 in
set_option maxHeartbeats 1000000 in
theorem parseInfNQ (S : ByteArray) (hS : S.size ≤ 4000000000) (HR0 : rest S.data.toList = sInf) (hng : neg S.data.toList = true) (hm : decide (T (sg true INF) = S.data.toList) = false) (w : World) (hl : Lay w) :
    Calls Tryz.prog 64 #[.string S] w fun e w' => PR S w w' e := by
  have HK := Lib.hid (pv_held (y := sg true INF) (by decide) ((by have := key_inf HR0; rw [hng] at this; exact this)))
  have HR := Lib.hid HR0
  have HNG := Lib.hid hng
  have HM := Lib.hid hm
  have hyy : sg true INF < W64 := by decide
  have Q1 : Hid (decide (sInf = ([110, 97, 110] : List UInt8)) = false) := Lib.hid (by decide)
  have Q2 : Hid (decide (sInf = ([105, 110, 102] : List UInt8)) = true) := Lib.hid (by decide)
  obtain ⟨ca, cc, ck, hc⟩ : ∃ a c k, cut sInf [98] = (a, c, k) := ⟨_, _, _, rfl⟩
  have HC := Lib.hid hc
  clear HR0 hng hm hc
  have en := fun w => neg_run (x := INF) (by decide) w
  go_enter Tryz.func64, Tryz.ntmps64
  go_wp2_with (first
    | (go_at_call 92; (with_reducible refine (cutp_any S _).mono ?_); rw [HNG.out]; rintro e w' ⟨RS, rfl, HRS, rfl⟩; have q1 := eqs (HRS.out.trans HR.out) (t := [110, 97, 110]) Q1.out; have q2 := eqs (HRS.out.trans HR.out) (t := [105, 110, 102]) Q2.out; have hrs := rs_size hS HRS.out; have hcut := Lib.hid (cut_rs HRS.out HR.out HC.out))
    | (go_at_call 93; (with_reducible refine (cutb_any RS hrs hcut.out _ hl).mono ?_); rintro e w' ⟨SA, SC, nq, rfl, HSA, HSC, rfl⟩; have hlw := hl.drewN nq)
    | (go_at_call 65; (with_reducible refine (inf_any _).mono ?_); rintro e w' ⟨rfl, rfl⟩)
    | (go_at_call 61; (with_reducible refine (text_tr (sg true INF) hyy _ hlw).mono ?_); rintro e w2 ⟨S2, rfl, HS2, hb2⟩; have q3 := eqs2 HS2.out HM.out)
    | (go_at_call 78; (with_reducible refine (bits_any (sg true INF) _ hyy).mono ?_); rintro e w' ⟨rfl, rfl⟩)
    | (go_at_call 94; (with_reducible refine (of_can (sg true INF) hyy _).mono ?_); rintro e w' ⟨rfl, rfl⟩))
  go_ret2
  exact pr_of (HK.out.2 (of_decide_eq_false HM.out)) ((below_drewN (Below.refl _ _) _).trans (hb2.mono (Nat.le_refl _)))
set_option maxRecDepth 100000 in
set_option maxHeartbeats 1000000 in
theorem parseInfPY (S : ByteArray) (hS : S.size ≤ 4000000000) (HR0 : rest S.data.toList = sInf) (hng : neg S.data.toList = false) (hm : decide (T (INF) = S.data.toList) = true) (w : World) (hl : Lay w) :
    Calls Tryz.prog 64 #[.string S] w fun e w' => PR S w w' e := by
  have HK := Lib.hid (pv_held (y := INF) (by decide) ((by have := key_inf HR0; rw [hng] at this; exact this)))
  have HR := Lib.hid HR0
  have HNG := Lib.hid hng
  have HM := Lib.hid hm
  have hyy : INF < W64 := by decide
  have Q1 : Hid (decide (sInf = ([110, 97, 110] : List UInt8)) = false) := Lib.hid (by decide)
  have Q2 : Hid (decide (sInf = ([105, 110, 102] : List UInt8)) = true) := Lib.hid (by decide)
  obtain ⟨ca, cc, ck, hc⟩ : ∃ a c k, cut sInf [98] = (a, c, k) := ⟨_, _, _, rfl⟩
  have HC := Lib.hid hc
  clear HR0 hng hm hc
  have en := fun w => neg_run (x := INF) (by decide) w
  go_enter Tryz.func64, Tryz.ntmps64
  go_wp2_with (first
    | (go_at_call 92; (with_reducible refine (cutp_any S _).mono ?_); rw [HNG.out]; rintro e w' ⟨RS, rfl, HRS, rfl⟩; have q1 := eqs (HRS.out.trans HR.out) (t := [110, 97, 110]) Q1.out; have q2 := eqs (HRS.out.trans HR.out) (t := [105, 110, 102]) Q2.out; have hrs := rs_size hS HRS.out; have hcut := Lib.hid (cut_rs HRS.out HR.out HC.out))
    | (go_at_call 93; (with_reducible refine (cutb_any RS hrs hcut.out _ hl).mono ?_); rintro e w' ⟨SA, SC, nq, rfl, HSA, HSC, rfl⟩; have hlw := hl.drewN nq)
    | (go_at_call 65; (with_reducible refine (inf_any _).mono ?_); rintro e w' ⟨rfl, rfl⟩)
    | (go_at_call 61; (with_reducible refine (text_tr (INF) hyy _ hlw).mono ?_); rintro e w2 ⟨S2, rfl, HS2, hb2⟩; have q3 := eqs2 HS2.out HM.out)
    | (go_at_call 78; (with_reducible refine (bits_any (INF) _ hyy).mono ?_); rintro e w' ⟨rfl, rfl⟩)
    | (go_at_call 94; (with_reducible refine (of_can (INF) hyy _).mono ?_); rintro e w' ⟨rfl, rfl⟩))
  go_ret2
  exact pr_of (HK.out.1 (of_decide_eq_true HM.out)) ((below_drewN (Below.refl _ _) _).trans (hb2.mono (Nat.le_refl _)))
set_option maxRecDepth 100000 in
set_option maxHeartbeats 1000000 in
theorem parseInfPQ (S : ByteArray) (hS : S.size ≤ 4000000000) (HR0 : rest S.data.toList = sInf) (hng : neg S.data.toList = false) (hm : decide (T (INF) = S.data.toList) = false) (w : World) (hl : Lay w) :
    Calls Tryz.prog 64 #[.string S] w fun e w' => PR S w w' e := by
  have HK := Lib.hid (pv_held (y := INF) (by decide) ((by have := key_inf HR0; rw [hng] at this; exact this)))
  have HR := Lib.hid HR0
  have HNG := Lib.hid hng
  have HM := Lib.hid hm
  have hyy : INF < W64 := by decide
  have Q1 : Hid (decide (sInf = ([110, 97, 110] : List UInt8)) = false) := Lib.hid (by decide)
  have Q2 : Hid (decide (sInf = ([105, 110, 102] : List UInt8)) = true) := Lib.hid (by decide)
  obtain ⟨ca, cc, ck, hc⟩ : ∃ a c k, cut sInf [98] = (a, c, k) := ⟨_, _, _, rfl⟩
  have HC := Lib.hid hc
  clear HR0 hng hm hc
  have en := fun w => neg_run (x := INF) (by decide) w
  go_enter Tryz.func64, Tryz.ntmps64
  go_wp2_with (first
    | (go_at_call 92; (with_reducible refine (cutp_any S _).mono ?_); rw [HNG.out]; rintro e w' ⟨RS, rfl, HRS, rfl⟩; have q1 := eqs (HRS.out.trans HR.out) (t := [110, 97, 110]) Q1.out; have q2 := eqs (HRS.out.trans HR.out) (t := [105, 110, 102]) Q2.out; have hrs := rs_size hS HRS.out; have hcut := Lib.hid (cut_rs HRS.out HR.out HC.out))
    | (go_at_call 93; (with_reducible refine (cutb_any RS hrs hcut.out _ hl).mono ?_); rintro e w' ⟨SA, SC, nq, rfl, HSA, HSC, rfl⟩; have hlw := hl.drewN nq)
    | (go_at_call 65; (with_reducible refine (inf_any _).mono ?_); rintro e w' ⟨rfl, rfl⟩)
    | (go_at_call 61; (with_reducible refine (text_tr (INF) hyy _ hlw).mono ?_); rintro e w2 ⟨S2, rfl, HS2, hb2⟩; have q3 := eqs2 HS2.out HM.out)
    | (go_at_call 78; (with_reducible refine (bits_any (INF) _ hyy).mono ?_); rintro e w' ⟨rfl, rfl⟩)
    | (go_at_call 94; (with_reducible refine (of_can (INF) hyy _).mono ?_); rintro e w' ⟨rfl, rfl⟩))
  go_ret2
  exact pr_of (HK.out.2 (of_decide_eq_false HM.out)) ((below_drewN (Below.refl _ _) _).trans (hb2.mono (Nat.le_refl _)))
end Go.Proofs.YtdkmmnehlmaebaaGreatDoor


/- The walk of reading a double: what is no name of one. Conditions: the library's tables are laid. -/
namespace Go.Proofs.YtdkmmnehlmaebaaGreatDoor
open Go.RowKit Go.FT Go.FX Go.Lib

theorem floatOfInt_F {z : Int} (h : 0 ≤ z) : floatOfInt .f64 z = F z.toNat := by
  unfold floatOfInt FloatKind.nearest
  show D.write (.number (decide (z < 0)) z.natAbs 0) = _
  rw [decide_eq_false (by omega), show z.natAbs = z.toNat by omega]
  rfl
theorem floatOfNat_F (n : Nat) : floatOfInt .f64 (n : Int) = F n := floatOfInt_F (by omega)
theorem part_size {S A : ByteArray} {r a : List UInt8} (hS : S.size ≤ 4000000000) (hr : rest S.data.toList = r) (hl : a.length ≤ r.length) (h : A.data.toList = a) : A.size ≤ 4294967281 := by
  rw [size_eq] at hS ⊢
  rw [h]
  have := trim_len S.data.toList
  rw [hr] at this
  omega
theorem drew_trans {w w' : World} {n : Nat} (h : Below w.heap.size (w.drewN n) w') : Below w.heap.size w w' := (below_drewN (Below.refl _ _) n).trans h
set_option maxRecDepth 100000 in
set_option maxHeartbeats 1000000 in
theorem parseNoCut (S : ByteArray) (hS : S.size ≤ 4000000000) {r a c : List UInt8} {ng : Bool} (HR : Hid (rest S.data.toList = r)) (HNG : Hid (neg S.data.toList = ng)) (h1 : r ≠ sNan) (h2 : r ≠ sInf) (HC : Hid (cut r [98] = (a, c, false)))  (w : World) (hl : Lay w) :
    Calls Tryz.prog 64 #[.string S] w fun e w' => PR S w w' e := by
  have Q1 : Hid (decide (r = ([110, 97, 110] : List UInt8)) = false) := Lib.hid (decide_eq_false h1)
  have Q2 : Hid (decide (r = ([105, 110, 102] : List UInt8)) = false) := Lib.hid (decide_eq_false h2)
  have HLA : Hid (a.length ≤ r.length) := Lib.hid (cut_len HC.out).1
  have HLC : Hid (c.length ≤ r.length) := Lib.hid (cut_len HC.out).2
  have HP : Hid (pv S.data.toList = (0, 16)) := Lib.hid (none_nocut (by rw [HR.out]; exact h1) (by rw [HR.out]; exact h2) (by rw [HR.out]; exact HC.out))
  clear h1 h2
  go_enter Tryz.func64, Tryz.ntmps64
  go_wp2_with (first
    | (go_at_call 92; (with_reducible refine (cutp_any S _).mono ?_); rw [HNG.out]; rintro e w' ⟨RS, rfl, HRS, rfl⟩; have q1 := eqs (HRS.out.trans HR.out) (t := [110, 97, 110]) Q1.out; have q2 := eqs (HRS.out.trans HR.out) (t := [105, 110, 102]) Q2.out; have hrs := rs_size hS HRS.out; have hcut := Lib.hid (cut_rs HRS.out HR.out HC.out))
    | (go_at_call 93; (with_reducible refine (cutb_any RS hrs hcut.out _ hl).mono ?_); rintro e w' ⟨SA, SC, nq, rfl, HSA, HSC, rfl⟩; have hlw := hl.drewN nq; have ha := part_size hS HR.out HLA.out HSA.out; have hc := part_size hS HR.out HLC.out HSC.out))
  go_ret2
  exact pr_of HP.out (below_drewN (Below.refl _ _) _)
set_option maxRecDepth 100000 in
set_option maxHeartbeats 1000000 in
theorem parseBadEO (S : ByteArray) (hS : S.size ≤ 4000000000) {r a c : List UInt8} {ng : Bool} (HR : Hid (rest S.data.toList = r)) (HNG : Hid (neg S.data.toList = ng)) (h1 : r ≠ sNan) (h2 : r ≠ sInf) (HC : Hid (cut r [98] = (a, c, true))) (hu : Hid (∀ n, parseUintB 64 a ≠ .ok n)) {k : Int} (hk : Hid (atoiAll c = .ok k)) (w : World) (hl : Lay w) :
    Calls Tryz.prog 64 #[.string S] w fun e w' => PR S w w' e := by
  have Q1 : Hid (decide (r = ([110, 97, 110] : List UInt8)) = false) := Lib.hid (decide_eq_false h1)
  have Q2 : Hid (decide (r = ([105, 110, 102] : List UInt8)) = false) := Lib.hid (decide_eq_false h2)
  have HLA : Hid (a.length ≤ r.length) := Lib.hid (cut_len HC.out).1
  have HLC : Hid (c.length ≤ r.length) := Lib.hid (cut_len HC.out).2
  have HP : Hid (pv S.data.toList = (0, 16)) := Lib.hid (none_bad (by rw [HR.out]; exact h1) (by rw [HR.out]; exact h2) (by rw [HR.out]; exact HC.out) (Or.inl hu.out))
  clear h1 h2
  go_enter Tryz.func64, Tryz.ntmps64
  go_wp2_with (first
    | (go_at_call 92; (with_reducible refine (cutp_any S _).mono ?_); rw [HNG.out]; rintro e w' ⟨RS, rfl, HRS, rfl⟩; have q1 := eqs (HRS.out.trans HR.out) (t := [110, 97, 110]) Q1.out; have q2 := eqs (HRS.out.trans HR.out) (t := [105, 110, 102]) Q2.out; have hrs := rs_size hS HRS.out; have hcut := Lib.hid (cut_rs HRS.out HR.out HC.out))
    | (go_at_call 93; (with_reducible refine (cutb_any RS hrs hcut.out _ hl).mono ?_); rintro e w' ⟨SA, SC, nq, rfl, HSA, HSC, rfl⟩; have hlw := hl.drewN nq; have ha := part_size hS HR.out HLA.out HSA.out; have hc := part_size hS HR.out HLC.out HSC.out)
    | (go_at_call 95; (with_reducible refine (pu_err SA ha HSA.out hu.out _ hlw).mono ?_); rintro e w1 ⟨u, Nu, rfl, hb1⟩; have hl1 := hlw.below hb1)
    | (go_at_call 63; (with_reducible refine (at_ok SC hc HSC.out hk.out _).mono ?_); rintro e w2 ⟨rfl, hb2⟩; have hl2 := hl1.below hb2))
  go_ret2
  exact pr_of HP.out (drew_trans (hb1.trans (hb2.mono hb1.size)))
set_option maxRecDepth 100000 in
set_option maxHeartbeats 1000000 in
theorem parseBadEE (S : ByteArray) (hS : S.size ≤ 4000000000) {r a c : List UInt8} {ng : Bool} (HR : Hid (rest S.data.toList = r)) (HNG : Hid (neg S.data.toList = ng)) (h1 : r ≠ sNan) (h2 : r ≠ sInf) (HC : Hid (cut r [98] = (a, c, true))) (hu : Hid (∀ n, parseUintB 64 a ≠ .ok n)) (hk : Hid (∀ n, atoiAll c ≠ .ok n)) (w : World) (hl : Lay w) :
    Calls Tryz.prog 64 #[.string S] w fun e w' => PR S w w' e := by
  have Q1 : Hid (decide (r = ([110, 97, 110] : List UInt8)) = false) := Lib.hid (decide_eq_false h1)
  have Q2 : Hid (decide (r = ([105, 110, 102] : List UInt8)) = false) := Lib.hid (decide_eq_false h2)
  have HLA : Hid (a.length ≤ r.length) := Lib.hid (cut_len HC.out).1
  have HLC : Hid (c.length ≤ r.length) := Lib.hid (cut_len HC.out).2
  have HP : Hid (pv S.data.toList = (0, 16)) := Lib.hid (none_bad (by rw [HR.out]; exact h1) (by rw [HR.out]; exact h2) (by rw [HR.out]; exact HC.out) (Or.inl hu.out))
  clear h1 h2
  go_enter Tryz.func64, Tryz.ntmps64
  go_wp2_with (first
    | (go_at_call 92; (with_reducible refine (cutp_any S _).mono ?_); rw [HNG.out]; rintro e w' ⟨RS, rfl, HRS, rfl⟩; have q1 := eqs (HRS.out.trans HR.out) (t := [110, 97, 110]) Q1.out; have q2 := eqs (HRS.out.trans HR.out) (t := [105, 110, 102]) Q2.out; have hrs := rs_size hS HRS.out; have hcut := Lib.hid (cut_rs HRS.out HR.out HC.out))
    | (go_at_call 93; (with_reducible refine (cutb_any RS hrs hcut.out _ hl).mono ?_); rintro e w' ⟨SA, SC, nq, rfl, HSA, HSC, rfl⟩; have hlw := hl.drewN nq; have ha := part_size hS HR.out HLA.out HSA.out; have hc := part_size hS HR.out HLC.out HSC.out)
    | (go_at_call 95; (with_reducible refine (pu_err SA ha HSA.out hu.out _ hlw).mono ?_); rintro e w1 ⟨u, Nu, rfl, hb1⟩; have hl1 := hlw.below hb1)
    | (go_at_call 63; (with_reducible refine (at_err SC hc HSC.out hk.out _ hl1).mono ?_); rintro e w2 ⟨k, Nk, rfl, hb2⟩; have hl2 := hl1.below hb2))
  go_ret2
  exact pr_of HP.out (drew_trans (hb1.trans (hb2.mono hb1.size)))
set_option maxRecDepth 100000 in
set_option maxHeartbeats 1000000 in
theorem parseBadOE (S : ByteArray) (hS : S.size ≤ 4000000000) {r a c : List UInt8} {ng : Bool} (HR : Hid (rest S.data.toList = r)) (HNG : Hid (neg S.data.toList = ng)) (h1 : r ≠ sNan) (h2 : r ≠ sInf) (HC : Hid (cut r [98] = (a, c, true))) {u : Nat} (hu : Hid (parseUintB 64 a = .ok u)) (hk : Hid (∀ n, atoiAll c ≠ .ok n)) (w : World) (hl : Lay w) :
    Calls Tryz.prog 64 #[.string S] w fun e w' => PR S w w' e := by
  have Q1 : Hid (decide (r = ([110, 97, 110] : List UInt8)) = false) := Lib.hid (decide_eq_false h1)
  have Q2 : Hid (decide (r = ([105, 110, 102] : List UInt8)) = false) := Lib.hid (decide_eq_false h2)
  have HLA : Hid (a.length ≤ r.length) := Lib.hid (cut_len HC.out).1
  have HLC : Hid (c.length ≤ r.length) := Lib.hid (cut_len HC.out).2
  have HP : Hid (pv S.data.toList = (0, 16)) := Lib.hid (none_bad (by rw [HR.out]; exact h1) (by rw [HR.out]; exact h2) (by rw [HR.out]; exact HC.out) (Or.inr (Or.inl hk.out)))
  clear h1 h2
  go_enter Tryz.func64, Tryz.ntmps64
  go_wp2_with (first
    | (go_at_call 92; (with_reducible refine (cutp_any S _).mono ?_); rw [HNG.out]; rintro e w' ⟨RS, rfl, HRS, rfl⟩; have q1 := eqs (HRS.out.trans HR.out) (t := [110, 97, 110]) Q1.out; have q2 := eqs (HRS.out.trans HR.out) (t := [105, 110, 102]) Q2.out; have hrs := rs_size hS HRS.out; have hcut := Lib.hid (cut_rs HRS.out HR.out HC.out))
    | (go_at_call 93; (with_reducible refine (cutb_any RS hrs hcut.out _ hl).mono ?_); rintro e w' ⟨SA, SC, nq, rfl, HSA, HSC, rfl⟩; have hlw := hl.drewN nq; have ha := part_size hS HR.out HLA.out HSA.out; have hc := part_size hS HR.out HLC.out HSC.out)
    | (go_at_call 95; (with_reducible refine (pu_ok SA ha HSA.out hu.out _).mono ?_); rintro e w1 ⟨rfl, hb1⟩; have hl1 := hlw.below hb1)
    | (go_at_call 63; (with_reducible refine (at_err SC hc HSC.out hk.out _ hl1).mono ?_); rintro e w2 ⟨k, Nk, rfl, hb2⟩; have hl2 := hl1.below hb2))
  go_ret2
  exact pr_of HP.out (drew_trans (hb1.trans (hb2.mono hb1.size)))
set_option maxRecDepth 100000 in
set_option maxHeartbeats 1000000 in
theorem parseBadBig (S : ByteArray) (hS : S.size ≤ 4000000000) {r a c : List UInt8} {ng : Bool} (HR : Hid (rest S.data.toList = r)) (HNG : Hid (neg S.data.toList = ng)) (h1 : r ≠ sNan) (h2 : r ≠ sInf) (HC : Hid (cut r [98] = (a, c, true))) {u : Nat} (hu : Hid (parseUintB 64 a = .ok u)) {k : Int} (hk : Hid (atoiAll c = .ok k)) (hbig : 9007199254740992 ≤ u) (w : World) (hl : Lay w) :
    Calls Tryz.prog 64 #[.string S] w fun e w' => PR S w w' e := by
  have Q1 : Hid (decide (r = ([110, 97, 110] : List UInt8)) = false) := Lib.hid (decide_eq_false h1)
  have Q2 : Hid (decide (r = ([105, 110, 102] : List UInt8)) = false) := Lib.hid (decide_eq_false h2)
  have HLA : Hid (a.length ≤ r.length) := Lib.hid (cut_len HC.out).1
  have HLC : Hid (c.length ≤ r.length) := Lib.hid (cut_len HC.out).2
  have HP : Hid (pv S.data.toList = (0, 16)) := Lib.hid (none_bad (by rw [HR.out]; exact h1) (by rw [HR.out]; exact h2) (by rw [HR.out]; exact HC.out) (Or.inr (Or.inr ⟨u, hu.out, hbig⟩)))
  have hbg : (9007199254740992 : Int) ≤ u := by omega
  clear hbig
  clear h1 h2
  go_enter Tryz.func64, Tryz.ntmps64
  go_wp2_with (first
    | (go_at_call 92; (with_reducible refine (cutp_any S _).mono ?_); rw [HNG.out]; rintro e w' ⟨RS, rfl, HRS, rfl⟩; have q1 := eqs (HRS.out.trans HR.out) (t := [110, 97, 110]) Q1.out; have q2 := eqs (HRS.out.trans HR.out) (t := [105, 110, 102]) Q2.out; have hrs := rs_size hS HRS.out; have hcut := Lib.hid (cut_rs HRS.out HR.out HC.out))
    | (go_at_call 93; (with_reducible refine (cutb_any RS hrs hcut.out _ hl).mono ?_); rintro e w' ⟨SA, SC, nq, rfl, HSA, HSC, rfl⟩; have hlw := hl.drewN nq; have ha := part_size hS HR.out HLA.out HSA.out; have hc := part_size hS HR.out HLC.out HSC.out)
    | (go_at_call 95; (with_reducible refine (pu_ok SA ha HSA.out hu.out _).mono ?_); rintro e w1 ⟨rfl, hb1⟩; have hl1 := hlw.below hb1)
    | (go_at_call 63; (with_reducible refine (at_ok SC hc HSC.out hk.out _).mono ?_); rintro e w2 ⟨rfl, hb2⟩; have hl2 := hl1.below hb2))
  go_ret2
  exact pr_of HP.out (drew_trans (hb1.trans (hb2.mono hb1.size)))
theorem lt_sgn {y : Nat} (h : y ≤ INF) : y < SGN := Nat.lt_of_le_of_lt h (by decide)
theorem lt_w {y : Nat} (h : y ≤ INF) : y < W64 := Nat.lt_of_le_of_lt h (by decide)
theorem key_sg {S : ByteArray} {y : Nat} (h : neg S.data.toList = true) (hk : ∀ b, b < W64 → T b = S.data.toList → can b = can (sg (neg S.data.toList) y)) : ∀ b, b < W64 → T b = S.data.toList → can b = can (sg true y) := by rw [h] at hk; exact hk
theorem key_ps {S : ByteArray} {y : Nat} (h : neg S.data.toList = false) (hk : ∀ b, b < W64 → T b = S.data.toList → can b = can (sg (neg S.data.toList) y)) : ∀ b, b < W64 → T b = S.data.toList → can b = can y := by rw [h] at hk; exact hk
set_option maxRecDepth 100000 in
set_option maxHeartbeats 1000000 in
theorem parseOkN (S : ByteArray) (hS : S.size ≤ 4000000000) {r a c : List UInt8} (HR : Hid (rest S.data.toList = r)) (HNG : Hid (neg S.data.toList = true)) (h1 : r ≠ sNan) (h2 : r ≠ sInf) (HC : Hid (cut r [98] = (a, c, true))) {u : Nat} (hu : Hid (parseUintB 64 a = .ok u)) {k : Int} (hk : Hid (atoiAll c = .ok k)) (hu2 : u < 2 * B) (w : World) (hl : Lay w) :
    Calls Tryz.prog 64 #[.string S] w fun e w' => PR S w w' e := by
  have Q1 : Hid (decide (r = ([110, 97, 110] : List UInt8)) = false) := Lib.hid (decide_eq_false h1)
  have Q2 : Hid (decide (r = ([105, 110, 102] : List UInt8)) = false) := Lib.hid (decide_eq_false h2)
  have HLA : Hid (a.length ≤ r.length) := Lib.hid (cut_len HC.out).1
  have HLC : Hid (c.length ≤ r.length) := Lib.hid (cut_len HC.out).2
  have HH1 : Hid (rest S.data.toList ≠ sNan) := Lib.hid (by rw [HR.out]; exact h1)
  have HH2 : Hid (rest S.data.toList ≠ sInf) := Lib.hid (by rw [HR.out]; exact h2)
  have HCC : Hid (cut (rest S.data.toList) [98] = (a, c, true)) := Lib.hid (by rw [HR.out]; exact HC.out)
  have hb0 := atoiAll_bounds hk.out
  have HB0 := Lib.hid hb0
  have hf := floatOfNat_F u
  have hu3 : decide ((9007199254740992 : Int) ≤ u) = false := decide_eq_false (by unfold B at hu2; omega)
  have HU2 := Lib.hid hu2
  clear hu2
  clear hb0
  clear h1 h2
  go_enter Tryz.func64, Tryz.ntmps64
  go_wp2_with (first
    | (go_at_call 92; (with_reducible refine (cutp_any S _).mono ?_); rw [HNG.out]; rintro e w' ⟨RS, rfl, HRS, rfl⟩; have q1 := eqs (HRS.out.trans HR.out) (t := [110, 97, 110]) Q1.out; have q2 := eqs (HRS.out.trans HR.out) (t := [105, 110, 102]) Q2.out; have hrs := rs_size hS HRS.out; have hcut := Lib.hid (cut_rs HRS.out HR.out HC.out))
    | (go_at_call 93; (with_reducible refine (cutb_any RS hrs hcut.out _ hl).mono ?_); rintro e w' ⟨SA, SC, nq, rfl, HSA, HSC, rfl⟩; have hlw := hl.drewN nq; have ha := part_size hS HR.out HLA.out HSA.out; have hc := part_size hS HR.out HLC.out HSC.out)
    | (go_at_call 95; (with_reducible refine (pu_ok SA ha HSA.out hu.out _).mono ?_); rintro e w1 ⟨rfl, hb1⟩; have hl1 := hlw.below hb1)
    | (go_at_call 63; (with_reducible refine (at_ok SC hc HSC.out hk.out _).mono ?_); rintro e w2 ⟨rfl, hb2⟩; have hl2 := hl1.below hb2)
    | (go_at_call 96; (with_reducible refine (ldexp_any u HU2.out k HB0.out.1 HB0.out.2 _).mono ?_); rintro e w' ⟨y, rfl, hy1, hy2, rfl⟩; have hys := lt_sgn hy1; have en := fun w => neg_run (x := y) hys w; have hyy := sg_lt (n := true) hys; have HKY := Lib.hid (pv_held hyy (key_sg HNG.out (key_num HH1.out HH2.out HCC.out hu.out hk.out hy2))))
    | (go_at_call 61; (with_reducible refine (text_tr (sg true y) hyy _ hl2).mono ?_); rintro e w3 ⟨S2, rfl, HS2, hb3⟩; have q3 := Lib.hid (text_eq (S := S) HS2.out))
    | (go_at_call 78; (with_reducible refine (bits_any (sg true y) _ hyy).mono ?_); rintro e w' ⟨rfl, rfl⟩)
    | (go_at_call 94; (with_reducible refine (of_can (sg true y) hyy _).mono ?_); rintro e w' ⟨rfl, rfl⟩))
  · go_ret2
    have hq : (!S2.toList == S.toList) = true := by assumption
    rw [q3.out] at hq
    exact pr_of (HKY.out.2 (of_decide_eq_false (by simpa using hq))) (drew_trans ((hb1.trans (hb2.mono hb1.size)).trans (hb3.mono (hb1.trans (hb2.mono hb1.size)).size)))
  · go_ret2
    have hq : (!S2.toList == S.toList) = false := by assumption
    rw [q3.out] at hq
    exact pr_of (HKY.out.1 (of_decide_eq_true (by simpa using hq))) (drew_trans ((hb1.trans (hb2.mono hb1.size)).trans (hb3.mono (hb1.trans (hb2.mono hb1.size)).size)))
set_option maxRecDepth 100000 in
set_option maxHeartbeats 1000000 in
theorem parseOkP (S : ByteArray) (hS : S.size ≤ 4000000000) {r a c : List UInt8} (HR : Hid (rest S.data.toList = r)) (HNG : Hid (neg S.data.toList = false)) (h1 : r ≠ sNan) (h2 : r ≠ sInf) (HC : Hid (cut r [98] = (a, c, true))) {u : Nat} (hu : Hid (parseUintB 64 a = .ok u)) {k : Int} (hk : Hid (atoiAll c = .ok k)) (hu2 : u < 2 * B) (w : World) (hl : Lay w) :
    Calls Tryz.prog 64 #[.string S] w fun e w' => PR S w w' e := by
  have Q1 : Hid (decide (r = ([110, 97, 110] : List UInt8)) = false) := Lib.hid (decide_eq_false h1)
  have Q2 : Hid (decide (r = ([105, 110, 102] : List UInt8)) = false) := Lib.hid (decide_eq_false h2)
  have HLA : Hid (a.length ≤ r.length) := Lib.hid (cut_len HC.out).1
  have HLC : Hid (c.length ≤ r.length) := Lib.hid (cut_len HC.out).2
  have HH1 : Hid (rest S.data.toList ≠ sNan) := Lib.hid (by rw [HR.out]; exact h1)
  have HH2 : Hid (rest S.data.toList ≠ sInf) := Lib.hid (by rw [HR.out]; exact h2)
  have HCC : Hid (cut (rest S.data.toList) [98] = (a, c, true)) := Lib.hid (by rw [HR.out]; exact HC.out)
  have hb0 := atoiAll_bounds hk.out
  have HB0 := Lib.hid hb0
  have hf := floatOfNat_F u
  have hu3 : decide ((9007199254740992 : Int) ≤ u) = false := decide_eq_false (by unfold B at hu2; omega)
  have HU2 := Lib.hid hu2
  clear hu2
  clear hb0
  clear h1 h2
  go_enter Tryz.func64, Tryz.ntmps64
  go_wp2_with (first
    | (go_at_call 92; (with_reducible refine (cutp_any S _).mono ?_); rw [HNG.out]; rintro e w' ⟨RS, rfl, HRS, rfl⟩; have q1 := eqs (HRS.out.trans HR.out) (t := [110, 97, 110]) Q1.out; have q2 := eqs (HRS.out.trans HR.out) (t := [105, 110, 102]) Q2.out; have hrs := rs_size hS HRS.out; have hcut := Lib.hid (cut_rs HRS.out HR.out HC.out))
    | (go_at_call 93; (with_reducible refine (cutb_any RS hrs hcut.out _ hl).mono ?_); rintro e w' ⟨SA, SC, nq, rfl, HSA, HSC, rfl⟩; have hlw := hl.drewN nq; have ha := part_size hS HR.out HLA.out HSA.out; have hc := part_size hS HR.out HLC.out HSC.out)
    | (go_at_call 95; (with_reducible refine (pu_ok SA ha HSA.out hu.out _).mono ?_); rintro e w1 ⟨rfl, hb1⟩; have hl1 := hlw.below hb1)
    | (go_at_call 63; (with_reducible refine (at_ok SC hc HSC.out hk.out _).mono ?_); rintro e w2 ⟨rfl, hb2⟩; have hl2 := hl1.below hb2)
    | (go_at_call 96; (with_reducible refine (ldexp_any u HU2.out k HB0.out.1 HB0.out.2 _).mono ?_); rintro e w' ⟨y, rfl, hy1, hy2, rfl⟩; have hys := lt_sgn hy1; have en := fun w => neg_run (x := y) hys w; have hyy := lt_w hy1; have HKY := Lib.hid (pv_held hyy (key_ps HNG.out (key_num HH1.out HH2.out HCC.out hu.out hk.out hy2))))
    | (go_at_call 61; (with_reducible refine (text_tr (y) hyy _ hl2).mono ?_); rintro e w3 ⟨S2, rfl, HS2, hb3⟩; have q3 := Lib.hid (text_eq (S := S) HS2.out))
    | (go_at_call 78; (with_reducible refine (bits_any (y) _ hyy).mono ?_); rintro e w' ⟨rfl, rfl⟩)
    | (go_at_call 94; (with_reducible refine (of_can (y) hyy _).mono ?_); rintro e w' ⟨rfl, rfl⟩))
  · go_ret2
    have hq : (!S2.toList == S.toList) = true := by assumption
    rw [q3.out] at hq
    exact pr_of (HKY.out.2 (of_decide_eq_false (by simpa using hq))) (drew_trans ((hb1.trans (hb2.mono hb1.size)).trans (hb3.mono (hb1.trans (hb2.mono hb1.size)).size)))
  · go_ret2
    have hq : (!S2.toList == S.toList) = false := by assumption
    rw [q3.out] at hq
    exact pr_of (HKY.out.1 (of_decide_eq_true (by simpa using hq))) (drew_trans ((hb1.trans (hb2.mono hb1.size)).trans (hb3.mono (hb1.trans (hb2.mono hb1.size)).size)))
end Go.Proofs.YtdkmmnehlmaebaaGreatDoor


/- Reading a double: the program's; plain facts for the document's. Conditions: the library's tables are laid. -/
namespace Go.Proofs.YtdkmmnehlmaebaaGreatDoor
open Go.RowKit Go.FT Go.FX Go.Lib

theorem parse_any (S : ByteArray) (hS : S.size ≤ 4000000000) (w : World) (hl : Lay w) :
    Calls Tryz.prog 64 #[.string S] w fun e w' => PR S w w' e := by
  by_cases h1 : rest S.data.toList = sNan
  · cases hg : neg S.data.toList
    · cases hm : decide (T NAN = S.data.toList)
      · exact parseNanPQ S hS h1 hg hm w hl
      · exact parseNanPY S hS h1 hg hm w hl
    · cases hm : decide (T (sg true NAN) = S.data.toList)
      · exact parseNanNQ S hS h1 hg hm w hl
      · exact parseNanNY S hS h1 hg hm w hl
  · by_cases h2 : rest S.data.toList = sInf
    · cases hg : neg S.data.toList
      · cases hm : decide (T INF = S.data.toList)
        · exact parseInfPQ S hS h2 hg hm w hl
        · exact parseInfPY S hS h2 hg hm w hl
      · cases hm : decide (T (sg true INF) = S.data.toList)
        · exact parseInfNQ S hS h2 hg hm w hl
        · exact parseInfNY S hS h2 hg hm w hl
    · obtain ⟨r, hr⟩ : ∃ r, rest S.data.toList = r := ⟨_, rfl⟩
      have HR := Lib.hid hr
      rw [hr] at h1 h2
      cases hc : cut r [98] with
      | mk a cb =>
        obtain ⟨c, ok⟩ := cb
        have HC := Lib.hid hc
        cases ok
        · exact parseNoCut S hS HR (Lib.hid rfl) h1 h2 HC w hl
        · rcases hp : parseUintB 64 a with u | _ | _
          · rcases hk : atoiAll c with k | _ | _
            · by_cases hb : u < 2 * B
              · cases hg : neg S.data.toList
                · exact parseOkP S hS HR (Lib.hid hg) h1 h2 HC (Lib.hid hp) (Lib.hid hk) hb w hl
                · exact parseOkN S hS HR (Lib.hid hg) h1 h2 HC (Lib.hid hp) (Lib.hid hk) hb w hl
              · exact parseBadBig S hS HR (Lib.hid rfl) h1 h2 HC (Lib.hid hp) (Lib.hid hk) (by unfold B at hb; omega) w hl
            all_goals exact parseBadOE S hS HR (Lib.hid rfl) h1 h2 HC (Lib.hid hp) (Lib.hid (by intro n e; rw [hk] at e; cases e)) w hl
          all_goals
            have hu : Hid (∀ n, parseUintB 64 a ≠ .ok n) := Lib.hid (by intro n e; rw [hp] at e; cases e)
            rcases hk : atoiAll c with k | _ | _
            · exact parseBadEO S hS HR (Lib.hid rfl) h1 h2 HC hu (Lib.hid hk) w hl
            all_goals exact parseBadEE S hS HR (Lib.hid rfl) h1 h2 HC hu (Lib.hid (by intro n e; rw [hk] at e; cases e)) w hl

/-! the document's -/
theorem neg_sgn (l : List UInt8) : neg l = sgn l := by
  unfold neg sgn hasPrefix
  cases l with
  | nil => rfl
  | cons c t =>
    simp only [List.isPrefixOf, Bool.and_true, List.head?_cons]
    rw [Bool.eq_iff_iff, beq_iff_eq, beq_iff_eq]
    constructor
    · intro h; rw [h]
    · intro h; injection h with h; exact h.symm
theorem rest_mgn (l : List UInt8) : rest l = mgn l := by
  have h := neg_sgn l
  unfold neg at h
  unfold rest mgn trimPrefix
  rw [h]; rfl
theorem cut_none {l : List UInt8} (h : ∀ d ∈ l, d ≠ 98) : cut l [98] = (l, [], false) := by
  have hi : index l [98] = -1 := by
    refine index_none (fun j _ => ?_)
    rw [Bool.eq_false_iff]
    intro ho
    have h1 := occAt_head (c := 98) (t := []) rfl ho
    exact h _ (List.mem_of_getElem? h1) rfl
  unfold cut
  rw [hi]; rfl
theorem cut_at {l : List UInt8} {k : Nat} (hk : k < l.length) (h : ∀ (j : Nat) (hj : j < l.length), j < k → l[j] ≠ 98) (hb : l[k] = 98) : cut l [98] = (l.take k, l.drop (k + 1), true) := by
  have e : l = l.take k ++ 98 :: l.drop (k + 1) := by
    rw [← hb, ← List.drop_eq_getElem_cons hk, List.take_append_drop]
  have h2 := cut_b (l.take k) (l.drop (k + 1)) (fun d hd => by
    obtain ⟨j, hj, rfl⟩ := List.mem_iff_getElem.1 hd
    rw [List.getElem_take]
    rw [List.length_take] at hj
    exact h j (by omega) (by omega))
  rw [← e] at h2
  exact h2
/-- How far the document's doubling and halving is. -/
def ToI (n : Nat) (k : Int) (y : Nat) (d : Int) : Prop := ∀ r, Is n k r → To y d r ∧ (d < 0 → y < INF)
theorem ToI.start {n : Nat} (k : Int) (hn : n ≤ 2 * B) : ToI n k (F n) k := fun _ h => ⟨h.to hn, fun _ => (F_full hn).1⟩
theorem ToI.up {n y y' : Nat} {k d : Int} (h : ToI n k y d) (hd : 0 < d) (hy : ∀ s, s < INF → V s = 2 * V y → y' = s) : ToI n k y' (d - 1) :=
  fun r hr => ⟨(h r hr).1.up hd hr.2.1 hy, fun hh => by omega⟩
theorem ToI.down {n y y' : Nat} {k d : Int} (h : ToI n k y d) (hd : d < 0) (hy : ∀ s, s < INF → V y = 2 * V s → y ≠ INF → y' = s) : ToI n k y' (d + 1) :=
  fun r hr => by
    have hlt := (h r hr).2 hd
    obtain ⟨a, b⟩ := (h r hr).1.down hd hlt (fun s hs hv => hy s hs hv (by omega))
    exact ⟨a, fun _ => b⟩
theorem ToI.done {n y : Nat} {k : Int} (h : ToI n k y 0) : ∀ r, Is n k r → y = r := fun r hr => (h r hr).1.done
theorem mul2_run {x : Nat} (h : x ≤ INF) : ∃ y, (∀ w : World, (binOp .mul 25 (.float .f64 x) (.float .f64 4611686018427387904)).run Tryz.prog w = .ok (.float .f64 y) w) ∧ y ≤ INF ∧ ∀ r, r < INF → V r = 2 * V x → y = r := by
  obtain ⟨y, h1, h2, h3⟩ := mul_two h
  exact ⟨y, fun w => run_float_arith w .mul 25 .f64 _ _ _ h1, h2, h3⟩
theorem div2_run {x : Nat} (h : x ≤ INF) : ∃ y, (∀ w : World, (binOp .quo 25 (.float .f64 x) (.float .f64 4611686018427387904)).run Tryz.prog w = .ok (.float .f64 y) w) ∧ y ≤ INF ∧ ∀ r, r < INF → V x = 2 * V r → x ≠ INF → y = r := by
  obtain ⟨y, h1, h2, h3⟩ := div_two h
  exact ⟨y, fun w => run_float_arith w .quo 25 .f64 _ _ _ h1, h2, h3⟩
theorem rof_can (y : Nat) (hy : y < W64) (w : World) : Calls Tryz.prog 34 #[.int .u64 (can y : Nat)] w fun e w' => e = .returned (.float .f64 (can y)) ∧ w = w' := by
  have h := rof_any (can y) w (can_lt hy)
  rw [can_can] at h
  exact h
theorem rof_nan (w : World) : Calls Tryz.prog 34 #[.int .u64 9221120237041090560] w fun e w' => e = .returned (.float .f64 NAN) ∧ w = w' := by
  have h := rof_any 9221120237041090560 w (by decide)
  rw [show can 9221120237041090560 = NAN by decide] at h
  exact h
theorem rof_inf (w : World) : Calls Tryz.prog 34 #[.int .u64 9218868437227405312] w fun e w' => e = .returned (.float .f64 INF) ∧ w = w' := by
  have h := rof_any 9218868437227405312 w (by decide)
  rw [show can 9218868437227405312 = INF by decide] at h
  exact h
end Go.Proofs.YtdkmmnehlmaebaaGreatDoor
