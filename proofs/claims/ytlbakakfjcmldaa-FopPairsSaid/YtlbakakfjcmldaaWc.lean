/- The walks of the greatest product, of exactness, of sameness, and what the awake test gives. Conditions: the slices can be read, their numbers are doubles. -/
import Derived.Test.YtlbakakfjcmldaaWb
import Derived.Deep.QuietTactic
import Derived.BigQuiet
namespace Go.Proofs.Ytlbakakfjcmldaa
open Go.RowKit Go.FT

set_option maxHeartbeats 400000 in
theorem refPath_any (A : Option Addr) (c : Nat) (xs : List Nat) (w : World) {B : Nat} (hr : Rd w B A xs) (hx : ∀ x ∈ xs, x < W64) (hn : xs.length ≤ 9223372036854775807) :
    Calls Try.prog 22 #[.slice A xs.length c] w fun e w' => e = .returned (.tuple #[.float .f64 (pathG 0 xs).1, .int .i64 (pathG 0 xs).2]) ∧ w = w' := by
  go_enter Try.func22, Try.ntmps22
  go_wp2_with fail
  go_loop [4, 5] (fun s i => ∃ (k t : Nat), k ≤ xs.length ∧ t ≤ INF ∧ i = .int .i64 k ∧ s = .float .f64 t ∧ Hid (pathG t (xs.drop k) = pathG 0 xs)) (fun _ i => xs.length - (intOf i).toNat)
  case atStart => exact ⟨0, 0, Nat.zero_le _, by omega, rfl, rfl, Lib.hid rfl⟩
  case round =>
    obtain ⟨k, t, hk, ht, rfl, rfl, hp⟩ := hrel
    by_cases hlt : k < xs.length
    · obtain ⟨ad, rfl, hb, hc⟩ := hr k hlt
      have hxk : xs.getD k 0 < W64 := hx _ (by rw [List.getD_eq_getElem?_getD, List.getElem?_eq_getElem hlt]; exact List.getElem_mem hlt)
      have hd := Lib.hid (drop_at 0 xs k hlt)
      generalize xs.getD k 0 = x at *
      have ht' : t < W64 := Nat.lt_of_le_of_lt ht inf_lt
      by_cases he : pe t x = 0
      · go_wp2_with (go_at_call 12; refine (refPlus_any _ _ _ ht' hxk).mono ?_; rintro e w' ⟨rfl, rfl⟩)
        go_round
        case rel => exact ⟨k + 1, _, by omega, pv_le (x := t) (y := x), by go_num, rfl, Lib.hid (by rw [← hp.out, hd.out]; exact (pathG_ok he).symm)⟩
        case measure => simp [intOf]; omega
      · have he2 : (pe t x == 0) = false := by simpa using he
        have hno := Lib.hid (pathG_no (t := xs.drop (k + 1)) he)
        clear he
        go_wp2_with (go_at_call 12; refine (refPlus_any _ _ _ ht' hxk).mono ?_; rintro e w' ⟨rfl, rfl⟩)
        go_ret2
        have hq : pathG 0 xs = (0, pe t x) := by rw [← hp.out, hd.out]; exact hno.out
        exact ⟨tup2 (by rw [hq]) (by rw [hq]), rfl⟩
    · go_wp2
      go_ret2
      have hq : pathG 0 xs = (t, 0) := by rw [← hp.out, List.drop_of_length_le (by omega)]; rfl
      exact ⟨tup2 (by rw [hq]) (by rw [hq]), rfl⟩

theorem neg_fin {x : Nat} (h : x ≤ INF) : (FloatKind.f64.decode x).neg = false := by
  show (D.read x).neg = false
  by_cases e : x = INF
  · subst e; rw [read_inf]; rfl
  · rw [read_fin (by omega)]; rfl
theorem run_max (ts : Array TypeId) (t : TypeId) {x y : Nat} (hx : x ≤ INF) (hy : y ≤ INF) (w : World) :
    (Builtin.max_ ts t #[.float .f64 x, .float .f64 y]).run Try.prog w = .ok (.float .f64 (max x y)) w := by
  have ho : FloatKind.f64.format.order x y = some (compare x y) := order_fin hx hy
  have h1 : (Builtin.max_ ts t #[.float .f64 x, .float .f64 y]) = Builtin.max2 (.float .f64 x) (.float .f64 y) := by
    simp [Builtin.max_]
  rw [h1]
  unfold Builtin.max2
  simp only [ho]
  rw [cmp_nat]
  by_cases a : x < y
  · rw [if_pos a, Nat.max_eq_right (by omega)]; rfl
  · by_cases b : x = y
    · subst b; rw [if_neg a, if_pos rfl, neg_fin hx, Nat.max_self]; rfl
    · rw [if_neg a, if_neg b, Nat.max_eq_left (by omega)]; rfl

def dotG : Nat → List Nat → List Nat → Nat × Int
  | s, x :: a, y :: b => if te x y = 0 then dotG (max s (tv x y)) a b else (0, te x y)
  | s, _, _ => (s, 0)
theorem dotG_ok {s x y : Nat} {a b : List Nat} (h : te x y = 0) : dotG s (x :: a) (y :: b) = dotG (max s (tv x y)) a b := by rw [dotG, if_pos h]
theorem dotG_no {s x y : Nat} {a b : List Nat} (h : ¬ te x y = 0) : dotG s (x :: a) (y :: b) = (0, te x y) := by rw [dotG, if_neg h]
def dotF (a b : List Nat) : Nat × Int := if a.length = b.length then dotG 0 a b else (0, 16)
theorem tv_le {x y : Nat} : tv x y ≤ ONE := by
  unfold tv
  by_cases h : (okB x ONE && okB y ONE) = true
  · rw [if_pos h]
    rw [Bool.and_eq_true] at h
    exact Nat.le_trans (mulR_le (Nat.lt_of_le_of_lt (clr_le h.1) one_lt_inf) (clr_le h.2)) (clr_le h.1)
  · rw [if_neg h]; omega

set_option maxHeartbeats 400000 in
theorem dot_any (A A' : Option Addr) (c c' : Nat) (xs ys : List Nat) (w : World) {B B' : Nat} (hr : Rd w B A xs) (hr' : Rd w B' A' ys) (hx : ∀ x ∈ xs, x < W64) (hy : ∀ x ∈ ys, x < W64) (hn : xs.length ≤ 9223372036854775807) (_hn : ys.length ≤ 9223372036854775807) :
    Calls Try.prog 20 #[.slice A xs.length c, .slice A' ys.length c'] w fun e w' => e = .returned (.tuple #[.float .f64 (dotF xs ys).1, .int .i64 (dotF xs ys).2]) ∧ w = w' := by
  by_cases hl : xs.length = ys.length
  · have hf : Hid (dotF xs ys = dotG 0 xs ys) := Lib.hid (by unfold dotF; rw [if_pos hl])
    have HL := Lib.hid hl
    have hl2 : ((xs.length : Int) == (ys.length : Int)) = true := by rw [hl]; simp
    have hl3 : ((xs.length : Int) != (ys.length : Int)) = false := by rw [hl]; simp
    clear hl
    go_enter Try.func20, Try.ntmps20
    go_wp2_with fail
    go_loop [6, 18] (fun s i => ∃ (k t : Nat), k ≤ xs.length ∧ t ≤ ONE ∧ i = .int .i64 k ∧ s = .float .f64 t ∧ Hid (dotG t (xs.drop k) (ys.drop k) = dotG 0 xs ys)) (fun _ i => xs.length - (intOf i).toNat)
    case atStart => exact ⟨0, 0, Nat.zero_le _, by omega, rfl, rfl, Lib.hid rfl⟩
    case round =>
      obtain ⟨k, t, hk, ht, rfl, rfl, hp⟩ := hrel
      by_cases hlt : k < xs.length
      · obtain ⟨ad, rfl, hb, hc⟩ := hr k hlt
        have hlt' : k < ys.length := by have := HL.out; omega
        obtain ⟨ad', rfl, hb', hc'⟩ := hr' k hlt'
        have hxk : xs.getD k 0 < W64 := hx _ (by rw [List.getD_eq_getElem?_getD, List.getElem?_eq_getElem hlt]; exact List.getElem_mem hlt)
        have hyk : ys.getD k 0 < W64 := hy _ (by rw [List.getD_eq_getElem?_getD, List.getElem?_eq_getElem hlt']; exact List.getElem_mem hlt')
        have hd := Lib.hid (drop_at 0 xs k hlt)
        have hd' := Lib.hid (drop_at 0 ys k hlt')
        generalize xs.getD k 0 = x at *
        generalize ys.getD k 0 = y at *
        by_cases he : te x y = 0
        · have hmx := fun ts T w => run_max ts T (x := t) (y := tv x y) (Nat.le_trans ht (by decide)) (Nat.le_trans tv_le (by decide)) w
          go_wp2_with (go_at_call 9; refine (times_any _ _ _ hxk hyk).mono ?_; rintro e w' ⟨rfl, rfl⟩)
          go_round
          case rel => exact ⟨k + 1, _, by omega, Nat.max_le.2 ⟨ht, tv_le (x := x) (y := y)⟩, by go_num, rfl, Lib.hid (by rw [← hp.out, hd.out, hd'.out]; exact (dotG_ok he).symm)⟩
          case measure => simp [intOf]; omega
        · have he2 : (te x y == 0) = false := by simpa using he
          have hno := Lib.hid (dotG_no (s := t) (a := xs.drop (k + 1)) (b := ys.drop (k + 1)) he)
          clear he
          go_wp2_with (go_at_call 9; refine (times_any _ _ _ hxk hyk).mono ?_; rintro e w' ⟨rfl, rfl⟩)
          go_ret2
          have hq : dotF xs ys = (0, te x y) := by rw [hf.out, ← hp.out, hd.out, hd'.out]; exact hno.out
          exact ⟨tup2 (by rw [hq]) (by rw [hq]), rfl⟩
      · go_wp2
        go_ret2
        have hq : dotF xs ys = (t, 0) := by rw [hf.out, ← hp.out, List.drop_of_length_le (by omega)]; rfl
        exact ⟨tup2 (by rw [hq]) (by rw [hq]), rfl⟩
  · have hf : Hid (dotF xs ys = (0, 16)) := Lib.hid (by unfold dotF; rw [if_neg hl])
    have hl2 : ((xs.length : Int) == (ys.length : Int)) = false := by simp; omega
    have hl3 : ((xs.length : Int) != (ys.length : Int)) = true := by simp; omega
    clear hl
    go_enter Try.func20, Try.ntmps20
    go_wp2_with fail
    go_ret2
    exact ⟨tup2 (by rw [hf.out]) (by rw [hf.out]), rfl⟩

def Quiet (w w' : World) : Prop := ∃ n, w' = w.drewN n
theorem Quiet.drewN {w w' : World} (h : Quiet w w') (n : Nat) : Quiet w (w'.drewN n) := by
  obtain ⟨m, rfl⟩ := h
  exact ⟨m + n, by rw [World.drewN_drewN]⟩
theorem Quiet.rd {w w' : World} {B : Nat} {A : Option Addr} {xs : List Nat} (h : Quiet w w') (hr : Rd w B A xs) : Rd w' B A xs := by
  obtain ⟨m, rfl⟩ := h
  exact hr
set_option maxHeartbeats 400000 in
theorem refDot_any (A A' : Option Addr) (c c' : Nat) (xs ys : List Nat) (w : World) {B B' : Nat} (hr : Rd w B A xs) (hr' : Rd w B' A' ys) (hx : ∀ x ∈ xs, x < W64) (hy : ∀ x ∈ ys, x < W64) (hn : xs.length ≤ 9223372036854775807) (_hn : ys.length ≤ 9223372036854775807) :
    Calls Try.prog 21 #[.slice A xs.length c, .slice A' ys.length c'] w fun e w' => e = .returned (.tuple #[.float .f64 (dotF xs ys).1, .int .i64 (dotF xs ys).2]) ∧ Quiet w w' := by
  by_cases hl : xs.length = ys.length
  · have hf : Hid (dotF xs ys = dotG 0 xs ys) := Lib.hid (by unfold dotF; rw [if_pos hl])
    have HL := Lib.hid hl
    have hl2 : ((xs.length : Int) == (ys.length : Int)) = true := by rw [hl]; simp
    have hl3 : ((xs.length : Int) != (ys.length : Int)) = false := by rw [hl]; simp
    clear hl
    go_enter Try.func21, Try.ntmps21
    go_wp2_with fail
    go_loopw [6, 7] (fun s i wr => ∃ (k t : Nat), Quiet w wr ∧ k ≤ xs.length ∧ t ≤ ONE ∧ i = .int .i64 k ∧ s = .float .f64 t ∧ Hid (dotG t (xs.drop k) (ys.drop k) = dotG 0 xs ys)) (fun _ i _ => xs.length - (intOf i).toNat)
    case atStart => exact ⟨0, 0, ⟨0, rfl⟩, Nat.zero_le _, by omega, rfl, rfl, Lib.hid rfl⟩
    case round =>
      obtain ⟨k, t, hqw, hk, ht, rfl, rfl, hp⟩ := hrel
      by_cases hlt : k < xs.length
      · obtain ⟨ad, rfl, hb, hc⟩ := (hqw.rd hr) k hlt
        have hlt' : k < ys.length := by have := HL.out; omega
        obtain ⟨ad', rfl, hb', hc'⟩ := (hqw.rd hr') k hlt'
        have hxk : xs.getD k 0 < W64 := hx _ (by rw [List.getD_eq_getElem?_getD, List.getElem?_eq_getElem hlt]; exact List.getElem_mem hlt)
        have hyk : ys.getD k 0 < W64 := hy _ (by rw [List.getD_eq_getElem?_getD, List.getElem?_eq_getElem hlt']; exact List.getElem_mem hlt')
        have hd := Lib.hid (drop_at 0 xs k hlt)
        have hd' := Lib.hid (drop_at 0 ys k hlt')
        generalize xs.getD k 0 = x at *
        generalize ys.getD k 0 = y at *
        by_cases he : te x y = 0
        · have hmx := fun ts T w => run_max ts T (x := t) (y := tv x y) (Nat.le_trans ht (by decide)) (Nat.le_trans tv_le (by decide)) w
          go_wp2_with fail
          go_quiet ((go_at_call 10; exact Calls.quiet_of_same ((refTimes_any x y _ hxk hyk).mono fun _ _ h => ⟨h.1, h.2.symm⟩)))
          go_wp2_with fail
          go_roundw
          case rel => exact ⟨k + 1, _, hqw.drewN _, by omega, Nat.max_le.2 ⟨ht, tv_le (x := x) (y := y)⟩, by go_num, rfl, Lib.hid (by rw [← hp.out, hd.out, hd'.out]; exact (dotG_ok he).symm)⟩
          case measure => simp [intOf]; omega
        · have he2 : (te x y == 0) = false := by simpa using he
          have hno := Lib.hid (dotG_no (s := t) (a := xs.drop (k + 1)) (b := ys.drop (k + 1)) he)
          clear he
          go_wp2_with fail
          go_quiet ((go_at_call 10; exact Calls.quiet_of_same ((refTimes_any x y _ hxk hyk).mono fun _ _ h => ⟨h.1, h.2.symm⟩)))
          go_wp2_with fail
          go_ret2
          have hq : dotF xs ys = (0, te x y) := by rw [hf.out, ← hp.out, hd.out, hd'.out]; exact hno.out
          exact ⟨tup2 (by rw [hq]) (by rw [hq]), hqw.drewN _⟩
      · go_wp2
        go_ret2
        have hq : dotF xs ys = (t, 0) := by rw [hf.out, ← hp.out, List.drop_of_length_le (by omega)]; rfl
        exact ⟨tup2 (by rw [hq]) (by rw [hq]), hqw⟩
  · have hf : Hid (dotF xs ys = (0, 16)) := Lib.hid (by unfold dotF; rw [if_neg hl])
    have hl2 : ((xs.length : Int) == (ys.length : Int)) = false := by simp; omega
    have hl3 : ((xs.length : Int) != (ys.length : Int)) = true := by simp; omega
    clear hl
    go_enter Try.func21, Try.ntmps21
    go_wp2_with fail
    go_ret2
    exact ⟨tup2 (by rw [hf.out]) (by rw [hf.out]), ⟨0, rfl⟩⟩

/-! ### Exactness -/
def tr (x : Nat) : Nat := FloatKind.f64.encode ((FloatKind.f64.decode x).integral .zero)
def fl (x : Nat) : Nat := FloatKind.f64.encode ((FloatKind.f64.decode x).integral .down)
theorem run_toIntegral (P : Program) (n : String) (way : Ieee.Toward) (x : Nat) (d : Ieee.Datum) (hd : FloatKind.f64.decode x = d) (h : d.isNaN = false) (w : World) :
    (Extern.MathFloor.toIntegral n way #[.float .f64 x]).run P w = .ok (.float .f64 (FloatKind.f64.encode (d.integral way))) w := by
  have key : ∀ (F : Nat → Sem Value) (G : Array Value → Sem Value), Extern.MathFloor.toIntegral.match_2 (fun _ => Sem Value) #[.float .f64 x] F G = F x := fun _ _ => rfl
  delta Extern.MathFloor.toIntegral
  rw [key]
  delta Extern.MathFloor.toIntegral.match_1
  rw [hd]
  cases d with
  | nan s t => cases h
  | infinity s => rfl
  | number s m i => rfl
theorem ext36 (x : Nat) (h : (FloatKind.f64.decode x).isNaN = false) (w : World) : (callFunc 36 #[.float .f64 x]).run Try.prog w = .ok (.value (.float .f64 (tr x))) w := by
  rw [run_callFunc_extern Try.func36 (by kernel_rfl) (by kernel_rfl) (by kernel_rfl) (e := Extern.MathFloor.toIntegral "math.archTrunc" .zero) (by kernel_rfl), run_toIntegral _ _ _ _ _ rfl h]
  rfl
theorem ext38 (x : Nat) (h : (FloatKind.f64.decode x).isNaN = false) (w : World) : (callFunc 38 #[.float .f64 x]).run Try.prog w = .ok (.value (.float .f64 (fl x))) w := by
  rw [run_callFunc_extern Try.func38 (by kernel_rfl) (by kernel_rfl) (by kernel_rfl) (e := Extern.MathFloor.toIntegral "math.archFloor" .down) (by kernel_rfl), run_toIntegral _ _ _ _ _ rfl h]
  rfl

theorem isInf_any (x : Nat) (w : World) : Calls Try.prog 29 #[.float .f64 x, .int .i64 1] w fun e w' => e = .returned (.bool (FloatKind.f64.format.order x 9218868437227405311 == some .gt)) ∧ w = w' := by
  go_enter Try.func29, Try.ntmps29
  go_wp2_with fail
  go_ret
  exact ⟨rfl, rfl⟩
theorem trunc_any (x : Nat) (h : (FloatKind.f64.decode x).isNaN = false) (w : World) : Calls Try.prog 30 #[.float .f64 x] w fun e w' => e = .returned (.float .f64 (tr x)) ∧ w = w' := by
  have he := ext36 x h
  go_enter Try.func30, Try.ntmps30
  go_wp2
  go_ret
  exact ⟨rfl, rfl⟩
theorem floor_any (x : Nat) (h : (FloatKind.f64.decode x).isNaN = false) (w : World) : Calls Try.prog 31 #[.float .f64 x] w fun e w' => e = .returned (.float .f64 (fl x)) ∧ w = w' := by
  have he := ext38 x h
  go_enter Try.func31, Try.ntmps31
  go_wp2
  go_ret
  exact ⟨rfl, rfl⟩

/-- What 'Exact' asks of one number, as the program asks it, and as the reference does. -/
def exB (x : Nat) : Bool := (FloatKind.f64.format.order x 0 == some .gt || FloatKind.f64.format.order x 0 == some .eq) && (FloatKind.f64.format.order x 9218868437227405311 == some .gt || (!(FloatKind.f64.format.order x 4787326403894837248 == some .gt) && !(FloatKind.f64.format.order x (tr x) != some .eq)))
def exR (x : Nat) : Bool := okB x INF && !((FloatKind.f64.format.order (clr x) 4787326403894837248 == some .lt || FloatKind.f64.format.order (clr x) 4787326403894837248 == some .eq) && (FloatKind.f64.format.order (fl (clr x)) (clr x) != some .eq)) && !((FloatKind.f64.format.order (clr x) 4787326403894837248 == some .gt) && (FloatKind.f64.format.order (clr x) INF == some .lt))
def exL (xs : List Nat) : Bool := decide (xs.length ≤ 1000) && xs.all exB

set_option maxHeartbeats 1000000 in
theorem exact_any (A : Option Addr) (c : Nat) (xs : List Nat) (w : World) {B : Nat} (hr : Rd w B A xs) (hx : ∀ x ∈ xs, x < W64) :
    Calls Try.prog 17 #[.slice A xs.length c] w fun e w' => e = .returned (.bool (exL xs)) ∧ w = w' := by
  by_cases hl : xs.length ≤ 1000
  · have hf : Hid (exL xs = xs.all exB) := Lib.hid (by unfold exL; rw [decide_eq_true hl]; rfl)
    go_enter Try.func17, Try.ntmps17
    go_wp2_with fail
    go_loop [10] (fun i => ∃ (k : Nat), k ≤ xs.length ∧ i = .int .i64 k ∧ Hid ((xs.drop k).all exB = xs.all exB)) (fun i => xs.length - (intOf i).toNat)
    case atStart => exact ⟨0, Nat.zero_le _, rfl, Lib.hid rfl⟩
    case round =>
      obtain ⟨k, hk, rfl, hp⟩ := hrel
      by_cases hlt : k < xs.length
      · obtain ⟨ad, rfl, hb, hc⟩ := hr k hlt
        have hxk : xs.getD k 0 < W64 := hx _ (by rw [List.getD_eq_getElem?_getD, List.getElem?_eq_getElem hlt]; exact List.getElem_mem hlt)
        have hd := Lib.hid (drop_at 0 xs k hlt)
        generalize xs.getD k 0 = x at *
        have hq := hp.out
        rw [hd.out, List.all_cons] at hq
        have HQ := Lib.hid hq
        clear hq
        have hdef : Hid (exB x = _) := Lib.hid (exB.eq_1 x)
        cases h1 : (FloatKind.f64.format.order x 0 == some .gt || FloatKind.f64.format.order x 0 == some .eq) with
        | false =>
          have hE : exB x = false := by rw [hdef.out, h1]; rfl
          have HE := Lib.hid hE
          clear hE
          go_wp2_with fail
          go_ret
          exact ⟨by rw [hf.out, ← HQ.out, HE.out]; rfl, rfl⟩
        | true =>
          have hnan : (FloatKind.f64.decode x).isNaN = false := by
            by_cases e : (FloatKind.f64.decode x).isNaN = true
            · have : FloatKind.f64.format.order x 0 = none := order_nan_left e
              rw [this] at h1; simp at h1
            · simpa using e
          cases h2 : (FloatKind.f64.format.order x 9218868437227405311 == some .gt) with
          | true =>
            have HE := Lib.hid (show exB x = true by rw [hdef.out, h1, h2]; rfl)
            go_wp2_with (first | (go_at_call 29; refine (isInf_any _ _).mono ?_; rintro e w' ⟨rfl, rfl⟩) | (go_at_call 30; refine (trunc_any _ hnan _).mono ?_; rintro e w' ⟨rfl, rfl⟩))
            go_round
            case rel => exact ⟨k + 1, by omega, by go_num, Lib.hid (by rw [← HQ.out, HE.out]; rfl)⟩
            case measure => simp [intOf]; omega
          | false =>
            cases h3 : (FloatKind.f64.format.order x 4787326403894837248 == some .gt) with
            | true =>
              have HE := Lib.hid (show exB x = false by rw [hdef.out, h1, h2, h3]; rfl)
              go_wp2_with (first | (go_at_call 29; refine (isInf_any _ _).mono ?_; rintro e w' ⟨rfl, rfl⟩) | (go_at_call 30; refine (trunc_any _ hnan _).mono ?_; rintro e w' ⟨rfl, rfl⟩))
              go_ret
              exact ⟨by rw [hf.out, ← HQ.out, HE.out]; rfl, rfl⟩
            | false =>
              cases h4 : (FloatKind.f64.format.order x (tr x) != some .eq) with
              | true =>
                have HE := Lib.hid (show exB x = false by rw [hdef.out, h1, h2, h3, h4]; rfl)
                go_wp2_with (first | (go_at_call 29; refine (isInf_any _ _).mono ?_; rintro e w' ⟨rfl, rfl⟩) | (go_at_call 30; refine (trunc_any _ hnan _).mono ?_; rintro e w' ⟨rfl, rfl⟩))
                go_ret
                exact ⟨by rw [hf.out, ← HQ.out, HE.out]; rfl, rfl⟩
              | false =>
                have HE := Lib.hid (show exB x = true by rw [hdef.out, h1, h2, h3, h4]; rfl)
                go_wp2_with (first | (go_at_call 29; refine (isInf_any _ _).mono ?_; rintro e w' ⟨rfl, rfl⟩) | (go_at_call 30; refine (trunc_any _ hnan _).mono ?_; rintro e w' ⟨rfl, rfl⟩))
                go_round
                case rel => exact ⟨k + 1, by omega, by go_num, Lib.hid (by rw [← HQ.out, HE.out]; rfl)⟩
                case measure => simp [intOf]; omega
      · go_wp2
        go_ret
        have hq : xs.all exB = true := by rw [← hp.out, List.drop_of_length_le (by omega)]; rfl
        exact ⟨by rw [hf.out, hq]; rfl, rfl⟩
  · have hf : Hid (exL xs = false) := Lib.hid (by unfold exL; rw [decide_eq_false hl]; rfl)
    go_enter Try.func17, Try.ntmps17
    go_wp2_with fail
    go_ret
    exact ⟨by rw [hf.out]; rfl, rfl⟩
end Go.Proofs.Ytlbakakfjcmldaa
