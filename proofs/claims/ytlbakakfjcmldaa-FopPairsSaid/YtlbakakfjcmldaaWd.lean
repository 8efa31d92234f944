/- The walks of the reference's exactness, of sameness, and the awake test. Conditions: the slice can be read, its numbers are doubles. -/
import Derived.Test.YtlbakakfjcmldaaWc
namespace Go.Proofs.Ytlbakakfjcmldaa
open Go.RowKit Go.FT

theorem of_inf (w : World) : Calls Try.prog 15 #[.int .u64 9218868437227405312] w fun e w' => e = .returned (.float .f64 INF) ∧ w = w' := by
  have h : (FloatKind.f64.format.order INF INF != some .eq) = false := by decide +kernel
  go_enter Try.func15, Try.ntmps15
  go_wp2
  go_ret
  exact ⟨rfl, rfl⟩

theorem bits_any (x : Nat) (w : World) : Calls Try.prog 27 #[.float .f64 x] w fun e w' => e = .returned (.int .u64 (bitsF x)) ∧ w = w' := by
  cases h : (FloatKind.f64.format.order x x != some .eq) with
  | true =>
    have hb : bitsF x = NAN := by
      have h' : (D.order x x != some .eq) = true := h
      have : (D.order x x == some .eq) = false := by simpa using h'
      unfold bitsF; rw [this]; rfl
    have HB := Lib.hid hb
    clear hb
    go_enter Try.func27, Try.ntmps27
    go_wp2
    go_ret
    exact ⟨by rw [HB.out]; rfl, rfl⟩
  | false =>
    have hb : bitsF x = x := by
      have h' : (D.order x x != some .eq) = false := h
      have : (D.order x x == some .eq) = true := by simpa using h'
      unfold bitsF; rw [if_pos this]
    have HB := Lib.hid hb
    clear hb
    go_enter Try.func27, Try.ntmps27
    go_wp2
    go_ret
    exact ⟨by rw [HB.out]; rfl, rfl⟩

def sameF (x y : Nat) : Bool := (bitsF x : Int) == (bitsF y : Int)
theorem sameF_refl (x : Nat) : sameF x x = true := by unfold sameF; simp
theorem same_any (x y : Nat) (w : World) : Calls Try.prog 13 #[.float .f64 x, .float .f64 y] w fun e w' => e = .returned (.bool (sameF x y)) ∧ w = w' := by
  go_enter Try.func13, Try.ntmps13
  go_wp2_with (go_at_call 27; refine (bits_any _ _).mono ?_; rintro e w' ⟨rfl, rfl⟩)
  go_ret
  exact ⟨rfl, rfl⟩

theorem small_any (A : Option Addr) (n c : Nat) (w : World) : Calls Try.prog 18 #[.slice A n c] w fun e w' => e = .returned (.bool (decide ((n : Int) ≤ 200))) ∧ w = w' := by
  go_enter Try.func18, Try.ntmps18
  go_wp2
  go_ret
  exact ⟨rfl, rfl⟩

def exRL (xs : List Nat) : Bool := decide (xs.length ≤ 1000) && xs.all exR

theorem fin_notnan {x : Nat} (h : x ≤ INF) : (FloatKind.f64.decode x).isNaN = false := by
  show (D.read x).isNaN = false
  by_cases e : x = INF
  · subst e; rw [read_inf]; rfl
  · rw [read_fin (by omega)]; rfl

set_option maxHeartbeats 1000000 in
theorem refExact_any (A : Option Addr) (c : Nat) (xs : List Nat) (w : World) {B : Nat} (hr : Rd w B A xs) (hx : ∀ x ∈ xs, x < W64) (hn : xs.length ≤ 9223372036854775807) :
    Calls Try.prog 23 #[.slice A xs.length c] w fun e w' => e = .returned (.bool (exRL xs)) ∧ w = w' := by
  go_enter Try.func23, Try.ntmps23
  go_wp2_with fail
  go_loop [3] (fun i => ∃ (k : Nat), k ≤ xs.length ∧ i = .int .i64 k ∧ Hid ((xs.drop k).all exR = xs.all exR)) (fun i => xs.length - (intOf i).toNat)
  case atStart => exact ⟨0, Nat.zero_le _, rfl, Lib.hid rfl⟩
  case round =>
    obtain ⟨k, hk, rfl, hp⟩ := hrel
    by_cases hlt : k < xs.length
    · obtain ⟨ad, rfl, hb, hc⟩ := hr k hlt
      have hxk : xs.getD k 0 < W64 := hx _ (by rw [List.getD_eq_getElem?_getD, List.getElem?_eq_getElem hlt]; exact List.getElem_mem hlt)
      have hd := Lib.hid (drop_at 0 xs k hlt)
      generalize xs.getD k 0 = x at *
      have hq := hp.out
      rw [hd.out, List.all_cons] at hq
      have HQ := Lib.hid hq
      clear hq
      cases h0 : okB x INF with
      | false =>
        have e1 := we_no h0
        have HE := Lib.hid (show exRL xs = false by unfold exRL; rw [← HQ.out]; unfold exR; rw [h0]; simp)
        go_wp2_with (go_at_call 19; refine (refPrice_any _ _ hxk).mono ?_; rintro e w' ⟨rfl, rfl⟩)
        go_ret
        exact ⟨by rw [HE.out]; rfl, rfl⟩
      | true =>
        have e1 := we_yes h0
        have e2 := wv_yes h0
        have hle := clr_le h0
        have hnan := fin_notnan hle
        have hdef : Hid (exR x = (!((FloatKind.f64.format.order (clr x) 4787326403894837248 == some .lt || FloatKind.f64.format.order (clr x) 4787326403894837248 == some .eq) && (FloatKind.f64.format.order (fl (clr x)) (clr x) != some .eq)) && !((FloatKind.f64.format.order (clr x) 4787326403894837248 == some .gt) && (FloatKind.f64.format.order (clr x) INF == some .lt)))) := Lib.hid (by unfold exR; rw [h0, Bool.true_and])
        clear hle
        generalize clr x = y at *
        cases h2 : (FloatKind.f64.format.order y 4787326403894837248 == some .lt || FloatKind.f64.format.order y 4787326403894837248 == some .eq) <;>
        cases h3 : (FloatKind.f64.format.order (fl y) y != some .eq) <;>
        cases h4 : (FloatKind.f64.format.order y 4787326403894837248 == some .gt) <;>
        cases h5 : (FloatKind.f64.format.order y 9218868437227405312 == some .lt)
        all_goals
          have hv := hdef.out
          rw [h2, h3, h4, show (FloatKind.f64.format.order y INF == some .lt) = _ from h5] at hv
          have HE := Lib.hid hv
          clear hv hdef
          go_wp2_with (first | (go_at_call 19; refine (refPrice_any _ _ hxk).mono ?_; rintro e w' ⟨rfl, rfl⟩) | (go_at_call 31; refine (floor_any _ hnan _).mono ?_; rintro e w' ⟨rfl, rfl⟩) | (go_at_call 15; refine (of_inf _).mono ?_; rintro e w' ⟨rfl, rfl⟩))
          first
          | (go_round
             case rel => exact ⟨k + 1, by omega, by go_num, Lib.hid (by rw [← HQ.out, HE.out]; rfl)⟩
             case measure => simp [intOf]; omega)
          | (go_ret
             have hf : exRL xs = false := by unfold exRL; rw [← HQ.out, HE.out]; simp
             exact ⟨by rw [hf]; rfl, rfl⟩)
    · go_wp2
      go_ret
      have hq : xs.all exR = true := by rw [← hp.out, List.drop_of_length_le (by omega)]; rfl
      have hf : exRL xs = decide ((xs.length : Int) ≤ 1000) := by
        unfold exRL; rw [hq, Bool.and_true]; exact decide_eq_decide.2 (by omega)
      exact ⟨by rw [hf]; rfl, rfl⟩

theorem aw1 : tv 4602678819172646912 4602678819172646912 = 4598175219545276416 := by decide +kernel
theorem aw2 : te 4602678819172646912 4602678819172646912 = 0 := by decide +kernel
theorem aw3 : pe 13830554455654793216 0 = 16 := by decide +kernel
theorem aw4 : exL [4607182418800017408, 4611686018427387904] = true := by decide +kernel
theorem aw5 : (FloatKind.f64.format.order 4598175219545276416 4598175219545276416 == some .eq) = true := by decide +kernel

theorem two_read (w : World) (a b : Nat) (t : TypeId) : Rd (w.alloc (.cells #[.float .f64 a, .float .f64 b] t)) (w.alloc (.cells #[.float .f64 a, .float .f64 b] t)).heap.size (some ⟨w.heap.size, 0, none⟩) [a, b] :=
  Rd.of_cells (by simp) (cell_two_new w _ _ t)
set_option maxHeartbeats 1000000 in
theorem awake_any (w : World) : Calls Try.prog 14 #[] w fun e w' => e = .returned (.bool true) ∧ Below w.heap.size w w' := by
  have h2 := aw2
  have h3 := aw3
  have h1 := aw1
  have h5 := aw5
  have h4 := aw4
  go_enter Try.func14, Try.ntmps14
  go_wp2_with (first | (go_at_call 9; refine (times_any _ _ _ (by decide) (by decide)).mono ?_; rintro e w' ⟨rfl, rfl⟩) | (go_at_call 11; refine (plus_any _ _ _ (by decide) (by decide)).mono ?_; rintro e w' ⟨rfl, rfl⟩) | (go_at_call 17; refine (exact_any _ _ [4607182418800017408, 4611686018427387904] _ (two_read w _ _ _) (by decide)).mono ?_; rintro e w' ⟨rfl, rfl⟩))
  go_ret
  exact ⟨rfl, (Below.refl _ _).alloc (Nat.le_refl _) _⟩
end Go.Proofs.Ytlbakakfjcmldaa
