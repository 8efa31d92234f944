/- Whether nothing is rounded: the document's Exact, the law's own. Conditions: the values can be read, and may be. -/
import Derived.Test.YtdkmmnehlmaebaaGreatDoorRf
namespace Go.Proofs.YtdkmmnehlmaebaaGreatDoor.Se
open Go.RowKit Go.NT Go.FT Go.FX Go.Lib Na

/-- A slice of doubles that reads as a list: below block B; what is asked of it is told at an index. -/
def Rd (w : World) (B : Nat) (A : Option Addr) (xs : List Nat) : Prop :=
  ∀ k, k < xs.length → ∃ ad, A = some ad ∧ ad.block < B ∧ w.cell? (ad.add k) = some (.float .f64 (xs.getD k 0))
theorem Rd.keep {w w' : World} {B : Nat} {A : Option Addr} {xs : List Nat} (h : Rd w B A xs) (hk : ∀ p : Addr, p.block < B → w'.cell? p = w.cell? p) : Rd w' B A xs := by
  intro k hlt
  obtain ⟨ad, e, hb, hc⟩ := h k hlt
  refine ⟨ad, e, hb, ?_⟩
  rw [hk _ (by unfold Addr.add; split <;> exact hb)]
  exact hc
theorem Rd.below {w w' : World} {B : Nat} {A : Option Addr} {xs : List Nat} (h : Rd w B A xs) (hb : Below B w w') : Rd w' B A xs := h.keep fun _ hp => hb.cell hp

theorem Rd.of_cells {w : World} {B : Nat} {ad : Addr} {xs : List Nat} (hb : ad.block < B) (h : ∀ j u, (xs.map (Value.float .f64))[j]? = some u → w.cell? (ad.add j) = some u) : Rd w B (some ad) xs := by
  intro k hk
  refine ⟨ad, rfl, hb, h k _ ?_⟩
  rw [List.getElem?_map, List.getElem?_eq_getElem hk, List.getD_eq_getElem?_getD, List.getElem?_eq_getElem hk]; rfl
theorem drop_at {α : Type} (d : α) (xs : List α) (k : Nat) (h : k < xs.length) : xs.drop k = xs.getD k d :: xs.drop (k + 1) := by
  rw [List.drop_eq_getElem_cons h, List.getD_eq_getElem?_getD, List.getElem?_eq_getElem h, Option.getD_some]
theorem run_toIntegral (P : Program) (n : String) (way : Ieee.Toward) (x : Nat) (d : Ieee.Datum) (hd : FloatKind.f64.decode x = d) (h : d.isNaN = false) (w : World) :
    (Extern.MathFloor.toIntegral n way #[.float .f64 x]).run P w = .ok (.float .f64 (FloatKind.f64.encode (d.integral way))) w := by
  have key : ∀ (F : Nat → Sem Value) (G : Array Value → Sem Value), Extern.MathFloor.toIntegral.match_2 (fun _ => Sem Value) #[.float .f64 x] F G = F x := fun _ _ => rfl
  delta Extern.MathFloor.toIntegral
  rw [key]
  delta Extern.MathFloor.toIntegral.match_1
  rw [hd]
  cases d with
  | nan s t => cases h
  | infinity s => rfl
  | number s m i => rfl
theorem extFloor (x : Nat) (h : (FloatKind.f64.decode x).isNaN = false) (w : World) : (callFunc 100 #[.float .f64 x]).run Tryz.prog w = .ok (.value (.float .f64 (fl x))) w := by
  rw [run_callFunc_extern Tryz.func100 (by kernel_rfl) (by kernel_rfl) (by kernel_rfl) (e := Extern.MathFloor.toIntegral "math.archFloor" .down) (by kernel_rfl), run_toIntegral _ _ _ _ _ rfl h]
  rfl
theorem floor_any (x : Nat) (h : (FloatKind.f64.decode x).isNaN = false) (w : World) : Calls Tryz.prog 80 #[.float .f64 x] w fun e w' => e = .returned (.float .f64 (fl x)) ∧ w = w' := by
  have he := extFloor x h
  go_enter Tryz.func80, Tryz.ntmps80
  go_wp2
  go_ret
  exact ⟨rfl, rfl⟩
def exR (x : Nat) : Bool := okB x INF && !((FloatKind.f64.format.order (clr x) 4787326403894837248 == some .lt || FloatKind.f64.format.order (clr x) 4787326403894837248 == some .eq) && (FloatKind.f64.format.order (fl (clr x)) (clr x) != some .eq)) && !((FloatKind.f64.format.order (clr x) 4787326403894837248 == some .gt) && (FloatKind.f64.format.order (clr x) INF == some .lt))
def exRL (xs : List Nat) : Bool := decide (xs.length ≤ 1000) && xs.all exR
theorem fin_notnan {x : Nat} (h : x ≤ INF) : (FloatKind.f64.decode x).isNaN = false := by
  show (D.read x).isNaN = false
  by_cases e : x = INF
  · subst e; rw [read_inf]; rfl
  · rw [read_fin (by omega)]; rfl
set_option maxHeartbeats 1000000 in
theorem refExact_any (A : Option Addr) (c : Nat) (xs : List Nat) (w : World) {B : Nat} (hr : Rd w B A xs) (hx : ∀ x ∈ xs, x < W64) (hn : xs.length ≤ 9223372036854775807) :
    Calls Tryz.prog 58 #[.slice A xs.length c] w fun e w' => e = .returned (.bool (exRL xs)) ∧ w = w' := by
  go_enter Tryz.func58, Tryz.ntmps58
  go_wp2_with fail
  go_loop [3] (fun i => ∃ (k : Nat), k ≤ xs.length ∧ i = .int .i64 k ∧ Hid ((xs.drop k).all exR = xs.all exR)) (fun i => xs.length - (RowKit.intOf i).toNat)
  case atStart => exact ⟨0, Nat.zero_le _, rfl, Lib.hid rfl⟩
  case round =>
    obtain ⟨k, hk, rfl, hp⟩ := hrel
    by_cases hlt : k < xs.length
    · obtain ⟨ad, rfl, hb, hc⟩ := hr k hlt
      have hxk : xs.getD k 0 < W64 := hx _ (by rw [List.getD_eq_getElem?_getD, List.getElem?_eq_getElem hlt]; exact List.getElem_mem hlt)
      have hd := Lib.hid (drop_at 0 xs k hlt)
      generalize xs.getD k 0 = x at *
      have hq := hp.out
      rw [hd.out, List.all_cons] at hq
      have HQ := Lib.hid hq
      clear hq
      cases h0 : okB x INF with
      | false =>
        have e1 := we_no h0
        have HE := Lib.hid (show exRL xs = false by unfold exRL; rw [← HQ.out]; unfold exR; rw [h0]; simp)
        go_wp2_with (go_at_call 79; refine (refPrice_any _ _ hxk).mono ?_; rintro e w' ⟨rfl, rfl⟩)
        go_ret
        exact ⟨by rw [HE.out]; rfl, rfl⟩
      | true =>
        have e1 := we_yes h0
        have e2 := wv_yes h0
        have hle := clr_le h0
        have hnan := fin_notnan hle
        have hdef : Hid (exR x = (!((FloatKind.f64.format.order (clr x) 4787326403894837248 == some .lt || FloatKind.f64.format.order (clr x) 4787326403894837248 == some .eq) && (FloatKind.f64.format.order (fl (clr x)) (clr x) != some .eq)) && !((FloatKind.f64.format.order (clr x) 4787326403894837248 == some .gt) && (FloatKind.f64.format.order (clr x) INF == some .lt)))) := Lib.hid (by unfold exR; rw [h0, Bool.true_and])
        clear hle
        generalize clr x = y at *
        cases h2 : (FloatKind.f64.format.order y 4787326403894837248 == some .lt || FloatKind.f64.format.order y 4787326403894837248 == some .eq) <;>
        cases h3 : (FloatKind.f64.format.order (fl y) y != some .eq) <;>
        cases h4 : (FloatKind.f64.format.order y 4787326403894837248 == some .gt) <;>
        cases h5 : (FloatKind.f64.format.order y 9218868437227405312 == some .lt)
        all_goals
          have hv := hdef.out
          rw [h2, h3, h4, show (FloatKind.f64.format.order y INF == some .lt) = _ from h5] at hv
          have HE := Lib.hid hv
          clear hv hdef
          go_wp2_with (first | (go_at_call 79; refine (refPrice_any _ _ hxk).mono ?_; rintro e w' ⟨rfl, rfl⟩) | (go_at_call 80; refine (floor_any _ hnan _).mono ?_; rintro e w' ⟨rfl, rfl⟩) | (go_at_call 34; refine (rof_INF _).mono ?_; rintro e w' ⟨rfl, rfl⟩))
          first
          | (go_round
             case rel => exact ⟨k + 1, by omega, by go_num, Lib.hid (by rw [← HQ.out, HE.out]; rfl)⟩
             case measure => simp [RowKit.intOf]; omega)
          | (go_ret
             have hf : exRL xs = false := by unfold exRL; rw [← HQ.out, HE.out]; simp
             exact ⟨by rw [hf]; rfl, rfl⟩)
    · go_wp2
      go_ret
      have hq : xs.all exR = true := by rw [← hp.out, List.drop_of_length_le (by omega)]; rfl
      have hf : exRL xs = decide ((xs.length : Int) ≤ 1000) := by
        unfold exRL; rw [hq, Bool.and_true]; exact decide_eq_decide.2 (by omega)
      exact ⟨by rw [hf]; rfl, rfl⟩
theorem cmp_gt (a b : Nat) : ((some (compare a b) : Option Ordering) == some .gt) = decide (b < a) := by
  rw [cmp_nat]
  by_cases h : a < b
  · rw [if_pos h, decide_eq_false (by omega)]; rfl
  · by_cases h' : a = b
    · rw [if_neg h, if_pos h', decide_eq_false (by omega)]; rfl
    · rw [if_neg h, if_neg h', decide_eq_true (by omega)]; rfl
theorem cmp_lt (a b : Nat) : ((some (compare a b) : Option Ordering) == some .lt) = decide (a < b) := by
  rw [cmp_nat]
  by_cases h : a < b
  · rw [if_pos h, decide_eq_true h]; rfl
  · by_cases h' : a = b
    · rw [if_neg h, if_pos h', decide_eq_false h]; rfl
    · rw [if_neg h, if_neg h', decide_eq_false h]; rfl
theorem cmp_eq (a b : Nat) : ((some (compare a b) : Option Ordering) == some .eq) = decide (a = b) := by
  rw [cmp_nat]
  by_cases h : a < b
  · rw [if_pos h, decide_eq_false (by omega)]; rfl
  · by_cases h' : a = b
    · rw [if_neg h, if_pos h', decide_eq_true h']; rfl
    · rw [if_neg h, if_neg h', decide_eq_false h']; rfl
theorem cmp_ne (a b : Nat) : ((some (compare a b) : Option Ordering) != some .eq) = decide (a ≠ b) := by
  unfold bne; rw [cmp_eq]; by_cases h : a = b <;> simp [h]
theorem exR_E {x : Nat} (hx : x ≤ INF) (h : exR x = true) : ∃ o : Option Nat, (∀ n, o = some n → n ≤ M40) ∧ x = E o := by
  by_cases e : x = INF
  · exact ⟨none, fun _ h => (by cases h), e⟩
  · have hT : T40 < INF := by decide
    obtain ⟨k1, k2⟩ := clr_of hx (Nat.le_refl INF)
    unfold exR at h
    rw [k1, k2, Bool.true_and, Bool.and_eq_true] at h
    obtain ⟨h1, h2⟩ := h
    have o1 : FloatKind.f64.format.order x T40 = some (compare x T40) := order_fin hx (by decide)
    have o2 : FloatKind.f64.format.order x INF = some (compare x INF) := order_fin hx (Nat.le_refl _)
    obtain ⟨q, hq⟩ := fl_F (r := x) (by omega)
    have hfl : fl x ≤ INF := by rw [hq]; exact nearest_le_inf _ _
    have o3 : FloatKind.f64.format.order (fl x) x = some (compare (fl x) x) := order_fin hfl hx
    have t1 : (FloatKind.f64.format.order x 4787326403894837248) = some (compare x T40) := o1
    rw [t1, o3, cmp_lt, cmp_eq, cmp_ne] at h1
    rw [t1, o2, cmp_gt, cmp_lt] at h2
    by_cases hle : x ≤ T40
    · have hfx : fl x = x := by
        by_cases he : fl x = x
        · exact he
        · rw [decide_eq_true he] at h1
          have : (decide (x < T40) || decide (x = T40)) = true := by
            rw [Bool.or_eq_true, decide_eq_true_iff, decide_eq_true_iff]; omega
          rw [this] at h1; cases h1
      obtain ⟨n, hn, hxn⟩ := fl_E hle hfx
      exact ⟨some n, fun k hk => (by injection hk with hk; omega), hxn⟩
    · rw [decide_eq_true (by omega : T40 < x), decide_eq_true (by omega : x < INF)] at h2
      cases h2
theorem ex_prices {x y z : Nat} (hx : x ≤ INF) (hy : y ≤ INF) (hz : z ≤ INF) (h : exRL [x, y, z] = true) : addR x (addR y z) = addR (addR x y) z := by
  unfold exRL at h
  rw [Bool.and_eq_true] at h
  have h2 := List.all_eq_true.1 h.2
  obtain ⟨o1, k1, e1⟩ := exR_E hx (h2 x (by simp))
  obtain ⟨o2, k2, e2⟩ := exR_E hy (h2 y (by simp))
  obtain ⟨o3, k3, e3⟩ := exR_E hz (h2 z (by simp))
  rw [e1, e2, e3]
  exact E_addR_assoc k1 k2 k3
end Go.Proofs.YtdkmmnehlmaebaaGreatDoor.Se
