/- The program's exactness is the reference's, number by number; a slice of doubles that came in, opened. Condition: a double has 64 bits. -/
import Derived.Test.YtlbakakfjcmldaaWg
import Derived.Test.YtlbakakfjcmldaaWh
import Derived.Test.YtlbakakfjcmldaaWf
namespace Go.Proofs.Ytlbakakfjcmldaa
open Go.RowKit Go.FT Go.ChangeShapes Go.WideShapes

theorem w64_of {x : Nat} (h : (Lit.float .f64 x).wf = true) : x < W64 := by simpa [Lit.wf] using h

theorem cut_down (n d : Nat) : Ieee.Toward.cut .down false n d = Ieee.Toward.cut .zero false n d := by
  unfold Ieee.Toward.cut; simp
theorem tr_fl {y : Nat} (h : y ≤ INF) : fl y = tr y := by
  unfold fl tr
  show FloatKind.f64.encode (Ieee.Datum.integral .down (D.read y)) = FloatKind.f64.encode (Ieee.Datum.integral .zero (D.read y))
  by_cases e : y = INF
  · subst e; rw [read_inf]; rfl
  · rw [read_fin (by omega)]; unfold Ieee.Datum.integral; simp only [cut_down]
theorem tr_le {y : Nat} (h : y ≤ INF) : tr y ≤ INF := by
  unfold tr
  show D.write (Ieee.Datum.integral .zero (D.read y)) ≤ INF
  by_cases e : y = INF
  · subst e; rw [read_inf]; decide
  · rw [read_fin (by omega)]; exact nearest_le_inf _ _
theorem tr_sgn : tr SGN = SGN := by decide +kernel

theorem cmp_gt (a b : Nat) : ((some (compare a b) : Option Ordering) == some .gt) = decide (b < a) := by
  rw [cmp_nat]
  by_cases h : a < b
  · rw [if_pos h, decide_eq_false (by omega)]; rfl
  · by_cases h' : a = b
    · rw [if_neg h, if_pos h', decide_eq_false (by omega)]; rfl
    · rw [if_neg h, if_neg h', decide_eq_true (by omega)]; rfl
theorem cmp_lt (a b : Nat) : ((some (compare a b) : Option Ordering) == some .lt) = decide (a < b) := by
  rw [cmp_nat]
  by_cases h : a < b
  · rw [if_pos h, decide_eq_true h]; rfl
  · by_cases h' : a = b
    · rw [if_neg h, if_pos h', decide_eq_false h]; rfl
    · rw [if_neg h, if_neg h', decide_eq_false h]; rfl
theorem cmp_eq (a b : Nat) : ((some (compare a b) : Option Ordering) == some .eq) = decide (a = b) := by
  rw [cmp_nat]
  by_cases h : a < b
  · rw [if_pos h, decide_eq_false (by omega)]; rfl
  · by_cases h' : a = b
    · rw [if_neg h, if_pos h', decide_eq_true h']; rfl
    · rw [if_neg h, if_neg h', decide_eq_false h']; rfl
theorem cmp_ne (a b : Nat) : ((some (compare a b) : Option Ordering) != some .eq) = decide (a ≠ b) := by
  unfold bne; rw [cmp_eq]; by_cases h : a = b <;> simp [h]

abbrev T40 : Nat := 4787326403894837248
abbrev MAXF : Nat := 9218868437227405311
theorem ex_same {x : Nat} (hx : x < W64) : exB x = exR x := by
  have h0 : (FloatKind.f64.format.order x 0 == some .gt || FloatKind.f64.format.order x 0 == some .eq) = okB x INF := ge_zero hx
  unfold exB exR
  rw [h0]
  cases ho : okB x INF with
  | false => simp
  | true =>
    have hy := clr_le ho
    have e1 : FloatKind.f64.format.order x MAXF = some (compare (clr x) MAXF) := order_clr_left ho (by decide)
    have e2 : FloatKind.f64.format.order x T40 = some (compare (clr x) T40) := order_clr_left ho (by decide)
    have e3 : FloatKind.f64.format.order (clr x) T40 = some (compare (clr x) T40) := order_fin hy (by decide)
    have e4 : FloatKind.f64.format.order (clr x) INF = some (compare (clr x) INF) := order_fin hy (by decide)
    have e5 : FloatKind.f64.format.order (fl (clr x)) (clr x) = some (compare (fl (clr x)) (clr x)) := order_fin (by rw [tr_fl hy]; exact tr_le hy) hy
    have e6 : (FloatKind.f64.format.order x (tr x) != some .eq) = decide (tr (clr x) ≠ clr x) := by
      by_cases es : x = SGN
      · subst es
        rw [tr_sgn]
        have : FloatKind.f64.format.order SGN SGN = some .eq := order_sgn_sgn
        rw [this]
        decide +kernel
      · have ec : clr x = x := by unfold clr; rw [if_neg es]
        have : FloatKind.f64.format.order x (tr x) = some (compare x (tr x)) := order_fin (by omega) (tr_le (by omega))
        rw [this, ec, cmp_ne]
        exact decide_eq_decide.2 ⟨fun h e => h e.symm, fun h e => h e.symm⟩
    rw [show FloatKind.f64.format.order x 9218868437227405311 = _ from e1, show FloatKind.f64.format.order x 4787326403894837248 = _ from e2, show FloatKind.f64.format.order (clr x) 4787326403894837248 = _ from e3, e4, e5, e6, cmp_gt, cmp_gt, cmp_lt, cmp_eq, cmp_ne, cmp_lt, tr_fl hy]
    generalize clr x = y at *
    have hM : MAXF + 1 = INF := rfl
    have hT : T40 < MAXF := by decide
    have b1 : decide (MAXF < y) = decide (y = INF) := decide_eq_decide.2 (by omega)
    have b2 : (decide (y < T40) || decide (y = T40)) = !decide (T40 < y) := by
      by_cases a : T40 < y
      · rw [decide_eq_true a, decide_eq_false (by omega), decide_eq_false (by omega)]; rfl
      · rw [decide_eq_false a]
        by_cases b : y = T40
        · rw [decide_eq_true b]; simp
        · rw [decide_eq_true (by omega : y < T40)]; rfl
    have b3 : decide (y < INF) = !decide (y = INF) := by
      by_cases a : y = INF
      · rw [decide_eq_true a, decide_eq_false (by omega)]; rfl
      · rw [decide_eq_false a, decide_eq_true (by omega)]; rfl
    have b4 : y = INF → decide (T40 < y) = true := fun a => decide_eq_true (by omega)
    rw [b1, b2, b3]
    by_cases a : y = INF
    · rw [b4 a, decide_eq_true a]; simp
    · rw [decide_eq_false a]
      cases decide (T40 < y) <;> cases decide (tr y ≠ y) <;> rfl

theorem exL_same {xs : List Nat} (h : ∀ x ∈ xs, x < W64) : exRL xs = exL xs := by
  unfold exRL exL
  congr 1
  induction xs with
  | nil => rfl
  | cons a t ih =>
    rw [List.all_cons, List.all_cons, ih (fun x hx => h x (List.mem_cons_of_mem _ hx)), ex_same (h a (List.mem_cons_self ..))]

theorem Rd.of_reads {w : World} {B n : Nat} {A : Option Addr} {xs : List Nat} (h : Reads w B 1 A n (xs.map (Value.float .f64))) : Rd w B A xs := by
  intro k hk
  have hn : k < n := by have := h.1; simp at this; omega
  obtain ⟨ad, u, e, hb, hx, hc⟩ := h.at_ hn
  refine ⟨ad, e, hb, ?_⟩
  rw [hc, ← hx, List.getElem?_map, List.getElem?_eq_getElem hk, List.getD_eq_getElem?_getD, List.getElem?_eq_getElem hk]; rfl

theorem open_floats {H : Type} {enc : TypeId × Value → H} {W : World} {r : Reach} {b0 : Nat} {v : Value} {d : DataW H} {ps : List MemPlace}
    (hval : Value.okWide Try.prog W r b0 31 v) (h : DataW.Trod enc Try.prog W 0 (fun _ => true) true 31 v d ps) :
    ∃ (A : Option Addr) (xs : List Nat) (c : Nat), v = .slice A xs.length c ∧ Reads W W.heap.size 1 A xs.length (xs.map (Value.float .f64)) ∧ (∀ x ∈ xs, x < W64) ∧ xs.length ≤ 9223372036854775807 ∧ xs.length ≤ c := by
  obtain ⟨A, xs, c, h1, h2, h3, h4, h5⟩ := open_reads (Value.float .f64) (fun x => (Lit.float .f64 x).wf = true) Try.underlying31 (by kernel_rfl) hval h (cell_float Try.underlying22)
  exact ⟨A, xs, c, h1, h2, fun x hx => w64_of (h3 x hx), h4, h5⟩
def FS (w : World) (A : Option Addr) (xs : List Nat) (c : Nat) : Prop := Reads w w.heap.size 1 A xs.length (xs.map (Value.float .f64)) ∧ (∀ x ∈ xs, x < W64) ∧ xs.length ≤ 9223372036854775807 ∧ xs.length ≤ c
theorem Quiet.below {w w' : World} (h : Quiet w w') : Below w.heap.size w w' := by
  obtain ⟨n, rfl⟩ := h
  exact ⟨rfl, rfl, rfl, Nat.le_refl _, fun _ _ => rfl⟩
theorem Quiet.size {w w' : World} (h : Quiet w w') : w'.heap.size = w.heap.size := by
  obtain ⟨n, rfl⟩ := h
  rfl
end Go.Proofs.Ytlbakakfjcmldaa
