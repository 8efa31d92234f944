/- The first and the last of a list of doubles. Conditions: the slice can be read, its numbers are doubles. -/
import Derived.Test.YtplhlpdcdemopaaDoorFr
namespace Go.Proofs.YtplhlpdcdemopaaDoor
open Go.RowKit Go.FT Go.FX Go.ChangeShapes Go.WideShapes

theorem w64_of {x : Nat} (h : (Lit.float .f64 x).wf = true) : x < W64 := by simpa [Lit.wf] using h
/-- A slice of doubles that reads as a list: below block B; what is asked of it is told at an index. -/
def Rd (w : World) (B : Nat) (A : Option Addr) (xs : List Nat) : Prop :=
  ∀ k, k < xs.length → ∃ ad, A = some ad ∧ ad.block < B ∧ w.cell? (ad.add k) = some (.float .f64 (xs.getD k 0))
theorem Rd.keep {w w' : World} {B : Nat} {A : Option Addr} {xs : List Nat} (h : Rd w B A xs) (hk : ∀ p : Addr, p.block < B → w'.cell? p = w.cell? p) : Rd w' B A xs := by
  intro k hlt
  obtain ⟨ad, e, hb, hc⟩ := h k hlt
  refine ⟨ad, e, hb, ?_⟩
  rw [hk _ (by unfold Addr.add; split <;> exact hb)]
  exact hc
theorem Rd.below {w w' : World} {B : Nat} {A : Option Addr} {xs : List Nat} (h : Rd w B A xs) (hb : Below B w w') : Rd w' B A xs := h.keep fun _ hp => hb.cell hp

theorem Rd.of_cells {w : World} {B : Nat} {ad : Addr} {xs : List Nat} (hb : ad.block < B) (h : ∀ j u, (xs.map (Value.float .f64))[j]? = some u → w.cell? (ad.add j) = some u) : Rd w B (some ad) xs := by
  intro k hk
  refine ⟨ad, rfl, hb, h k _ ?_⟩
  rw [List.getElem?_map, List.getElem?_eq_getElem hk, List.getD_eq_getElem?_getD, List.getElem?_eq_getElem hk]; rfl

theorem Rd.of_reads {w : World} {B n : Nat} {A : Option Addr} {xs : List Nat} (h : Reads w B 1 A n (xs.map (Value.float .f64))) : Rd w B A xs := by
  intro k hk
  have hn : k < n := by have := h.1; simp at this; omega
  obtain ⟨ad, u, e, hb, hx, hc⟩ := h.at_ hn
  refine ⟨ad, e, hb, ?_⟩
  rw [hc, ← hx, List.getElem?_map, List.getElem?_eq_getElem hk, List.getD_eq_getElem?_getD, List.getElem?_eq_getElem hk]; rfl

set_option maxRecDepth 100000 in
theorem open_floats {H : Type} {enc : TypeId × Value → H} {W : World} {r : Reach} {b0 : Nat} {v : Value} {d : DataW H} {ps : List MemPlace}
    (hval : Value.okWide Tryd.prog W r b0 33 v) (h : DataW.Trod enc Tryd.prog W 0 (fun _ => true) true 33 v d ps) :
    ∃ (A : Option Addr) (xs : List Nat) (c : Nat), v = .slice A xs.length c ∧ Reads W W.heap.size 1 A xs.length (xs.map (Value.float .f64)) ∧ (∀ x ∈ xs, x < W64) ∧ xs.length ≤ 9223372036854775807 ∧ xs.length ≤ c := by
  obtain ⟨A, xs, c, h1, h2, h3, h4, h5⟩ := open_reads (Value.float .f64) (fun x => (Lit.float .f64 x).wf = true) Tryd.underlying33 (by kernel_rfl) hval h (cell_float Tryd.underlying23)
  exact ⟨A, xs, c, h1, h2, fun x hx => w64_of (h3 x hx), h4, h5⟩
def FS (w : World) (A : Option Addr) (xs : List Nat) (c : Nat) : Prop := Reads w w.heap.size 1 A xs.length (xs.map (Value.float .f64)) ∧ (∀ x ∈ xs, x < W64) ∧ xs.length ≤ 9223372036854775807 ∧ xs.length ≤ c
theorem drop_at {α : Type} (d : α) (xs : List α) (k : Nat) (h : k < xs.length) : xs.drop k = xs.getD k d :: xs.drop (k + 1) := by
  rw [List.drop_eq_getElem_cons h, List.getD_eq_getElem?_getD, List.getElem?_eq_getElem h, Option.getD_some]


def best (last : Bool) (o x : Nat) : Bool := if last then less o x else less x o
def pick (last : Bool) (o x : Nat) : Nat := if best last o x then x else o
def endF (last : Bool) (x : Nat) (l : List Nat) : Nat := l.foldl (pick last) x
/-- What the first, or the last, of a list is. -/
def endV (last : Bool) : List Nat → Nat × Int
  | [] => (0, 15)
  | x :: t => (can (endF last x t), 0)
theorem less_self (x : Nat) : less x x = false := decide_eq_false (by omega)
theorem pick_self (last : Bool) (x : Nat) : pick last x x = x := by
  unfold pick best; rw [less_self]; cases last <;> rfl
/-- The program's test. -/
theorem best_and {o x : Nat} (ho : o < W64) (hx : x < W64) (last : Bool) : ((less x o != last) && !same x o) = best last o x := by
  rw [same_pl hx ho]
  unfold best less
  cases last
  · by_cases h1 : pl x < pl o
    · rw [decide_eq_true h1, decide_eq_false (by omega : ¬ pl x = pl o)]; rfl
    · rw [decide_eq_false h1]; rfl
  · by_cases h1 : pl x < pl o
    · rw [decide_eq_true h1, decide_eq_false (by omega : ¬ pl o < pl x)]; rfl
    · rw [decide_eq_false h1]
      by_cases h2 : pl x = pl o
      · rw [decide_eq_true h2, decide_eq_false (by omega : ¬ pl o < pl x)]; rfl
      · rw [decide_eq_false h2, decide_eq_true (by omega : pl o < pl x)]; rfl
theorem endF_lt {last : Bool} : ∀ (l : List Nat) (x : Nat), x < W64 → (∀ y ∈ l, y < W64) → endF last x l < W64
  | [], x, h, _ => h
  | y :: t, x, h, h2 => by
    show endF last (pick last x y) t < W64
    refine endF_lt t _ ?_ (fun z hz => h2 z (by simp [hz]))
    unfold pick; split
    · exact h2 y (by simp)
    · exact h
theorem endF_take {last : Bool} {xs : List Nat} {k : Nat} (hk : k < xs.length) (x : Nat) : endF last x (xs.take (k + 1)) = pick last (endF last x (xs.take k)) (xs.getD k 0) := by
  unfold endF
  rw [List.take_succ_eq_append_getElem hk, List.foldl_append, List.getD_eq_getElem?_getD, List.getElem?_eq_getElem hk]; rfl
end Go.Proofs.YtplhlpdcdemopaaDoor
