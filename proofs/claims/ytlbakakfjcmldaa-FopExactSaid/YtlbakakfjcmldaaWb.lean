/- The walks of the sums of prices over a slice. Conditions: the slice can be read, its numbers are doubles. -/
import Derived.Test.YtlbakakfjcmldaaWa
import Derived.Below
import Derived.Laws.OwnMore
import Derived.Deep.AppendLies
import Derived.Deep.Draws
import Derived.LoopTactic
import Derived.Outline
import Derived.WalkSmall
namespace Go.Proofs.Ytlbakakfjcmldaa
open Go.RowKit Go.FT

/-- A slice of doubles that reads as a list: below block B; what is asked of it is told at an index. -/
def Rd (w : World) (B : Nat) (A : Option Addr) (xs : List Nat) : Prop :=
  ∀ k, k < xs.length → ∃ ad, A = some ad ∧ ad.block < B ∧ w.cell? (ad.add k) = some (.float .f64 (xs.getD k 0))
theorem Rd.keep {w w' : World} {B : Nat} {A : Option Addr} {xs : List Nat} (h : Rd w B A xs) (hk : ∀ p : Addr, p.block < B → w'.cell? p = w.cell? p) : Rd w' B A xs := by
  intro k hlt
  obtain ⟨ad, e, hb, hc⟩ := h k hlt
  refine ⟨ad, e, hb, ?_⟩
  rw [hk _ (by unfold Addr.add; split <;> exact hb)]
  exact hc
theorem Rd.below {w w' : World} {B : Nat} {A : Option Addr} {xs : List Nat} (h : Rd w B A xs) (hb : Below B w w') : Rd w' B A xs := h.keep fun _ hp => hb.cell hp

theorem Rd.of_cells {w : World} {B : Nat} {ad : Addr} {xs : List Nat} (hb : ad.block < B) (h : ∀ j u, (xs.map (Value.float .f64))[j]? = some u → w.cell? (ad.add j) = some u) : Rd w B (some ad) xs := by
  intro k hk
  refine ⟨ad, rfl, hb, h k _ ?_⟩
  rw [List.getElem?_map, List.getElem?_eq_getElem hk, List.getD_eq_getElem?_getD, List.getElem?_eq_getElem hk]; rfl

def pathG : Nat → List Nat → Nat × Int
  | s, [] => (s, 0)
  | s, x :: t => if pe s x = 0 then pathG (pv s x) t else (0, pe s x)
theorem pathG_ok {s x : Nat} {t : List Nat} (h : pe s x = 0) : pathG s (x :: t) = pathG (pv s x) t := by rw [pathG, if_pos h]
theorem pathG_no {s x : Nat} {t : List Nat} (h : ¬ pe s x = 0) : pathG s (x :: t) = (0, pe s x) := by rw [pathG, if_neg h]
theorem inf_lt : INF < W64 := by decide
theorem pv_le {x y : Nat} : pv x y ≤ INF := by unfold pv; split; exact addR_le _ _; omega

theorem drop_at {α : Type} (d : α) (xs : List α) (k : Nat) (h : k < xs.length) : xs.drop k = xs.getD k d :: xs.drop (k + 1) := by
  rw [List.drop_eq_getElem_cons h, List.getD_eq_getElem?_getD, List.getElem?_eq_getElem h, Option.getD_some]

set_option maxHeartbeats 400000 in
theorem path_any (A : Option Addr) (c : Nat) (xs : List Nat) (w : World) {B : Nat} (hr : Rd w B A xs) (hx : ∀ x ∈ xs, x < W64) (hn : xs.length ≤ 9223372036854775807) :
    Calls Try.prog 16 #[.slice A xs.length c] w fun e w' => e = .returned (.tuple #[.float .f64 (pathG 0 xs).1, .int .i64 (pathG 0 xs).2]) ∧ w = w' := by
  go_enter Try.func16, Try.ntmps16
  go_wp2_with fail
  go_loop [4, 11] (fun s i => ∃ (k t : Nat), k ≤ xs.length ∧ t ≤ INF ∧ i = .int .i64 k ∧ s = .float .f64 t ∧ Hid (pathG t (xs.drop k) = pathG 0 xs)) (fun _ i => xs.length - (intOf i).toNat)
  case atStart => exact ⟨0, 0, Nat.zero_le _, by omega, rfl, rfl, Lib.hid rfl⟩
  case round =>
    obtain ⟨k, t, hk, ht, rfl, rfl, hp⟩ := hrel
    by_cases hlt : k < xs.length
    · obtain ⟨ad, rfl, hb, hc⟩ := hr k hlt
      have hxk : xs.getD k 0 < W64 := hx _ (by rw [List.getD_eq_getElem?_getD, List.getElem?_eq_getElem hlt]; exact List.getElem_mem hlt)
      have hd := Lib.hid (drop_at 0 xs k hlt)
      generalize xs.getD k 0 = x at *
      have ht' : t < W64 := Nat.lt_of_le_of_lt ht inf_lt
      by_cases he : pe t x = 0
      · go_wp2_with (go_at_call 11; refine (plus_any _ _ _ ht' hxk).mono ?_; rintro e w' ⟨rfl, rfl⟩)
        go_round
        case rel => exact ⟨k + 1, _, by omega, pv_le (x := t) (y := x), by go_num, rfl, Lib.hid (by rw [← hp.out, hd.out]; exact (pathG_ok he).symm)⟩
        case measure => simp [intOf]; omega
      · have he2 : (pe t x == 0) = false := by simpa using he
        have hno := Lib.hid (pathG_no (t := xs.drop (k + 1)) he)
        clear he
        go_wp2_with (go_at_call 11; refine (plus_any _ _ _ ht' hxk).mono ?_; rintro e w' ⟨rfl, rfl⟩)
        go_ret2
        have hq : pathG 0 xs = (0, pe t x) := by rw [← hp.out, hd.out]; exact hno.out
        exact ⟨tup2 (by rw [hq]) (by rw [hq]), rfl⟩
    · go_wp2
      go_ret2
      have hq : pathG 0 xs = (t, 0) := by rw [← hp.out, List.drop_of_length_le (by omega)]; rfl
      exact ⟨tup2 (by rw [hq]) (by rw [hq]), rfl⟩
end Go.Proofs.Ytlbakakfjcmldaa
