/- What is laid when a call begins, and how long it lies; the texts of doubles: the program's. Conditions: the library's tables are laid. -/
import Derived.Test.YtplhlpdcdemopaaDoorFd
import Derived.Test.YtplhlpdcdemopaaDoorShelf2
import Derived.Deep.Draws
import Derived.LoopTactic
import Derived.Deep.QuietTactic
import Derived.BigQuiet
namespace Go.Proofs.YtplhlpdcdemopaaDoor
open Go.RowKit Go.FT Go.FX Go.Lib

theorem var_below {P : Program} {w w' : World} {name : String} {v : Array Value} (h : w.var? P name = some v) (hb : Below w.heap.size w w') : w'.var? P name = some v := by
  unfold World.var? at *
  cases hg : P.globalNamed name with
  | none => simp [hg] at h
  | some g =>
    simp only [hg, Option.bind_some] at h ⊢
    have hlt : g < w.heap.size := by
      rcases Nat.lt_or_ge g w.heap.size with h' | h'
      · exact h'
      · rw [Array.getElem?_eq_none h'] at h; simp at h
    rw [hb.block g hlt]
    exact h
theorem cell_below {w w' : World} {p : Addr} {v : Value} (h : w.cell? p = some v) (hb : Below w.heap.size w w') : w'.cell? p = some v := by
  rw [hb.cell (block_lt_of_cell h)]; exact h
/-- The library's tables and variables as they lie when a call begins. -/
structure Lay (w : World) : Prop where
  tab : Tab w
  tz : TabAt 1 Lib.deBruijn64tab w
  big : ∃ m, w.cell? ⟨2, 0, none⟩ = some (.int .i64 m)
  syn : ∃ tp p, w.var? Tryd.prog "strconv.ErrSyntax" = some #[.iface tp p]
  ran : ∃ tp p, w.var? Tryd.prog "strconv.ErrRange" = some #[.iface tp p]
theorem Lay.below {w w' : World} (h : Lay w) (hb : Below w.heap.size w w') : Lay w' :=
  ⟨h.tab.below hb, fun j hj => cell_below (h.tz j hj) hb, h.big.imp fun _ h => cell_below h hb, h.syn.imp fun _ h => h.imp fun _ h => var_below h hb, h.ran.imp fun _ h => h.imp fun _ h => var_below h hb⟩
theorem Lay.drew {w : World} (h : Lay w) : Lay w.drew := h.below ((Below.refl _ _).drew)
theorem Lay.drewN {w : World} (h : Lay w) (n : Nat) : Lay (w.drewN n) := h.below (below_drewN (Below.refl _ _) n)
theorem Lay.alloc {w : World} (h : Lay w) (o : Obj) : Lay (w.alloc o) := h.below ((Below.refl _ _).alloc (Nat.le_refl _) o)

def strV (l : List UInt8) : Value := .string ⟨l.toArray⟩
theorem tz_any (x : Nat) (hx : x < W64) (w : World) (hl : Lay w) : Calls Tryd.prog 52 #[.int .u64 x] w fun e w' => e = .returned (.int .i64 (FX.tz x : Nat)) ∧ w = w' :=
  (Any7.bits_TrailingZeros64 Tryd.lays7n29 x hx w (fun _ => hl.tz)).mono fun _ _ h => ⟨h.1, h.2.symm⟩
theorem itoa_any (n : Int) (h0 : -9223372036854775808 ≤ n) (h1 : n ≤ 9223372036854775807) (w : World) (hl : Lay w) :
    Calls Tryd.prog 54 #[.int .i64 n] w fun e w' => e = .returned (strV (itoa n)) ∧ Below w.heap.size w w' :=
  (Tryd.strconv_Itoa n h0 h1 w hl.tab).mono fun e w' ⟨h, k, os, hw⟩ => ⟨h, by
    subst hw
    exact ⟨rfl, rfl, rfl, by show w.heap.size ≤ (w.heap ++ os).size; simp, fun g hg => Lib.heap_grow_old w k os g hg⟩⟩
theorem fmt_any (u : Nat) (hu : u < W64) (w : World) (hl : Lay w) : Calls Tryd.prog 53 #[.int .u64 u, .int .i64 10] w fun e w' => e = .returned (strV (decDigits u)) ∧ Below w.heap.size w w' :=
  fmt40 u hu w hl.tab
end Go.Proofs.YtplhlpdcdemopaaDoor
