
/- Trees of paths in memory: how they lie, what leaves them as they are. No condition. -/
import Derived.Test.YtpaehicfndkliaaGreatDoorPa
namespace Go.Proofs.YtpaehicfndkliaaGreatDoor.Pa
open Go.RowKit Go.Lib Na Go.PN

/-- Rows of paths: each with its kind, its label, its kids, its bounds; then the rest of the row. -/
inductive Fo where
  | nil
  | cons (k : Int) (l : ByteArray) (kids : Fo) (mn mx : Int) (rest : Fo)
def Fo.len : Fo → Nat
  | .nil => 0
  | .cons _ _ _ _ _ r => r.len + 1
def Fo.app : Fo → Fo → Fo
  | .nil, g => g
  | .cons k l d a b r, g => .cons k l d a b (r.app g)
/-- Five cells hold a path. -/
def Cel (w : World) (b o : Nat) (k : Int) (l : ByteArray) (K : Option Addr) (n c : Nat) (mn mx : Int) : Prop :=
  w.cell? ⟨b, o, none⟩ = some (.int .i64 k) ∧ w.cell? ⟨b, o + 1, none⟩ = some (.string l) ∧ w.cell? ⟨b, o + 2, none⟩ = some (.slice K n c) ∧ w.cell? ⟨b, o + 3, none⟩ = some (.int .i64 mn) ∧ w.cell? ⟨b, o + 4, none⟩ = some (.int .i64 mx)
/-- A row of paths lies at an address, in none of the blocks X. -/
def At (w : World) (X : List Nat) : Fo → Option Addr → Prop
  | .nil, _ => True
  | .cons k l kids mn mx rest, A => ∃ (b o : Nat) (K : Option Addr) (c : Nat), A = some ⟨b, o, none⟩ ∧ b ∉ X ∧ Cel w b o k l K kids.len c mn mx ∧ kids.len ≤ c ∧ c ≤ 9223372036854775807 ∧ At w X kids K ∧ At w X rest (some ⟨b, o + 5, none⟩)
theorem cell_lt {w : World} {p : Addr} {v : Value} (h : w.cell? p = some v) : p.block < w.heap.size := by
  unfold World.cell? at h
  cases hb : w.heap[p.block]? with
  | none => rw [hb] at h; cases h
  | some o => exact (Array.getElem?_eq_some_iff.1 hb).1
section
variable {w w' : World} {X Y : List Nat} {f g : Fo} {A : Option Addr} {b o n c : Nat} {k mn mx : Int} {l : ByteArray} {K : Option Addr}
theorem Cel.lt (h : Cel w b o k l K n c mn mx) : b < w.heap.size := cell_lt h.1
theorem Cel.keep (h : Cel w b o k l K n c mn mx) (hk : w'.heap[b]? = w.heap[b]?) : Cel w' b o k l K n c mn mx := by
  have e : ∀ j, w'.cell? ⟨b, j, none⟩ = w.cell? ⟨b, j, none⟩ := fun j => World.cell?_of_block (w := w) hk
  exact ⟨(e _).trans h.1, (e _).trans h.2.1, (e _).trans h.2.2.1, (e _).trans h.2.2.2.1, (e _).trans h.2.2.2.2⟩
theorem At.keep (h : At w X f A) (hk : ∀ b, b < w.heap.size → b ∉ X → w'.heap[b]? = w.heap[b]?) : At w' X f A := by
  induction f generalizing A with
  | nil => trivial
  | cons k l kids mn mx rest ih1 ih2 =>
    obtain ⟨b, o, K, c, e, hx, hc, h1, h2, h3, h4⟩ := h
    exact ⟨b, o, K, c, e, hx, hc.keep (hk b hc.lt hx), h1, h2, ih1 h3, ih2 h4⟩
theorem At.grow (h : At w X f A) (hY : ∀ y, y ∈ Y → y ∈ X ∨ w.heap.size ≤ y) : At w Y f A := by
  induction f generalizing A with
  | nil => trivial
  | cons k l kids mn mx rest ih1 ih2 =>
    obtain ⟨b, o, K, c, e, hx, hc, h1, h2, h3, h4⟩ := h
    refine ⟨b, o, K, c, e, fun hy => ?_, hc, h1, h2, ih1 h3, ih2 h4⟩
    rcases hY b hy with h5 | h5
    · exact hx h5
    · have := hc.lt; omega
theorem At.below (h : At w X f A) (hb : Below w.heap.size w w') : At w' X f A := h.keep fun b h1 _ => hb.block b h1
theorem At.al (h : At w X f A) (o : Obj) : At (w.alloc o) X f A := h.below ((Below.refl _ _).alloc (Nat.le_refl _) o)
theorem At.drew (h : At w X f A) : At w.drew X f A := h.below (Below.refl _ w).drew
theorem At.set (h : At w X f A) {p : Addr} (hp : p.block ∈ X) (v : Value) : At (w.setCell p v) X f A :=
  h.keep fun b _ h2 => Below.heap_setCell _ _ _ _ (fun e => h2 (e ▸ hp))
/-- With one block more that is barred: a new one. -/
theorem At.more (h : At w X f A) (b : Nat) (hb : w.heap.size ≤ b) : At w (b :: X) f A := h.grow fun y hy => by
  rcases List.mem_cons.1 hy with e | e
  · exact Or.inr (e ▸ hb)
  · exact Or.inl e
theorem At.less (h : At w X f A) (hY : ∀ y, y ∈ Y → y ∈ X) : At w Y f A := h.grow fun y hy => Or.inl (hY y hy)
theorem Fo.app_nil (f : Fo) : f.app .nil = f := by
  induction f with
  | nil => rfl
  | cons k l kids mn mx rest _ ih => rw [Fo.app, ih]
theorem Fo.app_assoc (f g h : Fo) : (f.app g).app h = f.app (g.app h) := by
  induction f with
  | nil => rfl
  | cons k l kids mn mx rest _ ih => rw [Fo.app, Fo.app, Fo.app, ih]
theorem Fo.app_len (f g : Fo) : (f.app g).len = f.len + g.len := by
  induction f with
  | nil => simp [Fo.app, Fo.len]
  | cons k l kids mn mx rest _ ih => rw [Fo.app, Fo.len, Fo.len, ih]; omega
/-- Of a row that lies somewhere, one path: what it is; where. -/
theorem At.nth {q : Nat} {r : Fo} {b0 o0 : Nat} (h : At w X (f.app (.cons k l g mn mx r)) (some ⟨b0, o0, none⟩)) (hq : f.len = q) :
    ∃ (K : Option Addr) (c : Nat), Cel w b0 (o0 + q * 5) k l K g.len c mn mx ∧ g.len ≤ c ∧ c ≤ 9223372036854775807 ∧ At w X g K := by
  induction f generalizing q b0 o0 with
  | nil =>
    obtain ⟨b, o, K, c, e, hx, hc, h1, h2, h3, h4⟩ := h
    injection e with e
    injection e with e1 e2
    subst e1 e2
    simp only [Fo.len] at hq
    subst hq
    exact ⟨K, c, hc, h1, h2, h3⟩
  | cons k l kids mn mx rest ih1 ih2 =>
    obtain ⟨b, o, K, c, e, hx, hc, h1, h2, h3, h4⟩ := h
    injection e with e
    injection e with e1 e2
    subst e1 e2
    have := ih2 (q := q - 1) h4 (by simp only [Fo.len] at hq; omega)
    simp only [Fo.len] at hq
    rw [show b0 = b0 from rfl, show o0 + 5 + (q - 1) * 5 = o0 + q * 5 from by omega] at this
    exact this
end
/-- A path as it is handed. -/
structure Nd where
  k : Int
  l : ByteArray
  A : Option Addr
  c : Nat
  mn : Int
  mx : Int
  kids : Fo
@[reducible] def Nd.v (a : Nd) : Value := .agg #[.int .i64 a.k, .string a.l, .slice a.A a.kids.len a.c, .int .i64 a.mn, .int .i64 a.mx]
@[reducible] def Nd.cs (a : Nd) : Array Value := #[.int .i64 a.k, .string a.l, .slice a.A a.kids.len a.c, .int .i64 a.mn, .int .i64 a.mx]
@[reducible] def Nd.fo (a : Nd) (r : Fo) : Fo := .cons a.k a.l a.kids a.mn a.mx r
def Nd.ok (w : World) (X : List Nat) (a : Nd) : Prop := a.kids.len ≤ a.c ∧ a.c ≤ 9223372036854775807 ∧ At w X a.kids a.A
section
variable {w w' : World} {X Y : List Nat} {a : Nd}
theorem Nd.ok.below (h : a.ok w X) (hb : Below w.heap.size w w') : a.ok w' X := ⟨h.1, h.2.1, h.2.2.below hb⟩
theorem Nd.ok.keep (h : a.ok w X) (hk : ∀ b, b < w.heap.size → b ∉ X → w'.heap[b]? = w.heap[b]?) : a.ok w' X := ⟨h.1, h.2.1, h.2.2.keep hk⟩
theorem Nd.ok.al (h : a.ok w X) (o : Obj) : a.ok (w.alloc o) X := ⟨h.1, h.2.1, h.2.2.al o⟩
theorem Nd.ok.more (h : a.ok w X) (b : Nat) (hb : w.heap.size ≤ b) : a.ok w (b :: X) := ⟨h.1, h.2.1, h.2.2.more b hb⟩
theorem Nd.ok.less (h : a.ok w X) (hY : ∀ y, y ∈ Y → y ∈ X) : a.ok w Y := ⟨h.1, h.2.1, h.2.2.less hY⟩
theorem Nd.ok.set (h : a.ok w X) {p : Addr} (hp : p.block ∈ X) (v : Value) : a.ok (w.setCell p v) X := ⟨h.1, h.2.1, h.2.2.set hp v⟩
end
/-- What a path's own variable holds, as long as it is not written. -/
theorem box_cells {w wr : World} (k : Int) (l : ByteArray) (A : Option Addr) (n c : Nat) (mn mx : Int)
    (hb : Below (w.heap.size + 1) (w.alloc (.cells #[.int .i64 k, .string l, .slice A n c, .int .i64 mn, .int .i64 mx] 24)) wr) :
    wr.cell? ⟨w.heap.size, 0, none⟩ = some (.int .i64 k) ∧ wr.cell? ⟨w.heap.size, 1, none⟩ = some (.string l) ∧ wr.cell? ⟨w.heap.size, 2, none⟩ = some (.slice A n c) ∧ wr.cell? ⟨w.heap.size, 3, none⟩ = some (.int .i64 mn) ∧ wr.cell? ⟨w.heap.size, 4, none⟩ = some (.int .i64 mx) := by
  have hl : w.heap.size < w.heap.size + 1 := Nat.lt_succ_self _
  refine ⟨(hb.cell (p := ⟨w.heap.size, 0, none⟩) hl).trans (by go_simp), (hb.cell (p := ⟨w.heap.size, 1, none⟩) hl).trans (by go_simp), (hb.cell (p := ⟨w.heap.size, 2, none⟩) hl).trans (by go_simp), (hb.cell (p := ⟨w.heap.size, 3, none⟩) hl).trans (by go_simp), (hb.cell (p := ⟨w.heap.size, 4, none⟩) hl).trans (by go_simp)⟩
theorem box_below {w wr : World} {o : Obj} (hb : Below (w.heap.size + 1) (w.alloc o) wr) : Below w.heap.size w wr :=
  ((Below.refl _ w).alloc (Nat.le_refl _) o).trans (hb.mono (Nat.le_succ _))
end Go.Proofs.YtpaehicfndkliaaGreatDoor.Pa
