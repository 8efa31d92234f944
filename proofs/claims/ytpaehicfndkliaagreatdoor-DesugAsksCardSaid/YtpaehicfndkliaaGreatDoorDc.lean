import Derived.Test.YtpaehicfndkliaaGreatDoorPi
import Derived.Maps.AppendAt
import Derived.Test.YtpaehicfndkliaaGreatDoorRows
import Derived.RegionTactic
import Derived.Deep.QuietTactic
import Derived.BigQuiet

/- Plain facts: which paths may be; plain paths, what desug computes, plainly. No condition. -/
namespace Go.Proofs.YtpaehicfndkliaaGreatDoor.De
open Go.RowKit Go.Lib Na Go.PN Pa

theorem alL_zero {f : Fo} {e : Int} (h : alL f e = 0) : e = 0 := by
  by_cases he : e = 0
  · exact he
  · rw [alL_ne f e he] at h; exact absurd h he
/-- A row all of whose paths may be, but for how great they are. -/
def Val (f : Fo) : Prop := alL f 0 = 0
theorem Val.cons {k : Int} {l : ByteArray} {d : Fo} {mn mx : Int} {r : Fo} (h : Val (.cons k l d mn mx r)) : oneE k l d mn mx = 0 ∧ Val d ∧ Val r := by
  unfold Val at h
  rw [alL_cons, if_pos rfl] at h
  have h1 := alL_zero h
  rw [h1] at h
  have h2 : alL d (oneE k l d mn mx) = 0 := h1
  have h3 := alL_zero h2
  rw [h3] at h2
  exact ⟨h3, h2, h⟩
theorem Val.mk {k : Int} {l : ByteArray} {d : Fo} {mn mx : Int} {r : Fo} (h : oneE k l d mn mx = 0) (hd : Val d) (hr : Val r) : Val (.cons k l d mn mx r) := by
  unfold Val
  rw [alL_cons, if_pos rfl]
  unfold allE
  rw [h, show alL d 0 = 0 from hd]
  exact hr
/-- What is known of a path that may be, but for its kids. -/
theorem one_zero {k : Int} {l : ByteArray} {d : Fo} {mn mx : Int} (h : oneE k l d mn mx = 0) :
    (1 ≤ k ∧ k ≤ 9) ∧ (k = 1 ∨ k = 2 ∨ k = 3 → d.len = 0) ∧ (k = 4 ∨ k = 5 → 2 ≤ d.len ∧ noneK k d = true) ∧ (6 ≤ k → d.len = 1) ∧ (k = 2 ∨ k = 3 → 0 < l.size ∧ l.size ≤ 20) ∧
    (k = 9 → 0 ≤ mn ∧ mn ≤ 8 ∧ (mx = -1 ∨ (mn ≤ mx ∧ 1 ≤ mx ∧ mx ≤ 8))) := by
  unfold oneE at h
  split at h
  · cases h
  · rename_i h0
    rw [Bool.or_eq_true, Bool.or_eq_true, not_or, not_or, decide_eq_true_eq, decide_eq_true_eq] at h0
    obtain ⟨⟨h1, h2⟩, h3⟩ := h0
    unfold leastI at h2
    unfold mostI at h3
    have hk : 1 ≤ k ∧ k ≤ 9 := by
      unfold kindB at h1
      simpa using h1
    split at h
    · cases h
    · rename_i h4
      simp only [Bool.and_eq_true, Bool.or_eq_true, beq_iff_eq, Bool.not_eq_true', not_and, Bool.not_eq_false] at h4
      refine ⟨hk, fun e => ?_, fun e => ⟨?_, ?_⟩, fun e => ?_, fun e => ?_, fun e => ?_⟩
      · rw [if_pos e] at h3; omega
      · rw [if_neg (by omega), if_pos e] at h2; omega
      · exact h4 e
      · rw [if_neg (by omega), if_neg (by omega), if_pos (by omega)] at h2 h3; omega
      · have e2 : (k == 2 || k == 3) = true := by rcases e with rfl | rfl <;> rfl
        rw [if_pos e2] at h
        split at h
        · rename_i h5
          unfold namedB at h5
          simpa using h5
        · cases h
      · subst e
        rw [if_neg (by decide), if_pos (by decide)] at h
        split at h
        · cases h
        · rename_i h5
          unfold repB at h5
          simp only [Bool.or_eq_true, Bool.and_eq_true, decide_eq_true_eq, Bool.not_eq_true', not_or, not_and, beq_eq_false_iff_ne] at h5
          obtain ⟨⟨a, b⟩, c⟩ := h5
          by_cases e : mx = -1
          · exact ⟨by omega, by omega, Or.inl e⟩
          · have := c e; exact ⟨by omega, by omega, Or.inr ⟨by omega, by omega, by omega⟩⟩
theorem szL_ge (f : Fo) (n : Int) (h : 0 ≤ n ∧ n ≤ 1099511627776) : n ≤ szL f n := by
  induction f generalizing n with
  | nil => exact Int.le_refl _
  | cons k l d mn mx r ih1 ih2 =>
    rw [szL_cons]
    have h1 := sizeF_rng k d mn mx
    exact Int.le_trans (by omega) (ih2 _ (by omega))
theorem sizeF_gt {k : Int} {l : ByteArray} {d : Fo} {mn mx : Int} (h : oneE k l d mn mx = 0) (hs : sizeF k d mn mx ≤ 60) : szL d 0 + 1 ≤ sizeF k d mn mx := by
  obtain ⟨h1, h2, h3, h4, h5, h6⟩ := one_zero h
  have hr := szL_rng d 0 (by decide)
  have h0 : k = 1 ∨ k = 2 ∨ k = 3 → szL d 0 = 0 := by
    intro e
    have := h2 e
    cases d with
    | nil => rfl
    | cons => simp [Fo.len] at this
  unfold sizeF at *
  have ht : k = 9 → szL d 0 ≤ timesI (turnsI mn mx) (szL d 0) := by
    intro e
    have h7 := h6 e
    have h8 : 1 ≤ turnsI mn mx := by
      unfold turnsI
      split <;> omega
    generalize turnsI mn mx = t at *
    unfold timesI
    split
    · omega
    · rw [show max t 0 = t from by omega]
      have := Int.mul_le_mul_of_nonneg_right h8 hr.1
      omega
  generalize szL d 0 = z at *
  unfold sizeI at hs ⊢
  split
  · have := h0 (by assumption); omega
  · rename_i hne
    rw [if_neg hne] at hs
    revert hs
    repeat' split
    all_goals (try (have := ht (by assumption)))
    all_goals omega
/-- How great a row is, against what it holds. -/
theorem sz_le {f : Fo} (h : Val f) (n : Int) (hn : 0 ≤ n) (hs : szL f n ≤ 60) (hn2 : n ≤ 1099511627776) : n + (f.sz : Int) ≤ szL f n := by
  induction f generalizing n with
  | nil => simp [szL, Fo.sz]
  | cons k l d mn mx r ih1 ih2 =>
    obtain ⟨h1, h2, h3⟩ := h.cons
    rw [szL_cons] at hs ⊢
    have hr := sizeF_rng k d mn mx
    have hge := szL_ge r (min (n + sizeF k d mn mx) 1099511627776) (by omega)
    have h4 : min (n + sizeF k d mn mx) 1099511627776 = n + sizeF k d mn mx := by omega
    rw [h4] at hs hge ⊢
    have h5 := sizeF_gt h1 (by omega)
    have h6 := ih1 h2 0 (by decide) (by omega) (by decide)
    have h7 := ih2 h3 (n + sizeF k d mn mx) (by omega) hs (by omega)
    rw [Fo.sz]
    omega
/-- What is known of a path that may be. -/
theorem check_zero {k : Int} {l : ByteArray} {d : Fo} {mn mx : Int} (h : checkE k l d mn mx = 0) : Val (.cons k l d mn mx .nil) ∧ dp d 1 ≤ 20 ∧ sizeF k d mn mx ≤ 60 ∧ d.sz < 60 := by
  unfold checkE at h
  split at h
  · cases h
  · split at h
    · rename_i h1; exact absurd h h1
    · rename_i h0 h1
      have h1 : allE k l d mn mx = 0 := by omega
      split at h
      · cases h
      · rename_i h2
        have hv : Val (.cons k l d mn mx .nil) := by
          unfold Val
          rw [alL_cons, if_pos rfl, h1]
          rfl
        have hr := sizeF_rng k d mn mx
        have hz : szL (.cons k l d mn mx .nil) 0 = sizeF k d mn mx := by
          rw [szL_cons]
          show min (0 + sizeF k d mn mx) 1099511627776 = _
          omega
        have h3 := sz_le hv 0 (by decide) (by omega) (by decide)
        rw [hz, Fo.sz, Fo.sz] at h3
        exact ⟨hv, by omega, by omega, by omega⟩
abbrev epsF : Fo := .cons 1 ⟨#[]⟩ .nil 0 0 .nil
abbrev twoF (K : Int) (a b : Fo) : Fo := .cons K ⟨#[]⟩ (a.app b) 0 0 .nil
abbrev starF (x : Fo) : Fo := .cons 6 ⟨#[]⟩ x 0 0 .nil
abbrev maybeF (x : Fo) : Fo := twoF 5 epsF x
/-- A row as one path, of two kids each. -/
def rowF (K : Int) : Fo → Fo
  | .nil => epsF
  | .cons k l d mn mx r => if r.len = 0 then .cons k l d mn mx .nil else twoF K (.cons k l d mn mx .nil) (rowF K r)
def rept : Nat → Fo → Fo
  | 0, _ => .nil
  | n + 1, x => x.app (rept n x)
/-- At most so many times and once more. -/
def tailF : Nat → Fo → Fo
  | 0, x => maybeF x
  | n + 1, x => maybeF (twoF 4 x (tailF n x))
def repL (x : Fo) (mn mx : Int) : Fo := (rept mn.toNat x).app (if mx = -1 then starF x else if mn < mx then tailF (mx - mn - 1).toNat x else .nil)
def repF (x : Fo) (mn mx : Int) : Fo := rowF 4 (repL x mn mx)
def headF : Fo → Fo
  | .nil => .nil
  | .cons k l d mn mx _ => .cons k l d mn mx .nil
/-- The plain path of one whose kids are plain already. -/
def pl1 (k : Int) (l : ByteArray) (L : Fo) (mn mx : Int) : Fo :=
  if k = 2 ∨ k = 3 then .cons k l .nil 0 0 .nil
  else if k = 4 ∨ k = 5 then rowF k L
  else if k = 6 then starF (headF L)
  else if k = 7 then twoF 4 (headF L) (starF (headF L))
  else if k = 8 then maybeF (headF L)
  else if k = 9 then repF (headF L) mn mx
  else epsF
def plL : Fo → Fo
  | .nil => .nil
  | .cons k l d mn mx r => (pl1 k l (plL d) mn mx).app (plL r)
theorem sz_len (f : Fo) : f.len ≤ f.sz := by
  induction f with
  | nil => exact Nat.le_refl _
  | cons k l d mn mx r _ ih => rw [Fo.len, Fo.sz]; omega
theorem rowF_len (K : Int) (f : Fo) : (rowF K f).len = 1 := by
  cases f with
  | nil => rfl
  | cons k l d mn mx r => rw [rowF]; split <;> rfl
theorem headF_len {f : Fo} (h : 1 ≤ f.len) : (headF f).len = 1 := by
  cases f with
  | nil => simp [Fo.len] at h
  | cons => rfl
theorem pl1_len (k : Int) (l : ByteArray) (L : Fo) (mn mx : Int) : (pl1 k l L mn mx).len = 1 := by
  unfold pl1
  repeat' split
  all_goals first | exact rowF_len _ _ | rfl
theorem plL_len (f : Fo) : (plL f).len = f.len := by
  induction f with
  | nil => rfl
  | cons k l d mn mx r _ ih => rw [plL, Fo.app_len, pl1_len, ih, Fo.len]; omega
theorem plL_app (f g : Fo) : plL (f.app g) = (plL f).app (plL g) := by
  induction f with
  | nil => rfl
  | cons k l d mn mx r _ ih => rw [Fo.app, plL, plL, ih, Fo.app_assoc]
theorem rept_len (n : Nat) (x : Fo) : (rept n x).len = n * x.len := by
  induction n with
  | zero => simp [rept, Fo.len]
  | succ n ih => rw [rept, Fo.app_len, ih, Nat.succ_mul]; omega
theorem rept_snoc (n : Nat) (x : Fo) : rept (n + 1) x = (rept n x).app x := by
  induction n with
  | zero => simp [rept, Fo.app, Fo.app_nil]
  | succ n ih =>
    show x.app (rept (n + 1) x) = (x.app (rept n x)).app x
    rw [ih, Fo.app_assoc]
theorem tailF_len (n : Nat) (x : Fo) : (tailF n x).len = 1 := by
  cases n <;> rfl
theorem rowF_one {K : Int} {f : Fo} (h : f.len = 1) : rowF K f = f := by
  cases f with
  | nil => simp [Fo.len] at h
  | cons k l d mn mx r =>
    have : r.len = 0 := by simp only [Fo.len] at h; omega
    cases r with
    | nil => rfl
    | cons => simp [Fo.len] at this
theorem rowF_cons {K : Int} {x r : Fo} (h : x.len = 1) (hr : 1 ≤ r.len) : rowF K (x.app r) = twoF K x (rowF K r) := by
  cases x with
  | nil => simp [Fo.len] at h
  | cons k l d mn mx y =>
    have : y.len = 0 := by simp only [Fo.len] at h; omega
    cases y with
    | nil => rw [Fo.app, Fo.app, rowF, if_neg (by omega)]
    | cons => simp [Fo.len] at this
theorem one_of {d : Fo} (h : d.len = 1) : ∃ k l g mn mx, d = Fo.cons k l g mn mx .nil := by
  cases d with
  | nil => simp [Fo.len] at h
  | cons k l d mn mx r =>
    cases r with
    | nil => exact ⟨k, l, d, mn, mx, rfl⟩
    | cons => simp [Fo.len] at h
theorem nil_of {d : Fo} (h : d.len = 0) : d = .nil := by
  cases d with
  | nil => rfl
  | cons => simp [Fo.len] at h
theorem vfirst {f : Fo} (h : 1 ≤ f.len) : ∃ (k : Int) (l : ByteArray) (d : Fo) (mn mx : Int) (r : Fo), f = .cons k l d mn mx r := by
  cases f with
  | nil => simp [Fo.len] at h
  | cons k l d mn mx r => exact ⟨k, l, d, mn, mx, r, rfl⟩
end Go.Proofs.YtpaehicfndkliaaGreatDoor.De


/- Rows of paths that a call makes, from none on; boxes of paths. No condition. -/
namespace Go.Proofs.YtpaehicfndkliaaGreatDoor.De
open Go.RowKit Go.Lib Na Go.PN Pa

abbrev obj5 (k : Int) (l : ByteArray) (A : Option Addr) (n c : Nat) (mn mx : Int) : Obj := .cells #[.int .i64 k, .string l, .slice A n c, .int .i64 mn, .int .i64 mx] 24
abbrev obj50 : Obj := .cells #[.int .i64 0, .string ⟨#[]⟩, .slice none 0 0, .int .i64 0, .int .i64 0] 24
theorem infoPath : (Tryz.prog.info? 24).map (fun i => (i.zero, i.size, i.bytes)) = some (some (.agg #[.int .i64 0, .string ⟨#[]⟩, .slice none 0 0, .int .i64 0, .int .i64 0]), 5, 64) := by kernel_rfl
theorem iPath : ∃ i, Tryz.prog.info? 24 = some i ∧ i.zero = some (.agg #[.int .i64 0, .string ⟨#[]⟩, .slice none 0 0, .int .i64 0, .int .i64 0]) ∧ i.size = 5 ∧ i.bytes = 64 := by
  have h := infoPath
  cases hi : Tryz.prog.info? 24 with
  | none => rw [hi] at h; cases h
  | some i =>
    rw [hi] at h
    simp only [Option.map_some, Option.some.injEq, Prod.mk.injEq] at h
    exact ⟨i, rfl, h.1, h.2.1, h.2.2⟩
theorem add0 (g j : Nat) : (⟨g, 0, none⟩ : Addr).add j = ⟨g, j, none⟩ := by unfold Addr.add; split <;> simp_all
/-- Five cells lie in a block; they may be written. -/
structure Bx (w : World) (b : Nat) (v0 v1 v2 v3 v4 : Value) : Prop where
  c0 : w.cell? ⟨b, 0, none⟩ = some v0
  c1 : w.cell? ⟨b, 1, none⟩ = some v1
  c2 : w.cell? ⟨b, 2, none⟩ = some v2
  c3 : w.cell? ⟨b, 3, none⟩ = some v3
  c4 : w.cell? ⟨b, 4, none⟩ = some v4
  f0 : w.frozen? ⟨b, 0, none⟩ = false
  f1 : w.frozen? ⟨b, 1, none⟩ = false
  f2 : w.frozen? ⟨b, 2, none⟩ = false
  f3 : w.frozen? ⟨b, 3, none⟩ = false
  f4 : w.frozen? ⟨b, 4, none⟩ = false
abbrev put5 (w : World) (b : Nat) (v0 v1 v2 v3 v4 : Value) : World := ((((w.setCell ⟨b, 0, none⟩ v0).setCell ⟨b, 1, none⟩ v1).setCell ⟨b, 2, none⟩ v2).setCell ⟨b, 3, none⟩ v3).setCell ⟨b, 4, none⟩ v4
section
variable {w w' : World} {b : Nat} {v0 v1 v2 v3 v4 u0 u1 u2 u3 u4 : Value} {X : List Nat}
theorem Bx.lt (h : Bx w b v0 v1 v2 v3 v4) : b < w.heap.size := cell_lt h.c0
theorem Bx.keep (h : Bx w b v0 v1 v2 v3 v4) (hk : w'.heap[b]? = w.heap[b]?) : Bx w' b v0 v1 v2 v3 v4 := by
  have e : ∀ j, w'.cell? ⟨b, j, none⟩ = w.cell? ⟨b, j, none⟩ := fun j => World.cell?_of_block (w := w) hk
  have f : ∀ j, w'.frozen? ⟨b, j, none⟩ = w.frozen? ⟨b, j, none⟩ := fun j => World.frozen?_of_block (w := w) hk
  exact ⟨(e _).trans h.c0, (e _).trans h.c1, (e _).trans h.c2, (e _).trans h.c3, (e _).trans h.c4, (f _).trans h.f0, (f _).trans h.f1, (f _).trans h.f2, (f _).trans h.f3, (f _).trans h.f4⟩
theorem Bx.below (h : Bx w b v0 v1 v2 v3 v4) (hb : Below w.heap.size w w') : Bx w' b v0 v1 v2 v3 v4 := h.keep (hb.block b h.lt)
theorem Bx.al (h : Bx w b v0 v1 v2 v3 v4) (o : Obj) : Bx (w.alloc o) b v0 v1 v2 v3 v4 := h.below ((Below.refl _ _).alloc (Nat.le_refl _) o)
theorem Bx.far (h : Bx w b v0 v1 v2 v3 v4) {p : Addr} (hp : p.block ≠ b) (v : Value) : Bx (w.setCell p v) b v0 v1 v2 v3 v4 := h.keep (Below.heap_setCell _ _ _ _ (Ne.symm hp))
theorem Bx.new (w : World) (v0 v1 v2 v3 v4 : Value) (T : TypeId) : Bx (w.alloc (.cells #[v0, v1, v2, v3, v4] T)) w.heap.size v0 v1 v2 v3 v4 := by
  refine ⟨?_, ?_, ?_, ?_, ?_, ?_, ?_, ?_, ?_, ?_⟩ <;> go_simp
theorem Bx.w5 (h : Bx w b u0 u1 u2 u3 u4) : Bx (put5 w b v0 v1 v2 v3 v4) b v0 v1 v2 v3 v4 := by
  have h0 := h.c0; have h1 := h.c1; have h2 := h.c2; have h3 := h.c3; have h4 := h.c4; have g0 := h.f0; have g1 := h.f1; have g2 := h.f2; have g3 := h.f3; have g4 := h.f4
  refine ⟨?_, ?_, ?_, ?_, ?_, ?_, ?_, ?_, ?_, ?_⟩ <;> go_simp
theorem Bx.far5 (h : Bx w b v0 v1 v2 v3 v4) {g : Nat} (hg : g ≠ b) {x0 x1 x2 x3 x4 : Value} : Bx (put5 w g x0 x1 x2 x3 x4) b v0 v1 v2 v3 v4 :=
  ((((h.far (p := ⟨g, 0, none⟩) hg _).far (p := ⟨g, 1, none⟩) hg _).far (p := ⟨g, 2, none⟩) hg _).far (p := ⟨g, 3, none⟩) hg _).far (p := ⟨g, 4, none⟩) hg _
theorem size_w5 (w : World) (b : Nat) (v0 v1 v2 v3 v4 : Value) : (put5 w b v0 v1 v2 v3 v4).heap.size = w.heap.size := by simp [World.setCell]
theorem below_w5 {B : Nat} {a w : World} (h : Below B a w) (hb : B ≤ b) : Below B a (put5 w b v0 v1 v2 v3 v4) :=
  ((((h.setCell (p := ⟨b, 0, none⟩) hb _).setCell (p := ⟨b, 1, none⟩) hb _).setCell (p := ⟨b, 2, none⟩) hb _).setCell (p := ⟨b, 3, none⟩) hb _).setCell (p := ⟨b, 4, none⟩) hb _
theorem ok_w5 {a : Nd} (h : a.ok w X) (hb : b ∈ X) : a.ok (put5 w b v0 v1 v2 v3 v4) X :=
  ((((h.set (p := ⟨b, 0, none⟩) hb _).set (p := ⟨b, 1, none⟩) hb _).set (p := ⟨b, 2, none⟩) hb _).set (p := ⟨b, 3, none⟩) hb _).set (p := ⟨b, 4, none⟩) hb _
theorem ok_grow {a : Nd} {Y : List Nat} (h : a.ok w X) (hY : ∀ y, y ∈ Y → y ∈ X ∨ w.heap.size ≤ y) : a.ok w Y := ⟨h.1, h.2.1, h.2.2.grow hY⟩
/-- A path in a box of its own can be read. -/
theorem at_box {g : Nat} {k : Int} {l : ByteArray} {A : Option Addr} {c : Nat} {mn mx : Int} {d : Fo} (h : Bx w g (.int .i64 k) (.string l) (.slice A d.len c) (.int .i64 mn) (.int .i64 mx)) (hg : g ∉ X) (ha : Nd.ok w X ⟨k, l, A, c, mn, mx, d⟩) : At w X (.cons k l d mn mx .nil) (some ⟨g, 0, none⟩) :=
  ⟨g, 0, A, c, rfl, hg, ⟨h.c0, h.c1, h.c2, h.c3, h.c4⟩, ha.1, ha.2.1, ha.2.2, trivial⟩
end
/-- What is handed back is a path that can be read; nothing that lay there has turned. -/
def MadeP (w : World) (X : List Nat) (f : Fo) (e : Ending) (w' : World) : Prop := ∃ a : Nd, e = .returned a.v ∧ a.fo .nil = f ∧ a.ok w' X ∧ Below w.heap.size w w'
/-- The cells of a row of paths, whose kids lie in none of the blocks X. -/
def Csl (w : World) (X : List Nat) : Fo → List Value → Prop
  | .nil, cs => cs = []
  | .cons k l d mn mx r, cs => ∃ (K : Option Addr) (c : Nat) (cs' : List Value), cs = .int .i64 k :: .string l :: .slice K d.len c :: .int .i64 mn :: .int .i64 mx :: cs' ∧ d.len ≤ c ∧ c ≤ 9223372036854775807 ∧ At w X d K ∧ Csl w X r cs'
section
variable {w w' : World} {X Y : List Nat} {f f2 : Fo} {cs cs2 : List Value}
theorem Csl.keep (h : Csl w X f cs) (hk : ∀ b, b < w.heap.size → b ∉ X → w'.heap[b]? = w.heap[b]?) : Csl w' X f cs := by
  induction f generalizing cs with
  | nil => exact h
  | cons k l d mn mx r _ ih =>
    obtain ⟨K, c, cs', e, h1, h2, h3, h4⟩ := h
    exact ⟨K, c, cs', e, h1, h2, h3.keep hk, ih h4⟩
theorem Csl.below (h : Csl w X f cs) (hb : Below w.heap.size w w') : Csl w' X f cs := h.keep fun b h1 _ => hb.block b h1
theorem Csl.grow (h : Csl w X f cs) (hY : ∀ y, y ∈ Y → y ∈ X ∨ w.heap.size ≤ y) : Csl w Y f cs := by
  induction f generalizing cs with
  | nil => exact h
  | cons k l d mn mx r _ ih =>
    obtain ⟨K, c, cs', e, h1, h2, h3, h4⟩ := h
    exact ⟨K, c, cs', e, h1, h2, h3.grow hY, ih h4⟩
theorem Csl.app (h : Csl w X f cs) (h2 : Csl w X f2 cs2) : Csl w X (f.app f2) (cs ++ cs2) := by
  induction f generalizing cs with
  | nil => rw [show cs = [] from h]; exact h2
  | cons k l d mn mx r _ ih =>
    obtain ⟨K, c, cs', rfl, h1, h2', h3, h4⟩ := h
    exact ⟨K, c, cs' ++ cs2, rfl, h1, h2', h3, ih h4⟩
theorem Csl.at {g o : Nat} (h : Csl w X f cs) (hX : g ∉ X) (hc : ∀ j u, cs[j]? = some u → w.cell? ⟨g, o + j, none⟩ = some u) : At w X f (some ⟨g, o, none⟩) := by
  induction f generalizing cs o with
  | nil => trivial
  | cons k l d mn mx r _ ih =>
    obtain ⟨K, c, cs', rfl, h1, h2, h3, h4⟩ := h
    refine ⟨g, o, K, c, rfl, hX, ⟨hc 0 _ rfl, hc 1 _ rfl, hc 2 _ rfl, hc 3 _ rfl, hc 4 _ rfl⟩, h1, h2, h3, ?_⟩
    refine ih h4 (fun j u hj => ?_)
    rw [show o + 5 + j = o + (j + 5) from by omega]
    exact hc (j + 5) u hj
theorem Csl.one {a : Nd} (h : a.ok w X) : Csl w X (a.fo .nil) [.int .i64 a.k, .string a.l, .slice a.A a.kids.len a.c, .int .i64 a.mn, .int .i64 a.mx] := ⟨a.A, a.c, [], rfl, h.1, h.2.1, h.2.2, rfl⟩
/-- The cells of a row that lies somewhere. -/
theorem at_csl {b o : Nat} (h : At w X f (some ⟨b, o, none⟩)) : ∃ cs, Csl w X f cs ∧ cs.length = f.len * 5 ∧ ∀ j u, cs[j]? = some u → w.cell? ⟨b, o + j, none⟩ = some u := by
  induction f generalizing o with
  | nil => exact ⟨[], rfl, rfl, fun j u hj => by simp at hj⟩
  | cons k l d mn mx r _ ih =>
    obtain ⟨b', o', K, c, e, hx, hc, h1, h2, h3, h4⟩ := h
    injection e with e
    injection e with e1 e2
    subst e1 e2
    obtain ⟨cs, i1, i2, i3⟩ := ih h4
    refine ⟨_, ⟨K, c, cs, rfl, h1, h2, h3, i1⟩, by simp only [List.length_cons, i2, Fo.len]; omega, fun j u hj => ?_⟩
    match j, hj with
    | 0, hj => injection hj with hj; subst hj; exact hc.1
    | 1, hj => injection hj with hj; subst hj; exact hc.2.1
    | 2, hj => injection hj with hj; subst hj; exact hc.2.2.1
    | 3, hj => injection hj with hj; subst hj; exact hc.2.2.2.1
    | 4, hj => injection hj with hj; subst hj; exact hc.2.2.2.2
    | j + 5, hj =>
      rw [show o + (j + 5) = o + 5 + j from by omega]
      exact i3 j u hj
theorem at_shape {A : Option Addr} (h : At w X f A) (hf : 1 ≤ f.len) : ∃ b o, A = some ⟨b, o, none⟩ := by
  cases f with
  | nil => simp [Fo.len] at hf
  | cons => obtain ⟨b, o, K, c, e, _⟩ := h; exact ⟨b, o, e⟩
end
theorem csl_one (k : Int) (l : ByteArray) (A : Option Addr) (n c : Nat) (mn mx : Int) : ∀ u ∈ [Value.int .i64 k, .string l, .slice A n c, .int .i64 mn, .int .i64 mx], u.oneCell' = true := by
  intro u hu
  simp only [List.mem_cons, List.not_mem_nil, or_false] at hu
  rcases hu with rfl | rfl | rfl | rfl | rfl <;> rfl
theorem lit5 (w : World) (v0 v1 v2 v3 v4 : Value) (T : TypeId) : ∀ j u, [v0, v1, v2, v3, v4][j]? = some u → (w.alloc (.cells #[v0, v1, v2, v3, v4] T)).cell? ((⟨w.heap.size, 0, none⟩ : Addr).add j) = some u := by
  intro j u hj
  rw [add0]
  have hb := Bx.new w v0 v1 v2 v3 v4 T
  match j, hj with
  | 0, hj => injection hj with hj; subst hj; exact hb.c0
  | 1, hj => injection hj with hj; subst hj; exact hb.c1
  | 2, hj => injection hj with hj; subst hj; exact hb.c2
  | 3, hj => injection hj with hj; subst hj; exact hb.c3
  | 4, hj => injection hj with hj; subst hj; exact hb.c4
  | _ + 5, hj => cases hj
/-- The block in which a slice lies. -/
def vb (v : Value) : List Nat := v.ownBlock.toList
/-- A row of paths that the call has made (or none yet); the kids lie in none of X, nor in the row's own block. -/
structure RowN (w : World) (base : Nat) (X : List Nat) (v : Value) (n : Nat) (f : Fo) : Prop where
  len : f.len = n
  own : ∃ cs, w.ownsRow base 24 5 v n cs ∧ Csl w (vb v ++ X) f cs
section
variable {w w' : World} {base : Nat} {X Y : List Nat} {v v' : Value} {n : Nat} {f : Fo}
theorem own_below {e : TypeId} {size : Nat} {cs : List Value} (h : w.ownsRow base e size v n cs) (hb : Below w.heap.size w w') : w'.ownsRow base e size v n cs := by
  rcases h with ⟨h1, ⟨h2, h3⟩ | ⟨g, cap, cur, e, h2, h3, h4, h5, h6, h7⟩⟩
  · exact ⟨h1, Or.inl ⟨h2, h3⟩⟩
  · exact ⟨h1, Or.inr ⟨g, cap, cur, e, h2, (hb.block g (Array.getElem?_eq_some_iff.1 h3).1).trans h3, h4, h5, h6, h7⟩⟩
theorem vb_lt {e : TypeId} {size : Nat} {cs : List Value} (h : w.ownsRow base e size v n cs) : ∀ g ∈ vb v, base ≤ g ∧ g < w.heap.size := by
  intro g hg
  exact h.lt g (by unfold vb at hg; cases hv : v.ownBlock <;> simp_all)
theorem RowN.none (w : World) (base : Nat) (X : List Nat) : RowN w base X (.slice none 0 0) 0 .nil := ⟨rfl, [], ⟨by simp, Or.inl ⟨rfl, rfl⟩⟩, rfl⟩
theorem RowN.lt (h : RowN w base X v n f) : ∀ g ∈ vb v, base ≤ g ∧ g < w.heap.size := by
  obtain ⟨cs, h1, _⟩ := h.own
  exact vb_lt h1
theorem RowN.below (h : RowN w base X v n f) (hb : Below w.heap.size w w') : RowN w' base X v n f := by
  obtain ⟨cs, h1, h2⟩ := h.own
  exact ⟨h.len, cs, own_below h1 hb, h2.below hb⟩
theorem RowN.at (h : RowN w base X v n f) (hX : ∀ x ∈ X, x < base) : ∃ (A : Option Addr) (c : Nat), v = .slice A n c ∧ n ≤ c ∧ c ≤ 9223372036854775807 ∧ At w X f A := by
  obtain ⟨cs, h1, h2⟩ := h.own
  have hlt := vb_lt h1
  have h1' := h1
  rcases h1 with ⟨h3, ⟨rfl, rfl⟩ | ⟨g, cap, cur, rfl, h4, h5, h6, h7, h8, h9⟩⟩
  · have hn : f.len = 0 := h.len
    cases f with
    | nil => exact ⟨_, _, rfl, Nat.le_refl _, by decide, trivial⟩
    | cons => simp [Fo.len] at hn
  · refine ⟨some ⟨g, 0, Option.none⟩, cap, rfl, h6, h7, ?_⟩
    refine (h2.grow (Y := X) (fun y hy => Or.inl (List.mem_append_right _ hy))).at (fun hx => by have := hX g hx; omega) (fun j u hj => ?_)
    have h3 := h1'.cells (g := g) rfl j u hj
    rw [add0] at h3
    rwa [Nat.zero_add]
/-- One path more. -/
theorem RowN.push (h : RowN w base X v n f) (k : Int) (l : ByteArray) (A : Option Addr) (ca : Nat) (mn mx : Int) (kids : Fo) (ha : Nd.ok w (vb v ++ X) ⟨k, l, A, ca, mn, mx, kids⟩)
    {cs : List Value} (hcs : Csl w (vb v ++ X) f cs) (ho : w'.ownsRow base 24 5 v' (n + 1) (cs ++ [.int .i64 k, .string l, .slice A kids.len ca, .int .i64 mn, .int .i64 mx]))
    (hg : (w.alloc (obj5 k l A kids.len ca mn mx)).grownBy w' v.ownBlock) (hat : v'.ownBlock = v.ownBlock ∨ v'.ownBlock = some (w.alloc (obj5 k l A kids.len ca mn mx)).heap.size) :
    RowN w' base X v' (n + 1) (f.app (.cons k l kids mn mx .nil)) := by
  refine ⟨by rw [Fo.app_len, h.len]; rfl, _, ho, ?_⟩
  have c1 : Csl w (vb v ++ X) (f.app (.cons k l kids mn mx .nil)) (cs ++ [.int .i64 k, .string l, .slice A kids.len ca, .int .i64 mn, .int .i64 mx]) := hcs.app (Csl.one ha)
  have c2 : Csl (w.alloc (obj5 k l A kids.len ca mn mx)) (vb v ++ X) (f.app (.cons k l kids mn mx .nil)) (cs ++ [.int .i64 k, .string l, .slice A kids.len ca, .int .i64 mn, .int .i64 mx]) :=
    c1.keep fun b hb _ => Below.heap_alloc _ _ _ hb
  have c3 := c2.grow (Y := vb v' ++ vb v ++ X) (fun y hy => by
    rw [List.mem_append, List.mem_append] at hy
    rcases hy with (hy | hy) | hy
    · rcases hat with e | e
      · exact Or.inl (List.mem_append_left _ (by unfold vb at hy ⊢; rwa [e] at hy))
      · refine Or.inr ?_
        unfold vb at hy
        rw [e] at hy
        simp only [Option.toList_some, List.mem_singleton] at hy
        omega
    · exact Or.inl (List.mem_append_left _ hy)
    · exact Or.inl (List.mem_append_right _ hy))
  have c4 : Csl w' (vb v' ++ vb v ++ X) (f.app (.cons k l kids mn mx .nil)) (cs ++ [.int .i64 k, .string l, .slice A kids.len ca, .int .i64 mn, .int .i64 mx]) :=
    c3.keep fun b hb hbx => hg.block b hb fun e => hbx (by
      rw [List.mem_append, List.mem_append]
      refine Or.inl (Or.inr ?_)
      unfold vb
      rw [← e]; simp)
  exact c4.grow fun y hy => Or.inl (by
    rw [List.mem_append] at hy ⊢
    rcases hy with hy | hy
    · exact Or.inl (List.mem_append_left _ hy)
    · exact Or.inr hy)
theorem Bx.at_below {b : Nat} {v0 v1 v2 v3 v4 : Value} {B : Nat} (h : Bx w b v0 v1 v2 v3 v4) (hb : Below B w w') (hB : b < B) : Bx w' b v0 v1 v2 v3 v4 := h.keep (hb.block b hB)
/-- All that an append of one path leaves. -/
theorem RowN.push_all (h : RowN w base X v n f) (k : Int) (l : ByteArray) (A : Option Addr) (ca : Nat) (mn mx : Int) (kids : Fo) (ha : Nd.ok w (vb v ++ X) ⟨k, l, A, ca, mn, mx, kids⟩)
    {cs : List Value} (hcs : Csl w (vb v ++ X) f cs) (hbase : base ≤ w.heap.size) (ho : w'.ownsRow base 24 5 v' (n + 1) (cs ++ [.int .i64 k, .string l, .slice A kids.len ca, .int .i64 mn, .int .i64 mx]))
    (hg : (w.alloc (obj5 k l A kids.len ca mn mx)).grownBy w' v.ownBlock) (hat : v'.ownBlock = v.ownBlock ∨ v'.ownBlock = some (w.alloc (obj5 k l A kids.len ca mn mx)).heap.size) :
    Hid (RowN w' base X v' (n + 1) (f.app (.cons k l kids mn mx .nil))) ∧ Hid (Below base w w') ∧ Hid (w.heap.size ≤ w'.heap.size) := by
  have hB : Below base w w' := ((Below.refl base w).alloc hbase (obj5 k l A kids.len ca mn mx)).grown hg (by simp; omega) (fun b hb => by
    have := h.lt b (by unfold vb; rw [hb]; simp)
    omega)
  exact ⟨Lib.hid (h.push k l A ca mn mx kids ha hcs ho hg hat), Lib.hid hB, Lib.hid hB.size⟩
theorem own_keep {e : TypeId} {size : Nat} {cs : List Value} (h : w.ownsRow base e size v n cs) (hk : ∀ g ∈ vb v, w'.heap[g]? = w.heap[g]?) : w'.ownsRow base e size v n cs := by
  rcases h with ⟨h1, ⟨h2, h3⟩ | ⟨g, cap, cur, rfl, h2, h3, h4, h5, h6, h7⟩⟩
  · exact ⟨h1, Or.inl ⟨h2, h3⟩⟩
  · exact ⟨h1, Or.inr ⟨g, cap, cur, rfl, h2, (hk g (by simp [vb, Value.ownBlock])).trans h3, h4, h5, h6, h7⟩⟩
theorem RowN.grow (h : RowN w base X v n f) (hY : ∀ y, y ∈ Y → y ∈ X ∨ w.heap.size ≤ y) : RowN w base Y v n f := by
  obtain ⟨cs, h1, h2⟩ := h.own
  refine ⟨h.len, cs, h1, h2.grow fun y hy => ?_⟩
  rw [List.mem_append] at hy ⊢
  rcases hy with hy | hy
  · exact Or.inl (Or.inl hy)
  · rcases hY y hy with h3 | h3
    · exact Or.inl (Or.inr h3)
    · exact Or.inr h3
/-- A store in a box that is not the row's, in which none of the kids lies. -/
theorem RowN.set (h : RowN w base X v n f) {p : Addr} (hb : p.block ∈ X) (hv : p.block ∉ vb v) (x : Value) : RowN (w.setCell p x) base X v n f := by
  obtain ⟨cs, h1, h2⟩ := h.own
  refine ⟨h.len, cs, own_keep h1 (fun g hg => Below.heap_setCell _ _ _ _ (fun e => hv (e ▸ hg))), h2.keep fun g _ hg => Below.heap_setCell _ _ _ _ (fun e => hg (e ▸ List.mem_append_right _ hb))⟩
theorem RowN.w5 (h : RowN w base X v n f) {b : Nat} (hb : b ∈ X) (hv : b ∉ vb v) {v0 v1 v2 v3 v4 : Value} : RowN (put5 w b v0 v1 v2 v3 v4) base X v n f :=
  ((((h.set (p := ⟨b, 0, Option.none⟩) hb hv _).set (p := ⟨b, 1, Option.none⟩) hb hv _).set (p := ⟨b, 2, Option.none⟩) hb hv _).set (p := ⟨b, 3, Option.none⟩) hb hv _).set (p := ⟨b, 4, Option.none⟩) hb hv _
end
theorem bt {B C : Nat} {a b c : World} (h : Below B a b) (h2 : Below C b c) (hBC : B ≤ C) : Below B a c := h.trans (h2.mono hBC)
theorem bd_app2 {f g : Fo} : Bd (f.app g) ↔ Bd f ∧ Bd g := by
  induction f with
  | nil => simp [Fo.app, Bd]
  | cons k l d mn mx r _ ih => simp only [Fo.app, Bd, ih]; exact ⟨fun ⟨a, b, c, d, e⟩ => ⟨⟨a, b, c, d⟩, e⟩, fun ⟨⟨a, b, c, d⟩, e⟩ => ⟨a, b, c, d, e⟩⟩
/-- Facts on a box, for the walk. -/
theorem bx_all {w : World} {b : Nat} {v0 v1 v2 v3 v4 : Value} (h : Bx w b v0 v1 v2 v3 v4) : (w.cell? ⟨b, 0, none⟩ = some v0 ∧ w.cell? ⟨b, 1, none⟩ = some v1 ∧ w.cell? ⟨b, 2, none⟩ = some v2 ∧ w.cell? ⟨b, 3, none⟩ = some v3 ∧ w.cell? ⟨b, 4, none⟩ = some v4) ∧ w.frozen? ⟨b, 0, none⟩ = false ∧ w.frozen? ⟨b, 1, none⟩ = false ∧ w.frozen? ⟨b, 2, none⟩ = false ∧ w.frozen? ⟨b, 3, none⟩ = false ∧ w.frozen? ⟨b, 4, none⟩ = false :=
  ⟨⟨h.c0, h.c1, h.c2, h.c3, h.c4⟩, h.f0, h.f1, h.f2, h.f3, h.f4⟩
end Go.Proofs.YtpaehicfndkliaaGreatDoor.De


/- The walks of 'two', 'star', 'maybe'. Condition: the paths can be read. -/
namespace Go.Proofs.YtpaehicfndkliaaGreatDoor.De
open Go.RowKit Go.Lib Na Go.PN Pa

/-- A row that has just been laid can be read. -/
theorem new_cell (w : World) (cs : List Value) (T : TypeId) (j : Nat) (u : Value) (h : cs[j]? = some u) : (w.alloc (.cells cs.toArray T)).cell? ⟨w.heap.size, j, none⟩ = some u := by
  unfold World.cell?
  rw [show (⟨w.heap.size, j, none⟩ : Addr).block = w.heap.size from rfl, heap_alloc_new w]
  simp [h]
theorem at_new {w : World} {X : List Nat} {f : Fo} {cs : List Value} (T : TypeId) (h : Csl w X f cs) (hX : ∀ x ∈ X, x < w.heap.size) : At (w.alloc (.cells cs.toArray T)) X f (some ⟨w.heap.size, 0, none⟩) := by
  refine (h.below ((Below.refl _ _).alloc (Nat.le_refl _) _)).at (fun hx => by have := hX _ hx; omega) fun j u hj => ?_
  rw [Nat.zero_add]
  exact new_cell w cs T j u hj
set_option maxRecDepth 100000 in
set_option maxHeartbeats 4000000 in
theorem two_any (K : Int) (a b : Nd) (X : List Nat) (w : World) (ha : a.ok w X) (hb : b.ok w X) (hX : ∀ x ∈ X, x < w.heap.size) :
    Calls Tryz.prog 66 #[.int .i64 K, a.v, b.v] w (MadeP w X (twoF K (a.fo .nil) (b.fo .nil))) := by
  obtain ⟨k1, l1, A1, c1, mn1, mx1, d1⟩ := a
  obtain ⟨k2, l2, A2, c2, mn2, mx2, d2⟩ := b
  have HO := Lib.hid (show ∀ o1 o2 o3 : Obj, Nd.ok ((((w.alloc o1).alloc o2).alloc o3).alloc (.cells [.int .i64 k1, .string l1, .slice A1 d1.len c1, .int .i64 mn1, .int .i64 mx1, .int .i64 k2, .string l2, .slice A2 d2.len c2, .int .i64 mn2, .int .i64 mx2].toArray 24)) X ⟨K, ⟨#[]⟩, some ⟨w.heap.size + 1 + 1 + 1, 0, none⟩, 2, 0, 0, .cons k1 l1 d1 mn1 mx1 (.cons k2 l2 d2 mn2 mx2 .nil)⟩ from fun o1 o2 o3 => ⟨Nat.le_refl _, Nat.le_of_ble_eq_true rfl, by
      have h := at_new 24 ((Csl.one (((ha.al o1).al o2).al o3)).app (Csl.one (((hb.al o1).al o2).al o3))) (fun x hx => by have := hX x hx; simp; omega)
      have e : (((w.alloc o1).alloc o2).alloc o3).heap.size = w.heap.size + 1 + 1 + 1 := by simp
      rw [e] at h
      exact h⟩)
  have HB := Lib.hid (show ∀ o1 o2 o3 o4 : Obj, Below w.heap.size w ((((w.alloc o1).alloc o2).alloc o3).alloc o4) from fun o1 o2 o3 o4 => ((((Below.refl _ w).alloc (by simp) o1).alloc (by simp) o2).alloc (by simp; omega) o3).alloc (by simp; omega) o4)
  unfold Nd.v
  clear ha hb hX
  simp only
  go_enter Tryz.func66, Tryz.ntmps66
  go_wp2_with fail
  exact bodyPost_ret (v := .agg #[.int .i64 K, .string ⟨#[]⟩, .slice (some ⟨w.heap.size + 1 + 1 + 1, 0, none⟩) 2 2, .int .i64 0, .int .i64 0]) (by simp [results, Tryz.results66, go_sem]) rfl ⟨⟨K, ⟨#[]⟩, some ⟨w.heap.size + 1 + 1 + 1, 0, none⟩, 2, 0, 0, .cons k1 l1 d1 mn1 mx1 (.cons k2 l2 d2 mn2 mx2 .nil)⟩, rfl, rfl, HO.out _ _ _, HB.out _ _ _ _⟩
set_option maxRecDepth 100000 in
set_option maxHeartbeats 4000000 in
theorem star_any (a : Nd) (X : List Nat) (w : World) (ha : a.ok w X) (hX : ∀ x ∈ X, x < w.heap.size) :
    Calls Tryz.prog 65 #[a.v] w (MadeP w X (starF (a.fo .nil))) := by
  obtain ⟨k1, l1, A1, c1, mn1, mx1, d1⟩ := a
  have HO := Lib.hid (show ∀ o1 o2 : Obj, Nd.ok (((w.alloc o1).alloc o2).alloc (.cells [.int .i64 k1, .string l1, .slice A1 d1.len c1, .int .i64 mn1, .int .i64 mx1].toArray 24)) X ⟨6, ⟨#[]⟩, some ⟨w.heap.size + 1 + 1, 0, none⟩, 1, 0, 0, .cons k1 l1 d1 mn1 mx1 .nil⟩ from fun o1 o2 => ⟨Nat.le_refl _, Nat.le_of_ble_eq_true rfl, by
      have h := at_new 24 (Csl.one ((ha.al o1).al o2)) (fun x hx => by have := hX x hx; simp; omega)
      have e : ((w.alloc o1).alloc o2).heap.size = w.heap.size + 1 + 1 := by simp
      rw [e] at h
      exact h⟩)
  have HB := Lib.hid (show ∀ o1 o2 o3 : Obj, Below w.heap.size w (((w.alloc o1).alloc o2).alloc o3) from fun o1 o2 o3 => (((Below.refl _ w).alloc (by simp) o1).alloc (by simp) o2).alloc (by simp; omega) o3)
  unfold Nd.v
  clear ha hX
  simp only
  go_enter Tryz.func65, Tryz.ntmps65
  go_wp2_with fail
  exact bodyPost_ret (v := .agg #[.int .i64 6, .string ⟨#[]⟩, .slice (some ⟨w.heap.size + 1 + 1, 0, none⟩) 1 1, .int .i64 0, .int .i64 0]) (by simp [results, Tryz.results65, go_sem]) rfl ⟨⟨6, ⟨#[]⟩, some ⟨w.heap.size + 1 + 1, 0, none⟩, 1, 0, 0, .cons k1 l1 d1 mn1 mx1 .nil⟩, rfl, rfl, HO.out _ _, HB.out _ _ _⟩
/-- What is handed back out of a box of the call's own. -/
theorem made_w5 {w w2 : World} {X : List Nat} {b : Nat} {a : Nd} {f : Fo} (hfo : a.fo .nil = f) (hok : a.ok w2 (b :: X)) (hb : Below w.heap.size w w2) (hbz : w.heap.size ≤ b) (v0 v1 v2 v3 v4 : Value) :
    MadeP w X f (.returned a.v) (put5 w2 b v0 v1 v2 v3 v4) :=
  ⟨a, rfl, hfo, (ok_w5 hok (by simp)).less (fun y hy => List.mem_cons_of_mem _ hy), below_w5 hb hbz⟩
set_option maxRecDepth 100000 in
set_option maxHeartbeats 4000000 in
theorem maybe_any (a : Nd) (X : List Nat) (w : World) (ha : a.ok w X) (hX : ∀ x ∈ X, x < w.heap.size) :
    Calls Tryz.prog 67 #[a.v] w (MadeP w X (maybeF (a.fo .nil))) := by
  have HT := Lib.hid (show ∀ o1 o2 : Obj, Calls Tryz.prog 66 #[.int .i64 5, .agg #[.int .i64 1, .string ⟨#[]⟩, .slice none 0 0, .int .i64 0, .int .i64 0], a.v] ((w.alloc o1).alloc o2) (MadeP ((w.alloc o1).alloc o2) ((w.heap.size + 1) :: X) (maybeF (a.fo .nil))) from fun o1 o2 =>
    two_any 5 ⟨1, ⟨#[]⟩, none, 0, 0, 0, .nil⟩ a _ _ ⟨Nat.le_refl _, Nat.zero_le _, trivial⟩ (((ha.al o1).more (w.heap.size + 1) (by simp)).al o2) (fun x hx => by
      rcases List.mem_cons.1 hx with rfl | hx
      · simp
      · have := hX x hx; simp; omega))
  have HB := Lib.hid (show ∀ o1 o2 : Obj, Below w.heap.size w ((w.alloc o1).alloc o2) from fun o1 o2 => ((Below.refl _ w).alloc (by simp) o1).alloc (by simp) o2)
  have HZ := Lib.hid (show ∀ o1 : Obj, Bx ((w.alloc o1).alloc obj50) (w.heap.size + 1) (.int .i64 0) (.string ⟨#[]⟩) (.slice none 0 0) (.int .i64 0) (.int .i64 0) from fun o1 => by
    have := Bx.new (w.alloc o1) (.int .i64 0) (.string ⟨#[]⟩) (.slice none 0 0) (.int .i64 0) (.int .i64 0) 24
    simpa using this)
  have HS := Lib.hid (show ∀ o1 o2 : Obj, w.heap.size ≤ ((w.alloc o1).alloc o2).heap.size from fun o1 o2 => by simp; omega)
  unfold Nd.v at HT ⊢
  clear ha hX
  go_enter Tryz.func67, Tryz.ntmps67
  go_wp2_with (first | (go_at_call 66; (with_reducible refine (HT.out _ _).mono ?_); rintro e w2 ⟨⟨k, l, A, c, mn, mx, d⟩, rfl, hfo, hok, hb2⟩; have HF := Lib.hid hfo; have HO := Lib.hid hok; have HB2 := Lib.hid ((HB.out _ _).trans (hb2.mono (HS.out _ _))); obtain ⟨⟨z0, z1, z2, z3, z4⟩, y0, y1, y2, y3, y4⟩ := bx_all ((HZ.out _).below hb2); clear hfo hok hb2))
  exact bodyPost_ret (v := (⟨k, l, A, c, mn, mx, d⟩ : Nd).v) (by simp [results, Tryz.results67, go_sem, z0, z1, z2, z3, z4]) rfl (made_w5 HF.out HO.out HB2.out (by omega) _ _ _ _ _)
end Go.Proofs.YtpaehicfndkliaaGreatDoor.De
