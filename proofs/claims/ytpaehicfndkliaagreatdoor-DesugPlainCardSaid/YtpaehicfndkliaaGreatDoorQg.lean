/- The reader of paths: what each of its parts does; variables of five cells. No condition. -/
import Derived.Test.YtpaehicfndkliaaGreatDoorQf
namespace Go.Proofs.YtpaehicfndkliaaGreatDoor.Pa
open Go.RowKit Go.Lib Na Go.PN

/-- How this program reads numbers. -/
def NP : Num := ⟨fun t => some (numR t), fun t => some (numR t), fun _ => 4000⟩
theorem numR_back (m : Int) (c : UInt8) (r : List UInt8) (h0 : 0 ≤ m) (h8 : m ≤ 8) (hc : digB c = false) : numR (itoa m ++ c :: r) = (m, c :: r) := by
  have key : ∀ x : UInt8, itoa m = [x] → digB x = true → Lib.atoiAll [x] = .ok m → numR (itoa m ++ c :: r) = (m, c :: r) := by
    intro x he hx hv
    rw [he]
    unfold numR
    have : digN ([x] ++ c :: r) = 1 := by
      show digN (x :: c :: r) = 1
      rw [digN_cons, if_pos hx, digN_cons, hc]
      rfl
    rw [this]
    show (numV [x], c :: r) = _
    unfold numV
    rw [hv]
  rcases (show m = 0 ∨ m = 1 ∨ m = 2 ∨ m = 3 ∨ m = 4 ∨ m = 5 ∨ m = 6 ∨ m = 7 ∨ m = 8 from by omega) with rfl | rfl | rfl | rfl | rfl | rfl | rfl | rfl | rfl
  · exact key 48 (by simp [itoa, decDigits]) (by decide) (by decide)
  · exact key 49 (by simp [itoa, decDigits]) (by decide) (by decide)
  · exact key 50 (by simp [itoa, decDigits]) (by decide) (by decide)
  · exact key 51 (by simp [itoa, decDigits]) (by decide) (by decide)
  · exact key 52 (by simp [itoa, decDigits]) (by decide) (by decide)
  · exact key 53 (by simp [itoa, decDigits]) (by decide) (by decide)
  · exact key 54 (by simp [itoa, decDigits]) (by decide) (by decide)
  · exact key 55 (by simp [itoa, decDigits]) (by decide) (by decide)
  · exact key 56 (by simp [itoa, decDigits]) (by decide) (by decide)
theorem np_good : GN NP where
  mn m c r h0 h8 hc := congrArg some (numR_back m c r h0 h8 hc)
  mx m c r h0 h8 hc := congrArg some (numR_back m c r h0 h8 hc)
  no c r hc := by
    show some (numR (c :: r)) = _
    unfold numR
    rw [digN_cons, hc]
    rfl
  most u := Or.inr (by show 60 ≤ 4000; decide)
/-- What is left of a text. -/
structure Sf (s : ByteArray) (t : List UInt8) : Prop where
  le : t.length ≤ s.size
  dr : s.data.toList.drop (s.size - t.length) = t
theorem Sf.whole (s : ByteArray) : Sf s s.data.toList := by
  have : s.data.toList.length = s.size := by simp
  exact ⟨by omega, by rw [this, Nat.sub_self]; rfl⟩
theorem Sf.of {s : ByteArray} {p t : List UInt8} (h : s.data.toList = p ++ t) : Sf s t := by
  have hz : s.data.toList.length = s.size := by simp
  have h1 := congrArg List.length h
  rw [hz, List.length_append] at h1
  refine ⟨by omega, ?_⟩
  rw [h, show s.size - t.length = p.length from by omega, List.drop_left]
theorem Sf.pre {s : ByteArray} {t : List UInt8} (h : Sf s t) : s.data.toList = s.data.toList.take (s.size - t.length) ++ t := by
  have := (List.take_append_drop (s.size - t.length) s.data.toList).symm
  rwa [h.dr] at this
theorem Sf.suf {s : ByteArray} {t q u : List UInt8} (h : Sf s t) (e : t = q ++ u) : Sf s u := by
  have h1 := h.pre
  rw [e, ← List.append_assoc] at h1
  exact Sf.of h1
/-- Where a reader stands that has this text ahead. -/
abbrev pos (s : ByteArray) (t : List UInt8) : Int := ((s.size - t.length : Nat) : Int)
theorem Sf.next {s : ByteArray} {c : UInt8} {u : List UInt8} (h : Sf s (c :: u)) : Sf s u ∧ ((s.size - (c :: u).length + 1 : Nat) : Int) = pos s u := by
  refine ⟨h.suf (q := [c]) rfl, ?_⟩
  have := h.le
  rw [List.length_cons] at *
  unfold pos
  omega
/-- A variable of five cells. -/
structure Bx (w : World) (b : Nat) (v0 v1 v2 v3 v4 : Value) : Prop where
  c0 : w.cell? ⟨b, 0, none⟩ = some v0
  c1 : w.cell? ⟨b, 1, none⟩ = some v1
  c2 : w.cell? ⟨b, 2, none⟩ = some v2
  c3 : w.cell? ⟨b, 3, none⟩ = some v3
  c4 : w.cell? ⟨b, 4, none⟩ = some v4
  f0 : w.frozen? ⟨b, 0, none⟩ = false
  f1 : w.frozen? ⟨b, 1, none⟩ = false
  f2 : w.frozen? ⟨b, 2, none⟩ = false
  f3 : w.frozen? ⟨b, 3, none⟩ = false
  f4 : w.frozen? ⟨b, 4, none⟩ = false
section
variable {w w' : World} {b : Nat} {v0 v1 v2 v3 v4 : Value} {X : List Nat}
theorem Bx.lt (h : Bx w b v0 v1 v2 v3 v4) : b < w.heap.size := cell_lt h.c0
theorem Bx.keep (h : Bx w b v0 v1 v2 v3 v4) (hk : w'.heap[b]? = w.heap[b]?) : Bx w' b v0 v1 v2 v3 v4 := by
  have e : ∀ j, w'.cell? ⟨b, j, none⟩ = w.cell? ⟨b, j, none⟩ := fun j => World.cell?_of_block (w := w) hk
  have f : ∀ j, w'.frozen? ⟨b, j, none⟩ = w.frozen? ⟨b, j, none⟩ := fun j => World.frozen?_of_block (w := w) hk
  exact ⟨(e _).trans h.c0, (e _).trans h.c1, (e _).trans h.c2, (e _).trans h.c3, (e _).trans h.c4, (f _).trans h.f0, (f _).trans h.f1, (f _).trans h.f2, (f _).trans h.f3, (f _).trans h.f4⟩
theorem Bx.kp (h : Bx w b v0 v1 v2 v3 v4) (hk : Kp X w w') (hx : b ∉ X) : Bx w' b v0 v1 v2 v3 v4 := h.keep (hk.block b h.lt hx)
theorem Bx.below (h : Bx w b v0 v1 v2 v3 v4) (hb : Below w.heap.size w w') : Bx w' b v0 v1 v2 v3 v4 := h.keep (hb.block b h.lt)
theorem Bx.al (h : Bx w b v0 v1 v2 v3 v4) (o : Obj) : Bx (w.alloc o) b v0 v1 v2 v3 v4 := h.below ((Below.refl _ _).alloc (Nat.le_refl _) o)
theorem Bx.drewN (h : Bx w b v0 v1 v2 v3 v4) (n : Nat) : Bx (w.drewN n) b v0 v1 v2 v3 v4 := h.below (below_drewN _ _ _)
theorem Bx.far (h : Bx w b v0 v1 v2 v3 v4) {p : Addr} (hp : p.block ≠ b) (v : Value) : Bx (w.setCell p v) b v0 v1 v2 v3 v4 := h.keep (Below.heap_setCell _ _ _ _ (Ne.symm hp))
theorem Bx.new (w : World) (v0 v1 v2 v3 v4 : Value) (T : TypeId) : Bx (w.alloc (.cells #[v0, v1, v2, v3, v4] T)) w.heap.size v0 v1 v2 v3 v4 := by
  refine ⟨?_, ?_, ?_, ?_, ?_, ?_, ?_, ?_, ?_, ?_⟩ <;> go_simp
theorem Bx.set3 (h : Bx w b v0 v1 v2 v3 v4) (x : Int) : Bx (w.setCell ⟨b, 3, none⟩ (.int .i64 x)) b v0 v1 v2 (.int .i64 x) v4 := by
  have h0 := h.c0; have h1 := h.c1; have h2 := h.c2; have h3 := h.c3; have h4 := h.c4; have g0 := h.f0; have g1 := h.f1; have g2 := h.f2; have g3 := h.f3; have g4 := h.f4
  refine ⟨?_, ?_, ?_, ?_, ?_, ?_, ?_, ?_, ?_, ?_⟩ <;> go_simp
theorem Bx.set4 (h : Bx w b v0 v1 v2 v3 v4) (x : Int) : Bx (w.setCell ⟨b, 4, none⟩ (.int .i64 x)) b v0 v1 v2 v3 (.int .i64 x) := by
  have h0 := h.c0; have h1 := h.c1; have h2 := h.c2; have h3 := h.c3; have h4 := h.c4; have g0 := h.f0; have g1 := h.f1; have g2 := h.f2; have g3 := h.f3; have g4 := h.f4
  refine ⟨?_, ?_, ?_, ?_, ?_, ?_, ?_, ?_, ?_, ?_⟩ <;> go_simp
end
/-- Five cells written. -/
abbrev put5 (w : World) (b : Nat) (v0 v1 v2 v3 v4 : Value) : World := ((((w.setCell ⟨b, 0, none⟩ v0).setCell ⟨b, 1, none⟩ v1).setCell ⟨b, 2, none⟩ v2).setCell ⟨b, 3, none⟩ v3).setCell ⟨b, 4, none⟩ v4
section
variable {w w' : World} {b : Nat} {v0 v1 v2 v3 v4 u0 u1 u2 u3 u4 : Value} {X : List Nat}
theorem Kp.w5 (h : Kp X w w') (hb : b ∈ X ∨ w.heap.size ≤ b) : Kp X w (put5 w' b v0 v1 v2 v3 v4) :=
  ((((h.set (p := ⟨b, 0, none⟩) hb _).set (p := ⟨b, 1, none⟩) hb _).set (p := ⟨b, 2, none⟩) hb _).set (p := ⟨b, 3, none⟩) hb _).set (p := ⟨b, 4, none⟩) hb _
theorem RS.w5 {R : Nat} {s : ByteArray} {i d : Int} (h : RS w R s i d) (hb : b ≠ R) : RS (put5 w b v0 v1 v2 v3 v4) R s i d :=
  ((((h.far (p := ⟨b, 0, none⟩) hb _).far (p := ⟨b, 1, none⟩) hb _).far (p := ⟨b, 2, none⟩) hb _).far (p := ⟨b, 3, none⟩) hb _).far (p := ⟨b, 4, none⟩) hb _
theorem Nd.ok.w5 {a : Nd} (h : a.ok w X) (hb : b ∈ X) : a.ok (put5 w b v0 v1 v2 v3 v4) X :=
  ((((h.set (p := ⟨b, 0, none⟩) hb _).set (p := ⟨b, 1, none⟩) hb _).set (p := ⟨b, 2, none⟩) hb _).set (p := ⟨b, 3, none⟩) hb _).set (p := ⟨b, 4, none⟩) hb _
theorem Nd.ok.grow2 {a : Nd} {Y : List Nat} (h : a.ok w X) (hY : ∀ y, y ∈ Y → y ∈ X ∨ w.heap.size ≤ y) : a.ok w Y := ⟨h.1, h.2.1, h.2.2.grow hY⟩
theorem Kp.nd2 {a : Nd} {Y : List Nat} (h : Kp X w w') (hY : ∀ x ∈ X, x ∈ Y) (ha : a.ok w Y) : a.ok w' Y := ha.keep fun b h1 h2 => h.block b h1 fun hx => h2 (hY b hx)
theorem Bx.w5 (h : Bx w b u0 u1 u2 u3 u4) : Bx (put5 w b v0 v1 v2 v3 v4) b v0 v1 v2 v3 v4 := by
  have h0 := h.c0; have h1 := h.c1; have h2 := h.c2; have h3 := h.c3; have h4 := h.c4; have g0 := h.f0; have g1 := h.f1; have g2 := h.f2; have g3 := h.f3; have g4 := h.f4
  refine ⟨?_, ?_, ?_, ?_, ?_, ?_, ?_, ?_, ?_, ?_⟩ <;> go_simp
theorem Bx.far5 {b2 : Nat} (h : Bx w b u0 u1 u2 u3 u4) (hb : b2 ≠ b) : Bx (put5 w b2 v0 v1 v2 v3 v4) b u0 u1 u2 u3 u4 :=
  ((((h.far (p := ⟨b2, 0, none⟩) hb _).far (p := ⟨b2, 1, none⟩) hb _).far (p := ⟨b2, 2, none⟩) hb _).far (p := ⟨b2, 3, none⟩) hb _).far (p := ⟨b2, 4, none⟩) hb _
end
/-- What a part of the reader does. -/
def RdP (R : Nat) (X : List Nat) (s : ByteArray) (d : Int) (r : Option (Fo × List UInt8)) (w : World) (e : Ending) (w' : World) : Prop :=
  match r with
  | some (p, u) => ∃ a : Nd, e = .returned a.v ∧ a.fo .nil = p ∧ a.ok w' X ∧ Kp [R] w w' ∧ RS w' R s (pos s u) d
  | none => Left R w e w'
def hd (c : UInt8) (t : List UInt8) : Bool := t.head? == some c
theorem hd_true {c : UInt8} {t : List UInt8} (h : hd c t = true) : ∃ u, t = c :: u := by
  cases t with
  | nil => cases h
  | cons b u => exact ⟨u, by unfold hd at h; simp at h; rw [h]⟩
theorem is_rd (R : Nat) (s : ByteArray) (d : Int) (c : UInt8) (cv : Int) (hcv : (c.toNat : Int) = cv) (t : List UInt8) (w : World) (h : RS w R s (pos s t) d) (ht : Sf s t) (hm : s.size ≤ 1000000) :
    Calls Tryz.prog 117 #[.pointer (some ⟨R, 0, none⟩), .int .u8 cv] w fun e w' => e = .returned (.bool (hd c t)) ∧ Kp [R] w w' ∧ RS w' R s (pos s (if hd c t then t.tail else t)) d := by
  subst hcv
  rcases t with _ | ⟨b, u⟩
  · exact is_end R s _ d c w h ht.dr (by omega)
  · by_cases e : b = c
    · subst e
      have e1 : hd b (b :: u) = true := by simp [hd]
      rw [e1]
      have h2 := is_that R s _ d b u w h ht.dr (by omega)
      rw [ht.next.2] at h2
      exact h2
    · have e1 : hd c (b :: u) = false := by unfold hd; simpa using e
      rw [e1]
      exact is_other R s _ d b c u w h ht.dr (by omega) e
theorem num_rd2 (R : Nat) (s : ByteArray) (d : Int) (t : List UInt8) (w : World) (h : RS w R s (pos s t) d) (ht : Sf s t) (hm : s.size ≤ 1000000) (hE : Er w R) :
    Calls Tryz.prog 126 #[.pointer (some ⟨R, 0, none⟩)] w fun e w' => e = .returned (.int .i64 (numR t).1) ∧ Kp [R] w w' ∧ RS w' R s (pos s (numR t).2) d :=
  num_rd R s _ d t w h ht.dr (by omega) hm hE
theorem numR_suf (t : List UInt8) : t = t.take (digN t) ++ (numR t).2 := (List.take_append_drop _ _).symm
theorem name_rd2 (R : Nat) (s : ByteArray) (d : Int) (t : List UInt8) (w : World) (h : RS w R s (pos s t) d) (ht : Sf s t) (hm : s.size ≤ 1000000) :
    Calls Tryz.prog 125 #[.pointer (some ⟨R, 0, none⟩)] w (NameRd R s d t w) := name_rd R s _ d t w h ht.dr (by omega) hm
theorem hd_false {c : UInt8} {t : List UInt8} (h : hd c t = false) : t.head? ≠ some c := by
  intro e; unfold hd at h; rw [e] at h; simp at h
theorem repR_no1 {N : Num} {p : Fo} {t u : List UInt8} {m : Int} (h : N.mn t = some (m, u)) (hh : hd 44 u = false) : repR N p t = none := by
  unfold repR; rw [h]; simp only; rw [if_neg (hd_false hh)]
theorem repR_no2 {N : Num} {p : Fo} {t u v : List UInt8} {m x : Int} (h : N.mn t = some (m, 44 :: u)) (h2 : N.mx u = some (x, v)) (hh : hd 125 v = false) : repR N p t = none := by
  unfold repR; rw [h]; simp only [List.head?_cons, if_true, List.tail_cons]; rw [h2]; simp only; rw [if_neg (hd_false hh)]
theorem repR_ok {N : Num} {p : Fo} {t u v : List UInt8} {m x : Int} (h : N.mn t = some (m, 44 :: u)) (h2 : N.mx u = some (x, 125 :: v)) : repR N p t = some (one1 9 [] p m x, v) := by
  unfold repR; rw [h]; simp only [List.head?_cons, if_true, List.tail_cons]; rw [h2]; simp only [List.head?_cons, if_true, List.tail_cons]
/-- One path in a row of its own. -/
theorem at_one {w : World} {X : List Nat} {b : Nat} {a : Nd} (h : Bx w b (.int .i64 a.k) (.string a.l) (.slice a.A a.kids.len a.c) (.int .i64 a.mn) (.int .i64 a.mx)) (ha : a.ok w X) (hb : b ∉ X) : At w X (a.fo .nil) (some ⟨b, 0, none⟩) :=
  ⟨b, 0, a.A, a.c, rfl, hb, ⟨h.c0, h.c1, h.c2, h.c3, h.c4⟩, ha.1, ha.2.1, ha.2.2, trivial⟩
end Go.Proofs.YtpaehicfndkliaaGreatDoor.Pa
